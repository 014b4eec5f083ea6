/- Exts: Count. -/
import Derived.Test.YtgpjldmndibalaaExtsCheck
namespace Go.Proofs.Ytgpjldmndibalaa
open Go Go.RowKit

namespace Exts
def sumE (l : EL) : Int := (l.map (·.2.2)).sum
def countR (l : EL) : Int := if okTo l l.length then sumE l else 0
theorem sumE_next (l : EL) (j : Nat) (h : j < l.length) : sumE (l.take (j + 1)) = sumE (l.take j) + (l.getD j (0, 0, 0)).2.2 := by
  unfold sumE
  rw [List.take_succ_eq_append_getElem h, List.map_append, List.sum_append]
  simp [List.getD, h]
theorem sumE_bound (l : EL) (h : Row l) (j : Nat) (hj : j ≤ l.length) : 0 ≤ sumE (l.take j) ∧ sumE (l.take j) ≤ 4096 * j := by
  induction j with
  | zero => simp [sumE]
  | succ j ih =>
    have := ih (by omega)
    rw [sumE_next l j (by omega)]
    have hm := h.may (l.getD j (0, 0, 0)) (by simp [List.getD, show j < l.length by omega])
    unfold may at hm
    omega
end Exts

set_option maxRecDepth 100000 in
set_option maxHeartbeats 2000000 in
theorem ecount_any (v : Value) (l : EL) (w : World) (hs : SmallsE l) (h : ExtsAt w v l) (hl : l.length ≤ 1000000000) :
    Calls Try.prog 21 #[v] w fun e w' => e = .returned (.int .i64 (Exts.countR l)) ∧ Below w.heap.size w w' := by
  have q := Lib.hid (echeck_any v l w hs h hl)
  have H := Lib.hid h
  obtain ⟨ad, cap, rfl⟩ : ∃ ad cap, v = .slice ad l.length cap := by
    rcases h with ⟨rfl, rfl⟩ | ⟨b, off, cap, rfl, _⟩
    · exact ⟨_, _, rfl⟩
    · exact ⟨_, _, rfl⟩
  cases hok : Exts.okTo l l.length
  · rw [hok] at q
    have hE : Hid (Exts.countR l = 0) := Lib.hid (by unfold Exts.countR; rw [hok]; rfl)
    clear h hok
    go_enter Try.func21, Try.ntmps21
    go_wp2_with fail
    refine q.out.mono ?_
    rintro e w1 ⟨rfl, b1⟩
    have B1 := Lib.hid b1
    clear b1
    go_wp2_with fail
    go_ret
    exact ⟨by rw [hE.out]; rfl, B1.out⟩
  · rw [hok] at q
    have hE : Hid (Exts.countR l = Exts.sumE l) := Lib.hid (by unfold Exts.countR; rw [hok]; rfl)
    have HR := Lib.hid (Exts.check_row.1 hok)
    clear h hok
    go_enter Try.func21, Try.ntmps21
    go_wp2_with fail
    refine q.out.mono ?_
    rintro e w1 ⟨rfl, b1⟩
    have B1 := Lib.hid b1
    clear b1
    go_wp2_with fail
    go_loopw [3, 11] (fun p q wr => ∃ j : Nat, j ≤ l.length ∧ q = .int .i64 j ∧ p = .int .i64 (Exts.sumE (l.take j)) ∧ Hid (Below w.heap.size w wr)) (fun _ q _ => l.length - (intOf q).toNat)
    case atStart => exact ⟨0, by omega, rfl, rfl, B1⟩
    case round =>
      obtain ⟨j, hj, rfl, rfl, hb⟩ := hrel
      by_cases hlt : j < l.length
      · have i0 : (0 : Int) ≤ (j : Int) := by omega
        have i1 : (j : Int) < (l.length : Int) := by omega
        obtain ⟨hll, g, off, rfl, c0, c1, c2⟩ := (H.out.below (B := 0) hb.out).cells j hlt
        clear hll
        have hnx := Lib.hid (Exts.sumE_next l j hlt)
        have hbd := Exts.sumE_bound l HR.out j hj
        have hbd2 := Exts.sumE_bound l HR.out (j + 1) hlt
        rw [hnx.out] at hbd2
        have B2 := Lib.hid (hb.out.alloc hb.out.size (.cells #[.int .i64 (l.getD j (0, 0, 0)).1, .int .i64 (l.getD j (0, 0, 0)).2.1, .int .i64 (l.getD j (0, 0, 0)).2.2] 37))
        generalize l.getD j (0, 0, 0) = x at *
        obtain ⟨xa, xb, xc⟩ := x
        dsimp only at *
        generalize Exts.sumE (l.take j) = sm at *
        go_wp2_with fail
        go_roundw
        case rel => exact ⟨j + 1, by omega, by go_num, by rw [hnx.out], B2⟩
        case measure => simp [intOf]; omega
      · obtain rfl : j = l.length := by omega
        go_wp2_with fail
        go_ret
        exact ⟨by rw [hE.out, List.take_length]; rfl, hb.out⟩

end Go.Proofs.Ytgpjldmndibalaa
