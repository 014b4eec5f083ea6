/- The document's Minus. -/
import Derived.Test.YtgpjldmndibalaaRunsRefCut
namespace Go.Proofs.Ytgpjldmndibalaa
open Go Go.RowKit

theorem minus_next (a b : RL) (j : Nat) (hj : j < b.length) : Runs.minusR a (b.take (j + 1)) = if Runs.may (b.getD j (0, 0)) then Runs.cutR (Runs.minusR a (b.take j)) (b.getD j (0, 0)) else Runs.minusR a (b.take j) := by
  unfold Runs.minusR
  rw [List.take_succ_eq_append_getElem hj, List.foldl_append]
  simp [List.getD, hj]

set_option maxRecDepth 100000 in
set_option maxHeartbeats 4000000 in
theorem minus2_any (va vb : Value) (a b : RL) (w : World) (ha : Smalls a) (hb : Smalls b) (h1 : RunsAt w va a) (h2 : RunsAt w vb b) (hla : a.length ≤ 10000000) (hlb : b.length ≤ 10000000) :
    Calls Try.prog 62 #[va, vb] w fun e w' => ∃ v', e = .returned v' ∧ OwnRuns w.heap.size w' v' (Runs.minusR a b) ∧ Below w.heap.size w w' := by
  have qn := Lib.hid (normal2_any va a w ha h1 (by omega))
  have H := Lib.hid h2
  have HS := Lib.hid hb
  obtain ⟨ad, cap, rfl⟩ : ∃ ad cap, vb = .slice ad b.length cap := by
    rcases h2 with ⟨rfl, rfl⟩ | ⟨b, off, cap, rfl, _⟩
    · exact ⟨_, _, rfl⟩
    · exact ⟨_, _, rfl⟩
  clear h1 h2 hb ha
  go_enter Try.func62, Try.ntmps62
  go_wp2_with fail
  refine qn.out.mono ?_
  rintro e w1 ⟨v1, rfl, o1, b1⟩
  have O1 : Hid (OwnRuns w.heap.size w1 v1 (Runs.minusR a (b.take 0))) := Lib.hid o1
  have B1 := Lib.hid b1
  clear o1 b1 qn
  go_wp2_with fail
  go_loopw [5, 6] (fun p q wr => ∃ (u : Value) (j : Nat), u = p ∧ q = .int .i64 j ∧ j ≤ b.length ∧ Hid (OwnRuns w.heap.size wr u (Runs.minusR a (b.take j))) ∧ Hid (Below w.heap.size w wr)) (fun _ q _ => b.length - (intOf q).toNat)
  case atStart => exact ⟨_, 0, rfl, rfl, by omega, O1, B1⟩
  case round =>
    obtain ⟨u, j, rfl, rfl, hj, ho, hbl⟩ := hrel
    by_cases hlt : j < b.length
    · have i0 : (0 : Int) ≤ (j : Int) := by omega
      have i1 : (j : Int) < (b.length : Int) := by omega
      have hsx := HS.out.at j hlt
      obtain ⟨hll, g, off, rfl, c0, c1⟩ := (H.out.below (B := 0) hbl.out).cells j hlt
      have hlen : (Runs.minusR a (b.take j)).length ≤ 20000001 := by have := minus_len a (b.take j); rw [List.length_take] at this; omega
      have hR := Lib.hid (Runs.minusR_spec a (b.take j)).1
      have hnx := Lib.hid (minus_next a b j hlt)
      have qm := Lib.hid (fun w => may2_b _ hsx w)
      have hgl := World.block_lt_of_cell? _ _ c0
      have hsz := hbl.out.size
      clear hll
      generalize Runs.minusR a (b.take j) = R at *
      generalize b.getD j (0, 0) = x at *
      obtain ⟨xa, xb⟩ := x
      dsimp only at *
      by_cases k : Runs.may (xa, xb)
      · rw [decide_eq_true k] at qm
        rw [if_pos k] at hnx
        have K := Lib.hid k
        clear k
        go_wp2_with fail
        refine (qm.out _).mono ?_
        rintro e w1 ⟨rfl, b1⟩
        have O1 := Lib.hid (own_belowR ho.out b1)
        have B1 := Lib.hid (hbl.out.trans (b1.mono hsz))
        have d0 := (b1.cell (p := ⟨g, off + j * 2, none⟩) hgl).trans c0
        have d1 := (b1.cell (p := ⟨g, off + j * 2 + 1, none⟩) hgl).trans c1
        have qp := Lib.hid (cut_any u R (xa, xb) w1 hR.out K.out (OwnRuns.at O1.out) (by omega))
        clear b1 c0 c1
        go_wp2_with fail
        refine qp.out.mono ?_
        rintro e w2 ⟨v2, rfl, o2, b2⟩
        have O2 : Hid (OwnRuns w.heap.size w2 v2 (Runs.minusR a (b.take (j + 1)))) := Lib.hid (by
          rw [hnx.out]
          exact World.ownsRow.mono o2 B1.out.size)
        have B2 := Lib.hid (B1.out.trans (b2.mono B1.out.size))
        clear o2 b2 qp
        go_wp2_with fail
        go_roundw
        case rel => exact ⟨v2, j + 1, rfl, by go_num, by omega, O2, B2⟩
        case measure => simp [intOf]; omega
      · rw [decide_eq_false k] at qm
        rw [if_neg k] at hnx
        clear k
        go_wp2_with fail
        refine (qm.out _).mono ?_
        rintro e w1 ⟨rfl, b1⟩
        have O1 : Hid (OwnRuns w.heap.size w1 u (Runs.minusR a (b.take (j + 1)))) := Lib.hid (by
          rw [hnx.out]
          exact own_belowR ho.out b1)
        have B1 := Lib.hid (hbl.out.trans (b1.mono hsz))
        clear b1
        go_wp2_with fail
        go_roundw
        case rel => exact ⟨u, j + 1, rfl, by go_num, by omega, O1, B1⟩
        case measure => simp [intOf]; omega
    · obtain rfl : j = b.length := by omega
      have O9 : Hid (OwnRuns w.heap.size wr u (Runs.minusR a b)) := Lib.hid (by
        have := ho.out
        rwa [List.take_length] at this)
      go_wp2_with fail
      go_ret
      exact ⟨_, rfl, O9.out, hbl.out⟩

end Go.Proofs.Ytgpjldmndibalaa
