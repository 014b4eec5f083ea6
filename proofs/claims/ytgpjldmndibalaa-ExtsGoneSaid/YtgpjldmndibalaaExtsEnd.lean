/- Exts: End. -/
import Derived.Test.YtgpjldmndibalaaExtsCheck
namespace Go.Proofs.Ytgpjldmndibalaa
open Go Go.RowKit

theorem Exts.endR_at {l : EL} (h : Exts.okTo l l.length = true) (hl : 0 < l.length) : Exts.endR l = Exts.fin (l.getD (l.length - 1) (0, 0, 0)) := by
  unfold Exts.endR
  rw [h, if_pos rfl, List.getLastD_eq_getLast?, List.getLast?_eq_getElem?, List.getD]

set_option maxRecDepth 100000 in
set_option maxHeartbeats 2000000 in
theorem eEnd_any (v : Value) (l : EL) (w : World) (hs : SmallsE l) (h : ExtsAt w v l) (hl : l.length ≤ 1000000000) :
    Calls Try.prog 19 #[v] w fun e w' => e = .returned (.int .i64 (Exts.endR l)) ∧ Below w.heap.size w w' := by
  have q := Lib.hid (echeck_any v l w hs h hl)
  have H := Lib.hid h
  obtain ⟨ad, cap, rfl⟩ : ∃ ad cap, v = .slice ad l.length cap := by
    rcases h with ⟨rfl, rfl⟩ | ⟨b, off, cap, rfl, _⟩
    · exact ⟨_, _, rfl⟩
    · exact ⟨_, _, rfl⟩
  cases hok : Exts.okTo l l.length
  · rw [hok] at q
    have hE := Lib.hid (Exts.endR_bad l hok)
    clear h hok
    go_enter Try.func19, Try.ntmps19
    go_wp2_with fail
    refine q.out.mono ?_
    rintro e w1 ⟨rfl, b1⟩
    have B1 := Lib.hid b1
    clear b1
    go_wp2_with fail
    go_ret
    exact ⟨by rw [hE.out]; rfl, B1.out⟩
  · rw [hok] at q
    by_cases hn : l.length = 0
    · have hE : Hid (Exts.endR l = 0) := Lib.hid (by rw [List.eq_nil_of_length_eq_zero hn]; rfl)
      have hb : ((l.length : Int) == 0) = true := by simp [hn]
      clear h hok hn
      go_enter Try.func19, Try.ntmps19
      go_wp2_with fail
      refine q.out.mono ?_
      rintro e w1 ⟨rfl, b1⟩
      have B1 := Lib.hid b1
      clear b1
      go_wp2_with fail
      go_ret
      exact ⟨by rw [hE.out]; rfl, B1.out⟩
    · have hE := Lib.hid (Exts.endR_at hok (by omega))
      have hx := (Exts.check_row.1 hok).may (l.getD (l.length - 1) (0, 0, 0)) (by simp [List.getD, show l.length - 1 < l.length by omega])
      have he := Lib.hid (fun w => eend_any _ (emay_fin hx) w)
      have hb : ((l.length : Int) == 0) = false := by rw [beq_eq_false_iff_ne]; omega
      obtain ⟨j, hj⟩ : ∃ j, l.length - 1 = j := ⟨_, rfl⟩
      have k1 : (j : Int) < (l.length : Int) := by omega
      have k2 : (0 : Int) ≤ (j : Int) := by omega
      have kw : IntKind.i64.wrap ((l.length : Int) - 1) = (j : Int) := by rw [IntWalk.i64_in _ (by omega)]; omega
      have kw' : (l.length : Int) - 1 = (j : Int) := by omega
      have HC := Lib.hid (fun w1 (hb : Below w.heap.size w w1) => (H.out.below (B := 0) hb).cells j (by omega))
      rw [hj] at hE he
      clear h hok hx hj hn
      go_enter Try.func19, Try.ntmps19
      go_wp2_with fail
      refine q.out.mono ?_
      rintro e w1 ⟨rfl, b1⟩
      obtain ⟨_, g, off, rfl, c0, c1, c2⟩ := HC.out w1 b1
      have B1 := Lib.hid b1
      generalize l.getD j (0, 0, 0) = x at *
      obtain ⟨xa, xb, xc⟩ := x
      dsimp only at *
      clear b1
      go_wp2_with fail
      refine (he.out _).mono ?_
      rintro e w2 ⟨rfl, b2⟩
      have B2 := Lib.hid (B1.out.trans (b2.mono B1.out.size))
      clear b2
      go_wp2_with fail
      go_ret
      exact ⟨by rw [hE.out]; rfl, B2.out⟩

end Go.Proofs.Ytgpjldmndibalaa
