/- The document's Normal. -/
import Derived.Test.YtgpjldmndibalaaRunsRefPut
namespace Go.Proofs.Ytgpjldmndibalaa
open Go Go.RowKit

theorem may2_b (x : Int × Int) (hx : Small x) (w : World) : Calls Try.prog 56 #[.agg #[.int .i64 x.1, .int .i64 x.2]] w fun e w' => e = .returned (.bool (decide (Runs.may x))) ∧ Below w.heap.size w w' := by
  refine (may2_any x hx w).mono ?_
  rintro e w' ⟨rfl, rfl⟩
  exact ⟨rfl, (Below.refl _ _).alloc (Nat.le_refl _) _⟩
theorem norm_next (l : RL) (j : Nat) (hj : j < l.length) : Runs.normR (l.take (j + 1)) = if Runs.may (l.getD j (0, 0)) then Runs.putR (Runs.normR (l.take j)) (l.getD j (0, 0)) else Runs.normR (l.take j) := by
  unfold Runs.normR
  rw [List.take_succ_eq_append_getElem hj, List.foldl_append]
  simp [List.getD, hj]

set_option maxRecDepth 100000 in
set_option maxHeartbeats 4000000 in
theorem normal2_any (v : Value) (l : RL) (w : World) (hs : Smalls l) (h : RunsAt w v l) (hl : l.length ≤ 100000000) :
    Calls Try.prog 40 #[v] w fun e w' => ∃ v', e = .returned v' ∧ OwnRuns w.heap.size w' v' (Runs.normR l) ∧ Below w.heap.size w w' := by
  have H := Lib.hid h
  have HS := Lib.hid hs
  obtain ⟨ad, cap, rfl⟩ : ∃ ad cap, v = .slice ad l.length cap := by
    rcases h with ⟨rfl, rfl⟩ | ⟨b, off, cap, rfl, _⟩
    · exact ⟨_, _, rfl⟩
    · exact ⟨_, _, rfl⟩
  clear h hs
  go_enter Try.func40, Try.ntmps40
  go_wp2_with fail
  go_loopw [3, 4] (fun p q wr => ∃ (u : Value) (j : Nat), u = p ∧ q = .int .i64 j ∧ j ≤ l.length ∧ Hid (OwnRuns w.heap.size wr u (Runs.normR (l.take j))) ∧ Hid (Below w.heap.size w wr)) (fun _ q _ => l.length - (intOf q).toNat)
  case atStart => exact ⟨_, 0, rfl, rfl, by omega, Lib.hid (World.ownsRow_nil _ _ _ _), Lib.hid (Below.refl _ _)⟩
  case round =>
    obtain ⟨u, j, rfl, rfl, hj, ho, hb⟩ := hrel
    by_cases hlt : j < l.length
    · have i0 : (0 : Int) ≤ (j : Int) := by omega
      have i1 : (j : Int) < (l.length : Int) := by omega
      have hsx := HS.out.at j hlt
      obtain ⟨hll, g, off, rfl, c0, c1⟩ := (H.out.below (B := 0) hb.out).cells j hlt
      have hlen : (Runs.normR (l.take j)).length ≤ j := by have := norm_len (l.take j); rw [List.length_take] at this; omega
      have hR := Lib.hid (Runs.normR_spec (l.take j)).1
      have hnx := Lib.hid (norm_next l j hlt)
      have qm := Lib.hid (fun w => may2_b _ hsx w)
      have hgl := World.block_lt_of_cell? _ _ c0
      have hsz := hb.out.size
      clear hll
      generalize Runs.normR (l.take j) = R at *
      generalize l.getD j (0, 0) = x at *
      obtain ⟨xa, xb⟩ := x
      dsimp only at *
      by_cases k : Runs.may (xa, xb)
      · rw [decide_eq_true k] at qm
        rw [if_pos k] at hnx
        have K := Lib.hid k
        clear k
        go_wp2_with fail
        refine (qm.out _).mono ?_
        rintro e w1 ⟨rfl, b1⟩
        have O1 := Lib.hid (own_belowR ho.out b1)
        have B1 := Lib.hid (hb.out.trans (b1.mono hsz))
        have d0 := (b1.cell (p := ⟨g, off + j * 2, none⟩) hgl).trans c0
        have d1 := (b1.cell (p := ⟨g, off + j * 2 + 1, none⟩) hgl).trans c1
        have qp := Lib.hid (put_any u R (xa, xb) w1 hR.out K.out (OwnRuns.at O1.out) (by omega))
        clear b1 c0 c1
        go_wp2_with fail
        refine qp.out.mono ?_
        rintro e w2 ⟨v2, rfl, o2, b2⟩
        have O2 : Hid (OwnRuns w.heap.size w2 v2 (Runs.normR (l.take (j + 1)))) := Lib.hid (by
          rw [hnx.out]
          exact World.ownsRow.mono o2 B1.out.size)
        have B2 := Lib.hid (B1.out.trans (b2.mono B1.out.size))
        clear o2 b2 qp
        go_wp2_with fail
        go_roundw
        case rel => exact ⟨v2, j + 1, rfl, by go_num, by omega, O2, B2⟩
        case measure => simp [intOf]; omega
      · rw [decide_eq_false k] at qm
        rw [if_neg k] at hnx
        clear k
        go_wp2_with fail
        refine (qm.out _).mono ?_
        rintro e w1 ⟨rfl, b1⟩
        have O1 : Hid (OwnRuns w.heap.size w1 u (Runs.normR (l.take (j + 1)))) := Lib.hid (by
          rw [hnx.out]
          exact own_belowR ho.out b1)
        have B1 := Lib.hid (hb.out.trans (b1.mono hsz))
        clear b1
        go_wp2_with fail
        go_roundw
        case rel => exact ⟨u, j + 1, rfl, by go_num, by omega, O1, B1⟩
        case measure => simp [intOf]; omega
    · obtain rfl : j = l.length := by omega
      have O9 : Hid (OwnRuns w.heap.size wr u (Runs.normR l)) := Lib.hid (by
        have := ho.out
        rwa [List.take_length] at this)
      go_wp2_with fail
      go_ret
      exact ⟨_, rfl, O9.out, hb.out⟩

end Go.Proofs.Ytgpjldmndibalaa
