/- The document's Count. -/
import Derived.Test.YtkpnimekhekpmaaRunsRefNorm
namespace Go.Proofs.Ytkpnimekhekpmaa
open Go Go.RowKit

set_option maxRecDepth 100000 in
set_option maxHeartbeats 2000000 in
theorem count2_any (v : Value) (l : RL) (w : World) (hs : Smalls l) (h : RunsAt w v l) (hl : l.length ≤ 100000000) :
    Calls Try.prog 27 #[v] w fun e w' => e = .returned (.int .i64 (countR l)) ∧ Below w.heap.size w w' := by
  have hN := Lib.hid (normal2_any v l w hs h hl)
  have hct := count_top l
  have hnl := norm_len l
  have hrow := Lib.hid (Runs.normR_spec l).1
  have hC : Hid (countR l = sumL ((Runs.normR l).map (·.2))) := Lib.hid rfl
  have hsm := Lib.hid (fun j => sumL_take ((Runs.normR l).map (·.2)) (fun x hx => by
    obtain ⟨y, hy, rfl⟩ := List.mem_map.1 hx
    have := (Runs.normR_spec l).1.may y hy
    unfold Runs.may at this
    omega) j)
  clear h
  unfold Runs.top at hct
  generalize countR l = C at *
  generalize Runs.normR l = N at *
  go_enter Try.func27, Try.ntmps27
  go_wp2_with fail
  refine hN.out.mono ?_
  rintro e w1 ⟨v1, rfl, h1, b1⟩
  have H := Lib.hid (OwnRuns.at h1)
  have B1 := Lib.hid b1
  clear b1
  obtain ⟨ad, cap, rfl⟩ : ∃ ad cap, v1 = .slice ad N.length cap := by
    rcases h1.form with ⟨rfl, rfl⟩ | ⟨g, co, rfl, _⟩
    · exact ⟨_, _, rfl⟩
    · exact ⟨_, _, rfl⟩
  clear h1
  obtain ⟨M, hM⟩ : ∃ M, Hid (N.map (·.2) = M) := ⟨_, Lib.hid rfl⟩
  rw [hM.out] at hC hsm
  have hML : M.length = N.length := by rw [← hM.out, List.length_map]
  go_wp2_with fail
  go_loopw [3, 5] (fun p q wr => ∃ (s : Int) (j : Nat), p = .int .i64 s ∧ q = .int .i64 j ∧ j ≤ N.length ∧ Hid (s = sumL (M.take j)) ∧ wr = w1) (fun _ q _ => N.length - (intOf q).toNat)
  case atStart => exact ⟨0, 0, rfl, rfl, by omega, Lib.hid (by simp [sumL]), rfl⟩
  case round =>
    obtain ⟨s, j, rfl, rfl, hj, hsj, rfl⟩ := hrel
    by_cases hlt : j < N.length
    · have i0 : (0 : Int) ≤ (j : Int) := by omega
      have i1 : (j : Int) < (N.length : Int) := by omega
      obtain ⟨hll, g, off, rfl, c0, c1⟩ := H.out.cells j hlt
      clear hll
      have hg : M.getD j 0 = (N.getD j (0, 0)).2 := by rw [← hM.out]; simp [List.getD, hlt]
      have htk : sumL (M.take (j + 1)) = s + M.getD j 0 := by
        rw [List.take_succ_eq_append_getElem (by omega : j < M.length), sumL_append, ← hsj.out]
        simp [sumL, List.getD, show j < M.length by omega]
      have hb := (hsm.out (j + 1))
      rw [htk, ← hC.out] at hb
      rw [← hg] at c1
      have hw : IntKind.i64.wrap (s + M.getD j 0) = s + M.getD j 0 := IntWalk.i64_in _ (by omega)
      generalize M.getD j 0 = x at *
      have htk' := Lib.hid htk.symm
      clear hb htk hsj hg c0
      go_wp2_with fail
      go_roundw
      case rel => exact ⟨s + x, j + 1, rfl, by go_num, by omega, htk', by first | rfl | trivial⟩
      case measure => simp [intOf]; omega
    · obtain rfl : j = N.length := by omega
      have hE : Hid (s = C) := Lib.hid (by rw [hsj.out, hC.out, ← hML, List.take_length])
      clear hsj
      go_wp2_with fail
      go_ret
      exact ⟨by rw [hE.out]; rfl, B1.out⟩

end Go.Proofs.Ytkpnimekhekpmaa
