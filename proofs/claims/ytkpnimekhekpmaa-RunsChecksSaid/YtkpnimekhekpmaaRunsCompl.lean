/- Lists of runs: Complement. -/
import Derived.Test.YtkpnimekhekpmaaRunsGaps
namespace Go.Proofs.Ytkpnimekhekpmaa
open Go Go.RowKit

theorem put_len (l : RL) (s : Runs.Put) : (l.foldl Runs.pstep s).ahead.length + (l.foldl Runs.pstep s).behind.length ≤ s.ahead.length + s.behind.length + l.length := by
  induction l generalizing s with
  | nil => simp
  | cons y l ih =>
    have h1 : (Runs.pstep s y).ahead.length + (Runs.pstep s y).behind.length ≤ s.ahead.length + s.behind.length + 1 := by
      unfold Runs.pstep
      split
      · simp only [List.length_append, List.length_cons, List.length_nil]; omega
      · split
        · simp only [List.length_append, List.length_cons, List.length_nil]; omega
        · dsimp only; omega
    have := ih (Runs.pstep s y)
    simp only [List.foldl_cons, List.length_cons]
    omega
theorem putR_len (l : RL) (x : Int × Int) : (Runs.putR l x).length ≤ l.length + 1 := by
  have := put_len l ⟨[], x, []⟩
  unfold Runs.putR
  simp only [List.length_append, List.length_cons, List.length_nil] at this ⊢
  omega
theorem norm_len_from (l out : RL) : (l.foldl (fun out x => if Runs.may x then Runs.putR out x else out) out).length ≤ out.length + l.length := by
  induction l generalizing out with
  | nil => simp
  | cons x l ih =>
    simp only [List.foldl_cons, List.length_cons]
    refine Nat.le_trans (ih _) ?_
    split
    · have := putR_len out x
      omega
    · omega
theorem norm_len (l : RL) : (Runs.normR l).length ≤ l.length := by simpa [Runs.normR] using norm_len_from l []

set_option maxHeartbeats 1000000 in
theorem complement_any (v : Value) (l : RL) (n : Int) (w : World) (hs : Smalls l) (h : RunsAt w v l) (hl : l.length ≤ 1000000000) (hn : -9223372036854775808 ≤ n ∧ n ≤ 9223372036854775807) :
    Calls Try.prog 12 #[v, .int .i64 n] w fun e w' => ∃ v', e = .returned v' ∧ OwnRuns w.heap.size w' v' (Runs.restR l n) ∧ Below w.heap.size w w' := by
  have hN := Lib.hid (normal_any v l w hs h hl)
  clear h
  go_enter Try.func12, Try.ntmps12
  go_wp2_with fail
  refine hN.out.mono ?_
  rintro e w1 ⟨v1, rfl, h1, b1⟩
  have hG := Lib.hid (gaps_any v1 (Runs.normR l) n w1 (Runs.normR_spec l).1 h1.at (Nat.le_trans (norm_len l) hl) hn)
  have B1 := Lib.hid b1
  clear h1 b1
  go_wp2_with fail
  refine hG.out.mono ?_
  rintro e w2 ⟨v2, rfl, h2, b2⟩
  have B2 := Lib.hid (B1.out.trans (b2.mono B1.out.size))
  have O2 : Hid (OwnRuns w.heap.size w2 v2 (Runs.restR l n)) := Lib.hid (by
    rw [← Runs.gaps_rest l n hn.2]
    exact World.ownsRow.mono h2 B1.out.size)
  clear h2 b2
  go_wp2_with fail
  go_ret
  exact ⟨_, rfl, O2.out, B2.out⟩

end Go.Proofs.Ytkpnimekhekpmaa
