/- How long a row is. No program. -/
import Derived.Test.YtgpjldmndibalaaRunsMath
import Derived.Test.YtgpjldmndibalaaRunsAt
namespace Go.Proofs.Ytgpjldmndibalaa
open Go Go.RowKit

theorem put_len (l : RL) (s : Runs.Put) : (l.foldl Runs.pstep s).ahead.length + (l.foldl Runs.pstep s).behind.length ≤ s.ahead.length + s.behind.length + l.length := by
  induction l generalizing s with
  | nil => simp
  | cons y l ih =>
    have h1 : (Runs.pstep s y).ahead.length + (Runs.pstep s y).behind.length ≤ s.ahead.length + s.behind.length + 1 := by
      unfold Runs.pstep
      split
      · simp only [List.length_append, List.length_cons, List.length_nil]; omega
      · split
        · simp only [List.length_append, List.length_cons, List.length_nil]; omega
        · dsimp only; omega
    have := ih (Runs.pstep s y)
    simp only [List.foldl_cons, List.length_cons]
    omega
theorem putR_len (l : RL) (x : Int × Int) : (Runs.putR l x).length ≤ l.length + 1 := by
  have := put_len l ⟨[], x, []⟩
  unfold Runs.putR
  simp only [List.length_append, List.length_cons, List.length_nil] at this ⊢
  omega
theorem norm_len_from (l out : RL) : (l.foldl (fun out x => if Runs.may x then Runs.putR out x else out) out).length ≤ out.length + l.length := by
  induction l generalizing out with
  | nil => simp
  | cons x l ih =>
    simp only [List.foldl_cons, List.length_cons]
    refine Nat.le_trans (ih _) ?_
    split
    · have := putR_len out x
      omega
    · omega
theorem norm_len (l : RL) : (Runs.normR l).length ≤ l.length := by simpa [Runs.normR] using norm_len_from l []

end Go.Proofs.Ytgpjldmndibalaa
