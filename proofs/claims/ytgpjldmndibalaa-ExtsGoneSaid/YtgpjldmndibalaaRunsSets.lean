/- Lists of runs as sets: lengths, and the laws of sets. No program. -/
import Derived.Test.YtgpjldmndibalaaRunsUnion
namespace Go.Proofs.Ytgpjldmndibalaa
open Go Go.RowKit

theorem meetN_len : ∀ (k : Nat) (a b : RL), a.length + b.length ≤ k → (Runs.meetN a b).length ≤ a.length + b.length
  | k, [], b, _ => by rw [Runs.meetN_nil_left]; simp
  | k, x :: a, [], _ => by rw [Runs.meetN_nil_right]; simp
  | 0, x :: a, y :: b, h => by simp at h
  | k + 1, x :: a, y :: b, h => by
    simp only [List.length_cons] at h
    have h1 := meetN_len k a (y :: b) (by simp only [List.length_cons]; omega)
    have h2 := meetN_len k (x :: a) b (by simp only [List.length_cons]; omega)
    rw [Runs.meetN_cons, List.length_append]
    simp only [List.length_cons] at h1 h2 ⊢
    have h3 : (if max x.1 y.1 < min (Runs.fin x) (Runs.fin y) then [(max x.1 y.1, min (Runs.fin x) (Runs.fin y) - max x.1 y.1)] else []).length ≤ 1 := by split <;> simp
    by_cases hc : Runs.fin x < Runs.fin y
    · rw [if_pos hc]; omega
    · rw [if_neg hc]; omega
theorem meet_len (a b : RL) : (Runs.meetR a b).length ≤ a.length + b.length := by
  rw [← Runs.meet_eq]
  have := meetN_len _ (Runs.normR a) (Runs.normR b) (Nat.le_refl _)
  have := norm_len a
  have := norm_len b
  omega
theorem minus_len (a b : RL) : (Runs.minusR a b).length ≤ a.length + b.length + 1 := by
  rw [← Runs.minus_eq]
  have := meetN_len _ (Runs.normR a) (Runs.normR (Runs.gapsN Runs.top 0 (Runs.normR b))) (Nat.le_refl _)
  have := norm_len a
  have := norm_len b
  have := norm_len (Runs.gapsN Runs.top 0 (Runs.normR b))
  have := gaps_len Runs.top (Runs.normR b) 0
  omega
theorem union_len (a b : RL) : (unionR a b).length ≤ a.length + b.length := by
  have := norm_len (a ++ b)
  unfold unionR
  simpa using this
theorem rest_len (a : RL) (n : Int) (hn : n ≤ Runs.top) : (Runs.restR a n).length ≤ a.length + 1 := by
  rw [← Runs.gaps_rest a n hn]
  have := gaps_len n (Runs.normR a) 0
  have := norm_len a
  omega
theorem union_row (a b : RL) : Runs.Row (unionR a b) := (Runs.normR_spec _).1
theorem union_mem (a b : RL) (i : Int) : Runs.mem (unionR a b) i ↔ Runs.mem a i ∨ Runs.mem b i := by
  unfold unionR
  rw [(Runs.normR_spec _).2, Runs.mem_append]
theorem meet_row (a b : RL) : Runs.Row (Runs.meetR a b) := (Runs.meetR_spec a b).1
theorem meet_mem (a b : RL) (i : Int) : Runs.mem (Runs.meetR a b) i ↔ Runs.mem a i ∧ Runs.mem b i := (Runs.meetR_spec a b).2 i
theorem minus_row (a b : RL) : Runs.Row (Runs.minusR a b) := (Runs.minusR_spec a b).1
theorem minus_mem (a b : RL) (i : Int) : Runs.mem (Runs.minusR a b) i ↔ Runs.mem a i ∧ ¬ Runs.mem b i := (Runs.minusR_spec a b).2 i

theorem law_union_comm (a b : RL) : unionR a b = unionR b a := Runs.row_eq _ _ (union_row _ _) (union_row _ _) fun i => by
  simp only [union_mem]; exact Or.comm
theorem law_meet_comm (a b : RL) : Runs.meetR a b = Runs.meetR b a := Runs.row_eq _ _ (meet_row _ _) (meet_row _ _) fun i => by
  simp only [meet_mem]; exact And.comm
theorem law_union_assoc (a b c : RL) : unionR a (unionR b c) = unionR (unionR a b) c := Runs.row_eq _ _ (union_row _ _) (union_row _ _) fun i => by
  simp only [union_mem, or_assoc]
theorem law_meet_union (a b c : RL) : Runs.meetR a (unionR b c) = unionR (Runs.meetR a b) (Runs.meetR a c) := Runs.row_eq _ _ (meet_row _ _) (union_row _ _) fun i => by
  simp only [union_mem, meet_mem]; exact and_or_left
theorem law_minus_union (a b c : RL) : Runs.minusR (unionR a b) c = unionR (Runs.minusR a c) (Runs.minusR b c) := Runs.row_eq _ _ (minus_row _ _) (union_row _ _) fun i => by
  simp only [union_mem, minus_mem]; exact or_and_right
theorem law_minus_minus (a b c : RL) : Runs.minusR (Runs.minusR a b) c = Runs.minusR a (unionR b c) := Runs.row_eq _ _ (minus_row _ _) (minus_row _ _) fun i => by
  simp only [union_mem, minus_mem, not_or]; exact and_assoc

end Go.Proofs.Ytgpjldmndibalaa
