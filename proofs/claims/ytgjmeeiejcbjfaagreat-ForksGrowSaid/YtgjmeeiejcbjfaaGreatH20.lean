/- The first of a list that is so. No program. -/
import Derived.WalkKit
set_option linter.unusedSimpArgs false
set_option linter.unusedVariables false
namespace Go.Proofs.YtgjmeeiejcbjfaaGreat
def idxOf {α : Type} (p : α → Bool) (l : List α) : Int := if l.any p then (l.findIdx p : Int) else -1
theorem idxOf_at {α : Type} (p : α → Bool) (l : List α) (j : Nat) (hj : j < l.length) (d : α) (ha : ∀ k, k < j → p (l.getD k d) = false) (hp : p (l.getD j d) = true) : idxOf p l = (j : Int) := by
 have e : l.getD j d = l[j] := by simp [List.getD, hj]
 rw [e] at hp
 have h1 : l.any p = true := List.any_eq_true.2 ⟨_, List.getElem_mem hj, hp⟩
 unfold idxOf
 rw [if_pos h1]
 have : l.findIdx p = j := by
  rw [List.findIdx_eq hj]
  refine ⟨hp, fun k hk => ?_⟩
  have := ha k hk
  rwa [show l.getD k d = l[k]'(by omega) by simp [List.getD, show k < l.length by omega]] at this
 rw [this]
theorem idxOf_no {α : Type} (p : α → Bool) (l : List α) (d : α) (ha : ∀ k, k < l.length → p (l.getD k d) = false) : idxOf p l = -1 := by
 unfold idxOf
 rw [if_neg]
 intro h
 obtain ⟨x, hx, hp⟩ := List.any_eq_true.1 h
 obtain ⟨k, hk, rfl⟩ := List.mem_iff_getElem.1 hx
 have := ha k hk
 rw [show l.getD k d = l[k] by simp [List.getD, hk], hp] at this
 cases this
theorem idxOf_cases {α : Type} (p : α → Bool) (l : List α) : idxOf p l = -1 ∨ ∃ j : Nat, j < l.length ∧ idxOf p l = (j : Int) := by
 unfold idxOf
 by_cases h : l.any p = true
 ·rw [if_pos h]
  refine .inr ⟨_, ?_, rfl⟩
  rw [List.findIdx_lt_length]
  exact List.any_eq_true.1 h
 ·rw [if_neg h]; exact .inl rfl
theorem idxOf_any {α : Type} (p : α → Bool) (l : List α) : decide (0 ≤ idxOf p l) = l.any p := by
 unfold idxOf
 cases h : l.any p
 ·rfl
 ·rw [if_pos rfl]; exact decide_eq_true (by omega)
theorem idxOf_spec {α : Type} (p : α → Bool) (l : List α) {j : Nat} (h : idxOf p l = (j : Int)) : ∃ hj : j < l.length, p l[j] = true ∧ ∀ k (hk : k < j), p (l[k]'(by omega)) = false := by
 unfold idxOf at h
 split at h
 ·rename_i ha
  have e : l.findIdx p = j := by omega
  have hj : l.findIdx p < l.length := by rw [List.findIdx_lt_length]; exact List.any_eq_true.1 ha
  subst e
  refine ⟨hj, List.findIdx_getElem, fun k hk => ?_⟩
  have := List.not_of_lt_findIdx hk
  simpa using this
 ·omega
end Go.Proofs.YtgjmeeiejcbjfaaGreat
