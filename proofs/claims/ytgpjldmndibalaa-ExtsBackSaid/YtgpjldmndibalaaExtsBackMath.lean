/- Rows of exts: put in pieces; put ext by ext. No program. -/
import Derived.Test.YtgpjldmndibalaaExtsSets
namespace Go.Proofs.Ytgpjldmndibalaa
open Go Go.RowKit

namespace Exts
theorem parts_one (x : E) (a b : Int) : parts [x] a b = part x a b := by rw [parts_cons]; show _ ++ [] = _; rw [List.append_nil]
/-- In two pieces, the first one first. -/
theorem pieces_fst {l : EL} (hl : Row l) (xa xb xc c : Int) (hm : may (xa, xb, xc)) (h1 : 1 ≤ c) (h2 : c < xc) :
    changeR (changeR l xa (xa + c) [(xa, xb, c)]) (xa + c) (xa + xc) [(xa + c, xb + c, xc - c)] = parts l 0 xa ++ [(xa, xb, c), (xa + c, xb + c, xc - c)] ++ parts l (xa + xc) 2048 := by
  unfold may at hm
  dsimp only at hm
  have e1 : part (xa, xb, c) 0 (xa + c) = [(xa, xb, c)] := part_ahead (by unfold may; dsimp only; omega) (by unfold fin; dsimp only; omega)
  have e2 : part (xa, xb, c) (xa + xc) 2048 = [] := part_off (.inl (by unfold fin; dsimp only; omega))
  unfold changeR
  rw [parts_append, parts_append, parts_append, parts_append, parts_parts, parts_parts, parts_parts, parts_parts, parts_one, parts_one, e1, e2]
  rw [parts_none l (max (xa + c) 0) (min 2048 (xa + c)) (by omega), parts_none l (max 0 (xa + xc)) (min xa 2048) (by omega)]
  rw [show max (0 : Int) 0 = 0 by omega, show min xa (xa + c) = xa by omega, show max (xa + c) (xa + xc) = xa + xc by omega, show min (2048 : Int) 2048 = 2048 by omega]
  simp
/-- In two pieces, the second one first. -/
theorem pieces_snd {l : EL} (hl : Row l) (xa xb xc c : Int) (hm : may (xa, xb, xc)) (h1 : 1 ≤ c) (h2 : c < xc) :
    changeR (changeR l (xa + c) (xa + xc) [(xa + c, xb + c, xc - c)]) xa (xa + c) [(xa, xb, c)] = parts l 0 xa ++ [(xa, xb, c), (xa + c, xb + c, xc - c)] ++ parts l (xa + xc) 2048 := by
  unfold may at hm
  dsimp only at hm
  have e1 : part (xa + c, xb + c, xc - c) (xa + c) 2048 = [(xa + c, xb + c, xc - c)] := part_behind (by unfold may; dsimp only; omega) (Int.le_refl _)
  have e2 : part (xa + c, xb + c, xc - c) 0 xa = [] := part_off (.inr (by dsimp only; omega))
  unfold changeR
  rw [parts_append, parts_append, parts_append, parts_append, parts_parts, parts_parts, parts_parts, parts_parts, parts_one, parts_one, e1, e2]
  rw [parts_none l (max (xa + xc) 0) (min 2048 xa) (by omega), parts_none l (max 0 (xa + c)) (min (xa + c) 2048) (by omega)]
  rw [show max (0 : Int) 0 = 0 by omega, show min (xa + c) xa = xa by omega, show max (xa + xc) (xa + c) = xa + xc by omega, show min (2048 : Int) 2048 = 2048 by omega]
  simp

theorem row_drop {l : EL} (h : Row l) (k : Nat) : Row (l.drop k) := by
  have h1 : Row (l.take k ++ l.drop k) := by rwa [List.take_append_drop]
  exact (row_append_iff.1 h1).2.1
theorem row_take {l : EL} (h : Row l) (k : Nat) : Row (l.take k) := by
  have h1 : Row (l.take k ++ l.drop k) := by rwa [List.take_append_drop]
  exact (row_append_iff.1 h1).1
theorem row_parts2 {l : EL} (h : Row l) {a b : Nat} (hab : a ≤ b) : Row (l.take a ++ l.drop b) := by
  refine row_append (row_take h a) (row_drop h b) (fun x hx y hy => ?_)
  obtain ⟨i, hi, rfl⟩ := List.getElem_of_mem hx
  obtain ⟨j, hj, rfl⟩ := List.getElem_of_mem hy
  rw [List.length_take] at hi
  rw [List.length_drop] at hj
  have := row_pair h (a := i) (b := b + j) (by omega) (by omega)
  simpa [List.getD, show i < l.length by omega, show b + j < l.length by omega] using this
/-- What stands behind j puts, from the k-th ext on. -/
def backR (l : EL) (k j : Nat) : EL := if j ≤ l.length - k then (l.drop k).take j else l.take (j - (l.length - k)) ++ l.drop k
theorem back_zero (l : EL) (k : Nat) : backR l k 0 = [] := by unfold backR; simp
theorem back_all (l : EL) (k : Nat) (h : k < l.length) : backR l k l.length = l := by
  unfold backR
  split
  · rename_i h1
    obtain rfl : k = 0 := by omega
    simp
  · rw [show l.length - (l.length - k) = k by omega, List.take_append_drop]
theorem back_row {l : EL} (hl : Row l) (k j : Nat) (hk : k < l.length) (hj : j ≤ l.length) : Row (backR l k j) := by
  unfold backR
  split
  · exact row_take (row_drop hl k) j
  · exact row_parts2 hl (by omega)
theorem back_len (l : EL) (k j : Nat) (hk : k < l.length) (hj : j ≤ l.length) : (backR l k j).length ≤ l.length := by
  unfold backR
  split
  · simp; omega
  · simp; omega
theorem mem_at {l : EL} {y : E} (h : y ∈ l) : ∃ i, i < l.length ∧ y = l.getD i (0, 0, 0) := by
  obtain ⟨i, hi, rfl⟩ := List.getElem_of_mem h
  exact ⟨i, hi, by simp [List.getD, hi]⟩
theorem mem_take {l : EL} {y : E} {a : Nat} (h : y ∈ l.take a) : ∃ i, i < a ∧ i < l.length ∧ y = l.getD i (0, 0, 0) := by
  obtain ⟨i, hi, e⟩ := mem_at h
  rw [List.length_take] at hi
  refine ⟨i, by omega, by omega, ?_⟩
  rw [e]
  simp [List.getD, List.getElem?_take, show i < a by omega]
theorem mem_drop {l : EL} {y : E} {a : Nat} (h : y ∈ l.drop a) : ∃ i, a ≤ i ∧ i < l.length ∧ y = l.getD i (0, 0, 0) := by
  obtain ⟨i, hi, e⟩ := mem_at h
  rw [List.length_drop] at hi
  refine ⟨a + i, by omega, by omega, ?_⟩
  rw [e]
  simp [List.getD, List.getElem?_drop]
theorem back_put {l : EL} (hl : Row l) (k j q : Nat) (hk : k < l.length) (hj : j < l.length) (hq : q = (j + k) % l.length) :
    changeR (backR l k j) (l.getD q (0, 0, 0)).1 (fin (l.getD q (0, 0, 0))) [l.getD q (0, 0, 0)] = backR l k (j + 1) := by
  have hql : q < l.length := by rw [hq]; exact Nat.mod_lt _ (by omega)
  by_cases h : j < l.length - k
  · obtain rfl : q = k + j := by rw [hq, Nat.mod_eq_of_lt (by omega)]; omega
    have e1 : backR l k j = (l.drop k).take j := by unfold backR; rw [if_pos (by omega)]
    have e2 : backR l k (j + 1) = (l.drop k).take j ++ [l.getD (k + j) (0, 0, 0)] := by
      unfold backR
      rw [if_pos (by omega), List.take_succ_eq_append_getElem (by simp; omega)]
      simp [List.getD, hql]
    have := put_between (A := (l.drop k).take j) (M := []) (C := []) (x := l.getD (k + j) (0, 0, 0)) (fun y hy => by
      obtain ⟨i, hi, hi2, e⟩ := mem_take hy
      rw [List.length_drop] at hi2
      have e3 : y = l.getD (k + i) (0, 0, 0) := by rw [e]; simp [List.getD, List.getElem?_drop]
      rw [e3]
      exact ⟨row_at hl (by omega), row_pair hl (by omega) hql⟩) (fun y hy => by cases hy) (fun y hy => by cases hy) (row_at hl hql)
    rw [e1, e2]
    simpa using this
  · obtain rfl : q = j - (l.length - k) := by
      rw [hq, Nat.mod_eq_sub_mod (by omega), Nat.mod_eq_of_lt (by omega)]; omega
    generalize hm : j - (l.length - k) = m at *
    have e1 : backR l k j = l.take m ++ l.drop k := by
      unfold backR
      split
      · rename_i h1
        obtain rfl : j = l.length - k := by omega
        obtain rfl : m = 0 := by omega
        rw [List.take_of_length_le (by simp)]
        simp
      · rw [hm]
    have e2 : backR l k (j + 1) = l.take m ++ [l.getD m (0, 0, 0)] ++ l.drop k := by
      unfold backR
      rw [if_neg (by omega), show j + 1 - (l.length - k) = m + 1 by omega, List.take_succ_eq_append_getElem hql]
      simp [List.getD, hql]
    have := put_between (A := l.take m) (M := []) (C := l.drop k) (x := l.getD m (0, 0, 0)) (fun y hy => by
      obtain ⟨i, hi, hi2, rfl⟩ := mem_take hy
      exact ⟨row_at hl hi2, row_pair hl hi hql⟩) (fun y hy => by
      obtain ⟨i, hi, hi2, rfl⟩ := mem_drop hy
      exact ⟨row_at hl hi2, row_pair hl (by omega) hi2⟩) (fun y hy => by cases hy) (row_at hl hql)
    rw [e1, e2]
    simpa using this
theorem back_self {l : EL} (hl : Row l) (i : Nat) (hi : i < l.length) : changeR l (l.getD i (0, 0, 0)).1 (fin (l.getD i (0, 0, 0))) [l.getD i (0, 0, 0)] = l := by
  have e : l.take i ++ [l.getD i (0, 0, 0)] ++ l.drop (i + 1) = l := by
    have e0 : l.getD i (0, 0, 0) = l[i] := by simp [List.getD, hi]
    rw [e0, ← List.take_succ_eq_append_getElem hi, List.take_append_drop]
  have := put_between (A := l.take i) (M := [l.getD i (0, 0, 0)]) (C := l.drop (i + 1)) (x := l.getD i (0, 0, 0)) (fun y hy => by
      obtain ⟨k, hk, hk2, rfl⟩ := mem_take hy
      exact ⟨row_at hl hk2, row_pair hl hk hi⟩) (fun y hy => by
      obtain ⟨k, hk, hk2, rfl⟩ := mem_drop hy
      exact ⟨row_at hl hk2, row_pair hl (by omega) hk2⟩) (fun y hy => by
      obtain rfl := List.mem_singleton.1 hy
      exact ⟨Int.le_refl _, Int.le_refl _⟩) (row_at hl hi)
  rwa [e] at this
theorem find_self {l : EL} (hl : Row l) (i : Nat) (hi : i < l.length) : findR l (l.getD i (0, 0, 0)).1 = ((l.getD i (0, 0, 0)).2.1, (l.getD i (0, 0, 0)).2.2, true) := by
  refine findR_some (check_row.2 hl) ?_
  rw [at_skip l _ i (fun k hk => by have := row_pair hl hk hi; omega), List.drop_eq_getElem_cons hi, at_]
  have e : l.getD i (0, 0, 0) = l[i] := by simp [List.getD, hi]
  have hm := row_at hl hi
  rw [e] at hm ⊢
  unfold may at hm
  rw [if_pos (by unfold fin; omega)]
  unfold fin
  congr 2 <;> omega
end Exts

end Go.Proofs.Ytgpjldmndibalaa
