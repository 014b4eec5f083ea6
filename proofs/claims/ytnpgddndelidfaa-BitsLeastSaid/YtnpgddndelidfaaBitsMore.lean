/- Bitmaps: what the runs of zeros are; the bit and the run that are found. Plain Lean. -/
import Derived.Test.YtnpgddndelidfaaBitsAlive
namespace Go.Proofs.Ytnpgddndelidfaa

theorem runsTo_pos (l : List UInt8) (k : Nat) : ∀ x ∈ runsTo l k, 1 ≤ x.2 := by
  induction k with
  | zero => intro x hx; simp [runsTo] at hx
  | succ k ih =>
    intro x hx
    simp only [runsTo] at hx
    split at hx
    · exact ih x hx
    · rcases list_snoc (runsTo l k) with h | ⟨p, ⟨s, n⟩, h⟩
      · rw [h] at hx; simp [grow] at hx; subst hx; simp
      · rw [h, grow_snoc] at hx
        rw [h] at ih
        split at hx
        · rcases List.mem_append.1 hx with h1 | h1
          · exact ih x (List.mem_append_left _ h1)
          · simp at h1; subst h1; dsimp only; omega
        · simp only [List.mem_append, List.mem_cons, List.not_mem_nil, or_false] at hx
          rcases hx with h1 | h1 | h1
          · exact ih x (List.mem_append_left _ h1)
          · subst h1; exact ih (s, n) (by simp)
          · subst h1; simp

abbrev Rises (L : List (Nat × Nat)) : Prop := L.Pairwise (fun x y => x.1 + x.2 < y.1)
theorem runsTo_rises (l : List UInt8) (k : Nat) : Rises (runsTo l k) := by
  induction k with
  | zero => exact List.Pairwise.nil
  | succ k ih =>
    have hb := runsTo_bound l k
    simp only [runsTo]
    split
    · exact ih
    · rcases list_snoc (runsTo l k) with h | ⟨p, ⟨s, n⟩, h⟩
      · rw [h]; simp [grow]
      · rw [h] at ih hb
        rw [h, grow_snoc]
        obtain ⟨i1, i2, i3⟩ := List.pairwise_append.1 ih
        split
        · refine List.pairwise_append.2 ⟨i1, List.pairwise_singleton _ _, fun a ha b hb => ?_⟩
          have := i3 a ha (s, n) (by simp)
          simp at hb; subst hb; exact this
        · rename_i he
          have e : p ++ [(s, n), (k, 1)] = (p ++ [(s, n)]) ++ [(k, 1)] := by simp
          rw [e]
          refine List.pairwise_append.2 ⟨ih, List.pairwise_singleton _ _, fun a ha b hb2 => ?_⟩
          simp at hb2; subst hb2
          have h1 := hb (s, n) (by simp)
          have h2 := hb a ha
          rcases List.mem_append.1 ha with h3 | h3
          · have := i3 a h3 (s, n) (by simp); dsimp only at this h1 ⊢; omega
          · simp at h3; subst h3; dsimp only at h1 ⊢; omega

theorem runsTo_cover (l : List UInt8) (k : Nat) : ∀ j, j < k → has l j = false → ∃ x ∈ runsTo l k, x.1 ≤ j ∧ j < x.1 + x.2 := by
  induction k with
  | zero => intro j h; omega
  | succ k ih =>
    intro j hj hz
    simp only [runsTo]
    split
    · rename_i h
      have : j ≠ k := fun e => by rw [e, h] at hz; cases hz
      exact ih j (by omega) hz
    · rcases list_snoc (runsTo l k) with h | ⟨p, ⟨s, n⟩, h⟩
      · rw [h]
        by_cases e : j = k
        · exact ⟨(k, 1), by simp [grow], by dsimp only; omega⟩
        · obtain ⟨x, hx, _⟩ := ih j (by omega) hz
          rw [h] at hx; simp at hx
      · rw [h, grow_snoc]
        by_cases e : j = k
        · split
          · exact ⟨(s, n + 1), by simp, by dsimp only; have := runsTo_bound l k (s, n) (by rw [h]; simp); dsimp only at this; omega⟩
          · exact ⟨(k, 1), by simp, by dsimp only; omega⟩
        · obtain ⟨x, hx, h1, h2⟩ := ih j (by omega) hz
          rw [h] at hx
          rcases List.mem_append.1 hx with h3 | h3
          · split
            · exact ⟨x, List.mem_append_left _ h3, h1, h2⟩
            · exact ⟨x, List.mem_append_left _ h3, h1, h2⟩
          · simp at h3; subst h3
            split
            · exact ⟨(s, n + 1), by simp, h1, by dsimp only at h2 ⊢; omega⟩
            · exact ⟨(s, n), by simp, h1, h2⟩

theorem runsTo_zero (l : List UInt8) (k : Nat) : ∀ x ∈ runsTo l k, ∀ j, x.1 ≤ j → j < x.1 + x.2 → has l j = false := by
  induction k with
  | zero => intro x hx; simp [runsTo] at hx
  | succ k ih =>
    intro x hx j h1 h2
    simp only [runsTo] at hx
    split at hx
    · exact ih x hx j h1 h2
    · rename_i hk
      have hk' : has l k = false := by simpa using hk
      rcases list_snoc (runsTo l k) with h | ⟨p, ⟨s, n⟩, h⟩
      · rw [h] at hx; simp [grow] at hx; subst hx
        have : j = k := by dsimp only at h1 h2; omega
        rw [this]; exact hk'
      · rw [h, grow_snoc] at hx
        rw [h] at ih
        split at hx
        · rename_i he
          rcases List.mem_append.1 hx with h3 | h3
          · exact ih x (List.mem_append_left _ h3) j h1 h2
          · simp at h3; subst h3
            by_cases e : j = k
            · rw [e]; exact hk'
            · exact ih (s, n) (by simp) j h1 (by dsimp only at h2 ⊢; omega)
        · simp only [List.mem_append, List.mem_cons, List.not_mem_nil, or_false] at hx
          rcases hx with h3 | h3 | h3
          · exact ih x (List.mem_append_left _ h3) j h1 h2
          · subst h3; exact ih (s, n) (by simp) j h1 h2
          · subst h3
            have : j = k := by dsimp only at h1 h2; omega
            rw [this]; exact hk'

/-- Two runs that have a bit are one. -/
theorem rises_one {L : List (Nat × Nat)} (h : Rises L) {x y : Nat × Nat} (hx : x ∈ L) (hy : y ∈ L) : x = y ∨ x.1 + x.2 < y.1 ∨ y.1 + y.2 < x.1 := by
  obtain ⟨i, hi, rfl⟩ := List.getElem_of_mem hx
  obtain ⟨j, hj, rfl⟩ := List.getElem_of_mem hy
  have hp := List.pairwise_iff_getElem.1 h
  rcases Nat.lt_trichotomy i j with h1 | h1 | h1
  · exact .inr (.inl (hp i j hi hj h1))
  · subst h1; exact .inl rfl
  · exact .inr (.inr (hp j i hj hi h1))

/-- Zeros side by side lie in one run. -/
theorem runsTo_span (l : List UInt8) (k a d : Nat) (hd : 1 ≤ d) (h : a + d ≤ k) (hz : ∀ j, a ≤ j → j < a + d → has l j = false) : ∃ y ∈ runsTo l k, y.1 ≤ a ∧ a + d ≤ y.1 + y.2 := by
  obtain ⟨y, hy, h1, h2⟩ := runsTo_cover l k a (by omega) (hz a (Nat.le_refl _) (by omega))
  refine ⟨y, hy, h1, ?_⟩
  rcases Nat.lt_or_ge (y.1 + y.2) (a + d) with hlt | hge
  · obtain ⟨z, hz1, h3, h4⟩ := runsTo_cover l k (y.1 + y.2) (by omega) (hz _ (by omega) hlt)
    rcases rises_one (runsTo_rises l k) hy hz1 with e | e | e
    · subst e; omega
    · omega
    · omega
  · exact hge

def total (L : List (Nat × Nat)) : Nat := (L.map (·.2)).sum
theorem total_snoc (p : List (Nat × Nat)) (x : Nat × Nat) : total (p ++ [x]) = total p + x.2 := by simp [total]
theorem runsTo_total (l : List UInt8) (k : Nat) : total (runsTo l k) + countTo l k = k := by
  induction k with
  | zero => rfl
  | succ k ih =>
    have e : countTo l (k + 1) = countTo l k + if has l k then 1 else 0 := rfl
    rw [e]
    simp only [runsTo]
    split
    · omega
    · rcases list_snoc (runsTo l k) with h | ⟨p, ⟨s, n⟩, h⟩
      · rw [h] at ih ⊢
        simp [grow, total] at ih ⊢; omega
      · rw [h, total_snoc] at ih
        rw [h, grow_snoc]
        split
        · rw [total_snoc]; dsimp only at ih ⊢; omega
        · have e : p ++ [(s, n), (k, 1)] = (p ++ [(s, n)]) ++ [(k, 1)] := by simp
          rw [e, total_snoc, total_snoc]; dsimp only at ih ⊢; omega

def mx (L : List (Nat × Nat)) : Nat := L.foldl (fun m x => max m x.2) 0
theorem mx_snoc (p : List (Nat × Nat)) (x : Nat × Nat) : mx (p ++ [x]) = max (mx p) x.2 := by simp [mx]
theorem mx_le (L : List (Nat × Nat)) : ∀ x ∈ L, x.2 ≤ mx L := by
  suffices h : ∀ n (L : List (Nat × Nat)), L.length = n → ∀ x ∈ L, x.2 ≤ mx L from h _ L rfl
  intro n
  induction n with
  | zero => intro L h x hx; rw [List.eq_nil_of_length_eq_zero h] at hx; simp at hx
  | succ n ih =>
    intro L h x hx
    rcases list_snoc L with rfl | ⟨p, y, rfl⟩
    · simp at hx
    · rw [mx_snoc]
      rcases List.mem_append.1 hx with h1 | h1
      · have := ih p (by simpa using h) x h1; omega
      · simp at h1; subst h1; omega
theorem mx_mem (L : List (Nat × Nat)) : mx L = 0 ∨ ∃ x ∈ L, x.2 = mx L := by
  suffices h : ∀ n (L : List (Nat × Nat)), L.length = n → (mx L = 0 ∨ ∃ x ∈ L, x.2 = mx L) from h _ L rfl
  intro n
  induction n with
  | zero => intro L h; rw [List.eq_nil_of_length_eq_zero h]; exact .inl rfl
  | succ n ih =>
    intro L h
    rcases list_snoc L with rfl | ⟨p, y, rfl⟩
    · exact .inl rfl
    · rw [mx_snoc]
      rcases Nat.lt_or_ge y.2 (mx p) with h1 | h1
      · rw [Nat.max_eq_left (by omega)]
        rcases ih p (by simpa using h) with h2 | ⟨x, hx, h2⟩
        · exact .inl h2
        · exact .inr ⟨x, List.mem_append_left _ hx, h2⟩
      · exact .inr ⟨y, by simp, by rw [Nat.max_eq_right h1]⟩

/-- Whether a run fits does not hang on where it is looked for. -/
theorem atOf_ge (frm : Int) (x : Nat × Nat) : (x.1 : Int) ≤ atOf frm x := by unfold atOf; split <;> omega
theorem fit_ok (size frm : Int) (L : List (Nat × Nat)) : (fitOf size frm L).2 = decide (1 ≤ size ∧ ∃ x ∈ L, size ≤ (x.2 : Int)) := by
  by_cases h1 : size < 1
  · unfold fitOf; rw [if_pos h1]
    exact (decide_eq_false (fun h => by omega)).symm
  · unfold fitOf
    rw [if_neg h1]
    cases hf : L.find? (fun x => decide (atOf frm x < (x.1 : Int) + x.2 ∧ size ≤ (x.1 : Int) + x.2 - atOf frm x)) with
    | some x =>
      have hx := List.mem_of_find?_eq_some hf
      have hp := List.find?_some hf
      simp only [decide_eq_true_eq] at hp
      have := atOf_ge frm x
      exact (decide_eq_true ⟨by omega, x, hx, by omega⟩).symm
    | none =>
      dsimp only
      cases hg : L.find? (fun x => decide (size ≤ (x.2 : Int))) with
      | some x =>
        have hx := List.mem_of_find?_eq_some hg
        have hp := List.find?_some hg
        simp only [decide_eq_true_eq] at hp
        exact (decide_eq_true ⟨by omega, x, hx, hp⟩).symm
      | none =>
        refine (decide_eq_false ?_).symm
        rintro ⟨_, x, hx, h2⟩
        have := List.find?_eq_none.1 hg x hx
        simp only [decide_eq_true_eq] at this
        exact this h2
theorem fit_ok_mx (size frm : Int) (L : List (Nat × Nat)) : (fitOf size frm L).2 = (decide (1 ≤ size) && decide (size ≤ (mx L : Int))) := by
  rw [fit_ok, ← Bool.decide_and]
  congr 1
  apply propext
  constructor
  · rintro ⟨h1, x, hx, h2⟩; exact ⟨h1, by have := mx_le L x hx; omega⟩
  · rintro ⟨h1, h2⟩
    rcases mx_mem L with h | ⟨x, hx, h⟩
    · omega
    · exact ⟨h1, x, hx, by omega⟩

end Go.Proofs.Ytnpgddndelidfaa
