/- Bitmaps: the bit and the run that are found, by what they are. Plain Lean. -/
import Derived.Test.YtnpgddndelidfaaBitsMore
namespace Go.Proofs.Ytnpgddndelidfaa

/-- The least zero from somewhere on, or else the least of all. -/
structure Finds (Z : Nat → Prop) (frm : Int) (r : Nat) : Prop where
  zero : Z r
  least : (frm ≤ (r : Int) ∧ ∀ j, Z j → frm ≤ (j : Int) → r ≤ j) ∨ ((∀ j, Z j → (j : Int) < frm) ∧ ∀ j, Z j → r ≤ j)

def isZero (l : List UInt8) (N j : Nat) : Prop := j < N ∧ has l j = false

theorem find_split {α : Type} {p : α → Bool} {l : List α} {x : α} (h : l.find? p = some x) : p x = true ∧ ∃ pre post, l = pre ++ x :: post ∧ ∀ a ∈ pre, p a = false := by
  obtain ⟨h1, pre, post, h2, h3⟩ := List.find?_eq_some_iff_append.1 h
  exact ⟨h1, pre, post, h2, fun a ha => by simpa using h3 a ha⟩

theorem rises_behind {pre post : List (Nat × Nat)} {x : Nat × Nat} (h : Rises (pre ++ x :: post)) : ∀ y ∈ post, x.1 + x.2 < y.1 := by
  obtain ⟨_, h2, _⟩ := List.pairwise_append.1 h
  exact (List.pairwise_cons.1 h2).1

theorem fit_none_none (frm : Int) (l : List UInt8) (N : Nat) (h : (fitOf 1 frm (runsTo l N)).2 = false) : runsTo l N = [] ∧ fitOf 1 frm (runsTo l N) = ((0, 0), false) := by
  rw [fit_ok] at h
  have hnil : runsTo l N = [] := by
    cases hL : runsTo l N with
    | nil => rfl
    | cons x r =>
      have := runsTo_pos l N x (by rw [hL]; simp)
      rw [hL] at h
      have h2 := of_decide_eq_false h
      exact absurd ⟨by omega, x, by simp, by omega⟩ h2
  rw [hnil]
  exact ⟨rfl, by simp [fitOf]⟩

theorem find_spec (frm : Int) (l : List UInt8) (N : Nat) (h : (fitOf 1 frm (runsTo l N)).2 = true) : ∃ r : Nat, (fitOf 1 frm (runsTo l N)).1.1 = (r : Int) ∧ Finds (isZero l N) frm r := by
  have hri := runsTo_rises l N
  have hcov := runsTo_cover l N
  have hzer := runsTo_zero l N
  have hbd := runsTo_bound l N
  have hpos := runsTo_pos l N
  generalize hL : runsTo l N = L at *
  have hunf : fitOf 1 frm L = match L.find? (fun x => decide (atOf frm x < (x.1 : Int) + x.2 ∧ 1 ≤ (x.1 : Int) + x.2 - atOf frm x)) with
    | some x => ((atOf frm x, 1), true)
    | none => match L.find? (fun x => decide (1 ≤ (x.2 : Int))) with
      | some x => (((x.1 : Int), 1), true)
      | none => ((0, 0), false) := by unfold fitOf; rw [if_neg (by omega)]; rfl
  cases hf : L.find? (fun x => decide (atOf frm x < (x.1 : Int) + x.2 ∧ 1 ≤ (x.1 : Int) + x.2 - atOf frm x)) with
  | some x =>
    rw [hf] at hunf
    dsimp only at hunf
    rw [hunf]
    have hx := List.mem_of_find?_eq_some hf
    obtain ⟨hp, pre, post, hab, has⟩ := find_split hf
    simp only [decide_eq_true_eq] at hp
    have hge := atOf_ge frm x
    have hgf : frm ≤ atOf frm x := by unfold atOf; split <;> omega
    refine ⟨(atOf frm x).toNat, by dsimp only; omega, ?_, .inl ⟨by omega, ?_⟩⟩
    · exact ⟨by have := hbd x hx; omega, hzer x hx _ (by omega) (by omega)⟩
    · intro j hj hfj
      obtain ⟨y, hy, h1, h2⟩ := hcov j hj.1 hj.2
      have haty : atOf frm y ≤ (j : Int) := by unfold atOf; split <;> omega
      rw [hab] at hy
      rcases List.mem_append.1 hy with hya | hyb
      · have := has y hya
        simp only [decide_eq_false_iff_not] at this
        exact absurd ⟨by omega, by omega⟩ this
      · rcases List.mem_cons.1 hyb with rfl | hyb
        · omega
        · have := rises_behind (hab ▸ hri) y hyb
          omega
  | none =>
    rw [hf] at hunf
    dsimp only at hunf
    have hnone := List.find?_eq_none.1 hf
    cases hg : L.find? (fun x => decide (1 ≤ (x.2 : Int))) with
    | none => rw [hg] at hunf; rw [hunf] at h; cases h
    | some x =>
      rw [hg] at hunf
      dsimp only at hunf
      rw [hunf]
      have hx := List.mem_of_find?_eq_some hg
      obtain ⟨hp, pre, post, hab, has⟩ := find_split hg
      have hp1 := hpos x hx
      refine ⟨x.1, rfl, ⟨by have := hbd x hx; omega, hzer x hx _ (Nat.le_refl _) (by omega)⟩, .inr ⟨?_, ?_⟩⟩
      · intro j hj
        obtain ⟨y, hy, h1, h2⟩ := hcov j hj.1 hj.2
        have := hnone y hy
        simp only [decide_eq_true_eq] at this
        have haty : atOf frm y = if frm > (y.1 : Int) then frm else (y.1 : Int) := rfl
        rcases Int.lt_or_le (j : Int) frm with h3 | h3
        · exact h3
        · exact absurd ⟨by rw [haty]; split <;> omega, by rw [haty]; split <;> omega⟩ this
      · intro j hj
        obtain ⟨y, hy, h1, h2⟩ := hcov j hj.1 hj.2
        rw [hab] at hy
        rcases List.mem_append.1 hy with hya | hyb
        · have h3 := has y hya
          simp only [decide_eq_false_iff_not] at h3
          have := hpos y (by rw [hab]; exact List.mem_append_left _ hya)
          omega
        · rcases List.mem_cons.1 hyb with rfl | hyb
          · omega
          · have := rises_behind (hab ▸ hri) y hyb
            omega

/-- A search behind a bit that is taken goes on pre the first one does. -/
theorem finds_same {Z : Nat → Prop} {frm : Int} {k m o : Nat} (hk : Finds Z frm k) (hge : frm ≤ (k : Int)) (hm : Finds (fun j => Z j ∧ j ≠ k) frm m) (ho : Finds (fun j => Z j ∧ j ≠ k) ((k : Int) + 1) o) : m = o := by
  have hkl : ∀ j, Z j → frm ≤ (j : Int) → k ≤ j := by
    rcases hk.least with ⟨_, h⟩ | ⟨h, _⟩
    · exact h
    · have := h k hk.zero; omega
  have hmz := hm.zero
  have hoz := ho.zero
  have mk : frm ≤ (m : Int) → k < m := fun h => by have := hkl m hmz.1 h; have := hmz.2; omega
  have ok : frm ≤ (o : Int) → k < o := fun h => by have := hkl o hoz.1 h; have := hoz.2; omega
  rcases hm.least with ⟨h1, h2⟩ | ⟨h1, h2⟩
  · have := mk h1
    rcases ho.least with ⟨h3, h4⟩ | ⟨h3, h4⟩
    · have a1 := h2 o hoz (by omega)
      have a2 := h4 m hmz (by omega)
      omega
    · have := h3 m hmz; omega
  · have a1 := h1 m hmz
    rcases ho.least with ⟨h3, h4⟩ | ⟨h3, h4⟩
    · have := h1 o hoz; omega
    · have a1 := h2 o hoz
      have a2 := h4 m hmz
      omega

theorem countTo_put (l : List UInt8) (k : Nat) (hk : k < l.length * 8) (hz : has l k = false) : ∀ N, countTo (put l k true) N = countTo l N + if k < N then 1 else 0 := by
  intro N
  induction N with
  | zero => simp [countTo]
  | succ N ih =>
    have e1 : countTo (put l k true) (N + 1) = countTo (put l k true) N + if has (put l k true) N then 1 else 0 := rfl
    have e2 : countTo l (N + 1) = countTo l N + if has l N then 1 else 0 := rfl
    rw [e1, e2, ih, has_put l k N true hk]
    by_cases h : k = N
    · subst h; simp [hz]
    · by_cases h2 : k < N
      · simp [h, h2, show k < N + 1 by omega]; omega
      · simp [h, h2, show ¬ k < N + 1 by omega]

theorem isZero_put (l : List UInt8) (k N : Nat) (hk : k < l.length * 8) : isZero (put l k true) N = fun j => isZero l N j ∧ j ≠ k := by
  funext j
  apply propext
  unfold isZero
  rw [has_put l k j true hk]
  constructor
  · rintro ⟨h1, h2⟩
    by_cases e : k = j
    · rw [if_pos e] at h2; cases h2
    · rw [if_neg e] at h2; exact ⟨⟨h1, h2⟩, fun h => e h.symm⟩
  · rintro ⟨⟨h1, h2⟩, h3⟩
    exact ⟨h1, by rw [if_neg (fun h => h3 h.symm)]; exact h2⟩

end Go.Proofs.Ytnpgddndelidfaa
