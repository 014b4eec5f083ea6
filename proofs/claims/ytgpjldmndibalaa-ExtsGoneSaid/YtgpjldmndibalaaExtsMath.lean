/- Rows of exts. No program. -/
import Derived.Test.YtgpjldmndibalaaRunsOps
namespace Go.Proofs.Ytgpjldmndibalaa.Exts

/-- An ext: its first place, its first block, how many. -/
abbrev E := Int × Int × Int
abbrev EL := List E
def fin (x : E) : Int := x.1 + x.2.2
def may (x : E) : Prop := 1 ≤ x.2.2 ∧ x.2.2 ≤ 4096 ∧ 0 ≤ x.1 ∧ x.1 ≤ 2048 - x.2.2 ∧ 1 ≤ x.2.1 ∧ x.2.1 ≤ 4096 - x.2.2
instance (x : E) : Decidable (may x) := by unfold may; infer_instance
/-- Is a row in order? -/
def Row : EL → Prop
  | [] => True
  | x :: r => may x ∧ (∀ y ∈ r, fin x ≤ y.1) ∧ Row r
theorem Row.may : ∀ {l : EL}, Row l → ∀ x ∈ l, may x
  | [], _, x, h => by cases h
  | y :: r, h, x, hx => by
    rcases List.mem_cons.1 hx with rfl | hx
    · exact h.1
    · exact Row.may h.2.2 x hx
theorem row_append {a b : EL} (ha : Row a) (hb : Row b) (h : ∀ x ∈ a, ∀ y ∈ b, fin x ≤ y.1) : Row (a ++ b) := by
  induction a with
  | nil => exact hb
  | cons x a ih =>
    refine ⟨ha.1, fun y hy => ?_, ih ha.2.2 (fun z hz y hy => h z (by simp [hz]) y hy)⟩
    rcases List.mem_append.1 hy with h1 | h1
    · exact ha.2.1 y h1
    · exact h x (by simp) y h1
theorem row_append_iff {a b : EL} : Row (a ++ b) ↔ Row a ∧ Row b ∧ ∀ x ∈ a, ∀ y ∈ b, fin x ≤ y.1 := by
  constructor
  · intro h
    induction a with
    | nil => exact ⟨trivial, h, fun x hx => by cases hx⟩
    | cons x a ih =>
      obtain ⟨h1, h2, h3⟩ := ih h.2.2
      refine ⟨⟨h.1, fun y hy => h.2.1 y (by simp [hy]), h1⟩, h2, fun z hz y hy => ?_⟩
      rcases List.mem_cons.1 hz with rfl | hz
      · exact h.2.1 y (by simp [hy])
      · exact h3 z hz y hy
  · rintro ⟨h1, h2, h3⟩; exact row_append h1 h2 h3

/-- Is it in order as far as this place? -/
def okTo (l : EL) : Nat → Bool
  | 0 => true
  | i + 1 => okTo l i && decide (may (l.getD i (0, 0, 0))) && (i == 0 || decide (fin (l.getD (i - 1) (0, 0, 0)) ≤ (l.getD i (0, 0, 0)).1))
theorem okTo_row (l : EL) : ∀ n, n ≤ l.length → okTo l n = true → Row (l.take n)
  | 0, _, _ => by rw [List.take_zero]; trivial
  | n + 1, hn, h => by
    unfold okTo at h
    simp only [Bool.and_eq_true, decide_eq_true_eq, Bool.or_eq_true, beq_iff_eq] at h
    have h1 := okTo_row l n (by omega) h.1.1
    rw [List.take_succ_eq_append_getElem (by omega : n < l.length)]
    have e : l.getD n (0, 0, 0) = l[n] := by simp [List.getD, show n < l.length by omega]
    rw [e] at h
    refine row_append h1 ⟨h.1.2, fun y hy => (by cases hy), trivial⟩ (fun y hy z hz => ?_)
    obtain rfl := List.mem_singleton.1 hz
    rcases h.2 with h2 | h2
    · subst h2; simp at hy
    · obtain ⟨m, rfl⟩ : ∃ m, n = m + 1 := by
        cases n with
        | zero => simp at hy
        | succ m => exact ⟨m, rfl⟩
      rw [Nat.add_sub_cancel] at h2
      have e2 : l.getD m (0, 0, 0) = l[m] := by simp [List.getD, show m < l.length by omega]
      rw [e2] at h2
      rw [List.take_succ_eq_append_getElem (by omega : m < l.length)] at h1 hy
      obtain ⟨_, rz, hz⟩ := row_append_iff.1 h1
      rcases List.mem_append.1 hy with h3 | h3
      · have h4 := hz y h3 l[m] (by simp)
        have h5 := rz.1
        unfold may at h5
        unfold fin at *
        omega
      · obtain rfl := List.mem_singleton.1 h3
        exact h2
theorem row_okTo (l : EL) (h : Row l) : ∀ n, n ≤ l.length → okTo l n = true
  | 0, _ => rfl
  | n + 1, hn => by
    unfold okTo
    rw [row_okTo l h n (by omega), Bool.true_and]
    have e : l.getD n (0, 0, 0) = l[n] := by simp [List.getD, show n < l.length by omega]
    rw [e, decide_eq_true (h.may _ (List.getElem_mem _)), Bool.true_and]
    cases n with
    | zero => rfl
    | succ m =>
      rw [Nat.add_sub_cancel]
      have e2 : l.getD m (0, 0, 0) = l[m] := by simp [List.getD, show m < l.length by omega]
      rw [e2]
      have h1 : Row (l.take (m + 1) ++ l.drop (m + 1)) := by rwa [List.take_append_drop]
      have h2 := (row_append_iff.1 h1).2.2 l[m] (by rw [List.take_succ_eq_append_getElem (show m < l.length by omega)]; exact List.mem_append_right _ (List.mem_singleton.2 rfl)) l[m + 1] (by rw [List.drop_eq_getElem_cons (show m + 1 < l.length by omega)]; exact List.mem_cons_self)
      simp [h2]
theorem check_row {l : EL} : okTo l l.length = true ↔ Row l :=
  ⟨fun h => by have := okTo_row l l.length (Nat.le_refl _) h; rwa [List.take_length] at this, fun h => row_okTo l h _ (Nat.le_refl _)⟩

/-! ### Parts of exts -/
def part (x : E) (a b : Int) : EL := if max a x.1 < min b (fin x) then [(max a x.1, x.2.1 + max a x.1 - x.1, min b (fin x) - max a x.1)] else []
def parts (l : EL) (a b : Int) : EL := l.flatMap fun x => part x a b
def changeR (l : EL) (a b : Int) (m : EL) : EL := parts l 0 a ++ m ++ parts l b 2048
theorem part_all (x : E) (h : may x) : part x x.1 (fin x) = [x] := by
  unfold may at h
  have e1 : max x.1 x.1 = x.1 := by omega
  have e2 : min (fin x) (fin x) = fin x := by omega
  unfold part
  rw [e1, e2, if_pos (by unfold fin; omega)]
  obtain ⟨a, b, c⟩ := x
  unfold fin
  simp only [List.cons.injEq, and_true, Prod.mk.injEq, true_and]
  omega
theorem part_mem {x : E} {a b : Int} (hx : may x) (h0 : 0 ≤ a) : ∀ y ∈ part x a b, may y ∧ a ≤ y.1 ∧ x.1 ≤ y.1 ∧ fin y ≤ b ∧ fin y ≤ fin x := by
  intro y hy
  unfold part at hy
  split at hy
  · obtain rfl := List.mem_singleton.1 hy
    unfold may at *
    unfold fin at *
    dsimp only
    omega
  · cases hy
theorem parts_row {l : EL} (hl : Row l) (a b : Int) (h0 : 0 ≤ a) : Row (parts l a b) ∧ ∀ y ∈ parts l a b, a ≤ y.1 ∧ fin y ≤ b ∧ ∃ x ∈ l, x.1 ≤ y.1 ∧ fin y ≤ fin x := by
  induction l with
  | nil => exact ⟨trivial, fun y hy => by cases hy⟩
  | cons x l ih =>
    obtain ⟨h1, h2⟩ := ih hl.2.2
    have hp := part_mem (b := b) hl.1 h0
    have e : parts (x :: l) a b = part x a b ++ parts l a b := by simp [parts]
    rw [e]
    have hpr : Row (part x a b) := by
      unfold part at hp ⊢
      split
      · rename_i h
        rw [if_pos h] at hp
        exact ⟨(hp _ (List.mem_singleton.2 rfl)).1, fun y hy => (by cases hy), trivial⟩
      · trivial
    refine ⟨row_append hpr h1 (fun p hq q hr => ?_), fun y hy => ?_⟩
    · obtain ⟨_, _, x', hx', h3, _⟩ := h2 q hr
      have h4 := (hp p hq).2.2.2.2
      have h5 := hl.2.1 x' hx'
      omega
    · rcases List.mem_append.1 hy with h3 | h3
      · have h4 := hp y h3
        exact ⟨h4.2.1, h4.2.2.2.1, x, by simp, h4.2.2.1, h4.2.2.2.2⟩
      · obtain ⟨h4, h5, x', hx', h6⟩ := h2 y h3
        exact ⟨h4, h5, x', by simp [hx'], h6⟩
theorem change_row {l m : EL} (hl : Row l) (hm : Row m) (a b : Int) (h0 : 0 ≤ a) (hab : a ≤ b) (hma : ∀ y ∈ m, a ≤ y.1 ∧ fin y ≤ b) : Row (changeR l a b m) := by
  obtain ⟨h1, h2⟩ := parts_row hl 0 a (Int.le_refl _)
  obtain ⟨h3, h4⟩ := parts_row hl b 2048 (by omega)
  unfold changeR
  refine row_append (row_append h1 hm (fun p hp q hq => ?_)) h3 (fun p hp q hq => ?_)
  · have := (h2 p hp).2.1
    have := (hma q hq).1
    omega
  · have h5 := (h4 q hq).1
    rcases List.mem_append.1 hp with h6 | h6
    · have := (h2 p h6).2.1; omega
    · have := (hma p h6).2; omega

/-! ### What a row says -/
/-- A place's block. -/
def at_ (l : EL) (n : Int) : Option (Int × Int) :=
  match l with
  | [] => none
  | x :: r => if x.1 ≤ n ∧ n < fin x then some (x.2.1 + n - x.1, fin x - n) else at_ r n
def blocksR (l : EL) : List (Int × Int) := if okTo l l.length then Runs.normR (l.map fun x => (x.2.1, x.2.2)) else []

end Go.Proofs.Ytgpjldmndibalaa.Exts
