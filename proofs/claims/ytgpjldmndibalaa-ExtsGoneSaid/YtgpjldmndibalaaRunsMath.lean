/- Rows of runs: what a list has, rows in order, and that a row is told by what it has. No program. -/
namespace Go.Proofs.Ytgpjldmndibalaa.Runs

abbrev RL := List (Int × Int)
def top : Int := 9223372036854775807
/-- May a run be? -/
def may (x : Int × Int) : Prop := 0 ≤ x.1 ∧ 1 ≤ x.2 ∧ x.2 ≤ top - x.1
instance (x : Int × Int) : Decidable (may x) := by unfold may; infer_instance
def fin (x : Int × Int) : Int := x.1 + x.2
def isIn (x : Int × Int) (i : Int) : Prop := may x ∧ x.1 ≤ i ∧ i < fin x
/-- Is it one of a list's numbers? -/
def mem (l : RL) (i : Int) : Prop := ∃ x ∈ l, isIn x i
/-- Is a list in order? -/
def Row : RL → Prop
  | [] => True
  | x :: r => may x ∧ (∀ y ∈ r, fin x < y.1) ∧ Row r

theorem mem_nil (i : Int) : ¬ mem [] i := by rintro ⟨x, h, _⟩; cases h
theorem mem_cons (x : Int × Int) (r : RL) (i : Int) : mem (x :: r) i ↔ isIn x i ∨ mem r i := by
  constructor
  · rintro ⟨y, h, hi⟩
    rcases List.mem_cons.1 h with rfl | h
    · exact .inl hi
    · exact .inr ⟨y, h, hi⟩
  · rintro (h | ⟨y, h, hi⟩)
    · exact ⟨x, by simp, h⟩
    · exact ⟨y, by simp [h], hi⟩
theorem mem_append (a b : RL) (i : Int) : mem (a ++ b) i ↔ mem a i ∨ mem b i := by
  induction a with
  | nil => simp [mem_nil]
  | cons x a ih => rw [List.cons_append, mem_cons, mem_cons, ih, or_assoc]
theorem Row.may : ∀ {l : RL}, Row l → ∀ x ∈ l, may x
  | [], _, x, h => by cases h
  | y :: r, h, x, hx => by
    rcases List.mem_cons.1 hx with rfl | hx
    · exact h.1
    · exact Row.may h.2.2 x hx
theorem Row.tail {x : Int × Int} {r : RL} (h : Row (x :: r)) : Row r := h.2.2
/-- All of a row's numbers lie from its first run on. -/
theorem Row.from {x : Int × Int} {r : RL} (h : Row (x :: r)) (i : Int) (hi : mem (x :: r) i) : x.1 ≤ i := by
  rcases (mem_cons x r i).1 hi with h1 | ⟨y, hy, h1⟩
  · exact h1.2.1
  · have := h.2.1 y hy
    have hm := h.1
    unfold Runs.may at hm
    unfold fin at this
    have := h1.2.1
    omega
theorem Row.behind {x : Int × Int} {r : RL} (h : Row (x :: r)) (i : Int) (hi : mem r i) : fin x < i := by
  obtain ⟨y, hy, h1⟩ := hi
  have := h.2.1 y hy
  have := h1.2.1
  omega
theorem isIn_first {x : Int × Int} (h : may x) : isIn x x.1 := ⟨h, Int.le_refl _, by unfold may at h; unfold fin; omega⟩

/-- A row is told by what it has. -/
theorem row_eq : ∀ (a b : RL), Row a → Row b → (∀ i, mem a i ↔ mem b i) → a = b
  | [], [], _, _, _ => rfl
  | [], y :: s, _, hb, h => absurd ((h y.1).2 ((mem_cons y s _).2 (.inl (isIn_first hb.1)))) (mem_nil _)
  | x :: r, [], ha, _, h => absurd ((h x.1).1 ((mem_cons x r _).2 (.inl (isIn_first ha.1)))) (mem_nil _)
  | x :: r, y :: s, ha, hb, h => by
    have e1 : x.1 = y.1 := by
      have h1 := hb.from x.1 ((h x.1).1 ((mem_cons x r _).2 (.inl (isIn_first ha.1))))
      have h2 := ha.from y.1 ((h y.1).2 ((mem_cons y s _).2 (.inl (isIn_first hb.1))))
      omega
    have mx := ha.1
    have my := hb.1
    unfold may at mx my
    have e2 : fin x = fin y := by
      rcases Int.lt_trichotomy (fin x) (fin y) with hlt | heq | hgt
      · have hi : isIn y (fin x) := ⟨hb.1, by unfold fin; omega, hlt⟩
        rcases (mem_cons x r _).1 ((h _).2 ((mem_cons y s _).2 (.inl hi))) with h1 | h1
        · have := h1.2.2; omega
        · have := ha.behind _ h1; omega
      · exact heq
      · have hi : isIn x (fin y) := ⟨ha.1, by unfold fin; omega, hgt⟩
        rcases (mem_cons y s _).1 ((h _).1 ((mem_cons x r _).2 (.inl hi))) with h1 | h1
        · have := h1.2.2; omega
        · have := hb.behind _ h1; omega
    have e3 : x = y := by
      apply Prod.ext e1
      unfold fin at e2; omega
    subst e3
    have ht : ∀ i, mem r i ↔ mem s i := by
      intro i
      constructor
      · intro hi
        have hb1 := ha.behind i hi
        rcases (mem_cons x s _).1 ((h i).1 ((mem_cons x r _).2 (.inr hi))) with h1 | h1
        · have := h1.2.2; omega
        · exact h1
      · intro hi
        have hb1 := hb.behind i hi
        rcases (mem_cons x r _).1 ((h i).2 ((mem_cons x s _).2 (.inr hi))) with h1 | h1
        · have := h1.2.2; omega
        · exact h1
    rw [row_eq r s ha.2.2 hb.2.2 ht]

theorem row_append {a b : RL} (ha : Row a) (hb : Row b) (h : ∀ x ∈ a, ∀ y ∈ b, fin x < y.1) : Row (a ++ b) := by
  induction a with
  | nil => exact hb
  | cons x a ih =>
    refine ⟨ha.1, fun y hy => ?_, ih ha.2.2 (fun z hz y hy => h z (by simp [hz]) y hy)⟩
    rcases List.mem_append.1 hy with h1 | h1
    · exact ha.2.1 y h1
    · exact h x (by simp) y h1
theorem row_append_iff {a b : RL} : Row (a ++ b) ↔ Row a ∧ Row b ∧ ∀ x ∈ a, ∀ y ∈ b, fin x < y.1 := by
  constructor
  · intro h
    induction a with
    | nil => exact ⟨trivial, h, fun x hx => by cases hx⟩
    | cons z a ih =>
      obtain ⟨h1, h2, h3⟩ := ih h.2.2
      refine ⟨⟨h.1, fun y hy => h.2.1 y (by simp [hy]), h1⟩, h2, fun x hx y hy => ?_⟩
      rcases List.mem_cons.1 hx with rfl | hx
      · exact h.2.1 y (by simp [hy])
      · exact h3 x hx y hy
  · rintro ⟨h1, h2, h3⟩; exact row_append h1 h2 h3

/-! ### The document's put -/
structure Put where
  ahead : RL
  x : Int × Int
  behind : RL
def pstep (s : Put) (y : Int × Int) : Put :=
  if fin y < s.x.1 then { s with ahead := s.ahead ++ [y] }
  else if fin s.x < y.1 then { s with behind := s.behind ++ [y] }
  else { s with x := (min s.x.1 y.1, max (fin s.x) (fin y) - min s.x.1 y.1) }
def putR (l : RL) (x : Int × Int) : RL := let s := l.foldl pstep ⟨[], x, []⟩; s.ahead ++ s.x :: s.behind
def normR (l : RL) : RL := l.foldl (fun out x => if may x then putR out x else out) []

structure PInv (s : Put) (rest : RL) : Prop where
  ra : Row s.ahead
  rb : Row s.behind
  mx : may s.x
  ax : ∀ a ∈ s.ahead, fin a < s.x.1
  xb : ∀ b ∈ s.behind, fin s.x < b.1
  ar : ∀ a ∈ s.ahead, ∀ y ∈ rest, fin a < y.1
  br : ∀ b ∈ s.behind, ∀ y ∈ rest, fin b < y.1
def Put.all (s : Put) : RL := s.ahead ++ s.x :: s.behind

theorem pstep_inv (s : Put) (y : Int × Int) (rest : RL) (h : PInv s (y :: rest)) (hr : Row (y :: rest)) : PInv (pstep s y) rest ∧ ∀ i, mem (pstep s y).all i ↔ mem s.all i ∨ isIn y i := by
  obtain ⟨ra, rb, mx, ax, xb, ar, br⟩ := h
  have my := hr.1
  have hyr := hr.2.1
  unfold pstep
  split
  · rename_i h1
    refine ⟨⟨row_append ra ⟨my, fun z hz => (by cases hz), trivial⟩ (fun a ha z hz => ?_), rb, mx, fun a ha => ?_, xb, fun a ha z hz => ?_, fun b hb z hz => br b hb z (by simp [hz])⟩, fun i => ?_⟩
    · obtain rfl := List.mem_singleton.1 hz; exact ar a ha _ (by simp)
    · rcases List.mem_append.1 ha with h2 | h2
      · exact ax a h2
      · obtain rfl := List.mem_singleton.1 h2; exact h1
    · rcases List.mem_append.1 ha with h2 | h2
      · exact ar a h2 z (by simp [hz])
      · obtain rfl := List.mem_singleton.1 h2; exact hyr z hz
    · show mem (_ ++ _ :: _) i ↔ mem (_ ++ _ :: _) i ∨ _
      simp only [mem_append, mem_cons, mem_nil, or_false]
      constructor
      · rintro ((h | h) | h | h)
        · exact .inl (.inl h)
        · exact .inr h
        · exact .inl (.inr (.inl h))
        · exact .inl (.inr (.inr h))
      · rintro ((h | h | h) | h)
        · exact .inl (.inl h)
        · exact .inr (.inl h)
        · exact .inr (.inr h)
        · exact .inl (.inr h)
  · rename_i h1
    split
    · rename_i h2
      refine ⟨⟨ra, row_append rb ⟨my, fun z hz => (by cases hz), trivial⟩ (fun b hb z hz => ?_), mx, ax, fun b hb => ?_, fun a ha z hz => ar a ha z (by simp [hz]), fun b hb z hz => ?_⟩, fun i => ?_⟩
      · obtain rfl := List.mem_singleton.1 hz; exact br b hb _ (by simp)
      · rcases List.mem_append.1 hb with h3 | h3
        · exact xb b h3
        · obtain rfl := List.mem_singleton.1 h3; exact h2
      · rcases List.mem_append.1 hb with h3 | h3
        · exact br b h3 z (by simp [hz])
        · obtain rfl := List.mem_singleton.1 h3; exact hyr z hz
      · show mem (_ ++ _ :: _) i ↔ mem (_ ++ _ :: _) i ∨ _
        simp only [mem_append, mem_cons, mem_nil, or_false]
        constructor
        · rintro (h | h | h | h)
          · exact .inl (.inl h)
          · exact .inl (.inr (.inl h))
          · exact .inl (.inr (.inr h))
          · exact .inr h
        · rintro ((h | h | h) | h)
          · exact .inl h
          · exact .inr (.inl h)
          · exact .inr (.inr (.inl h))
          · exact .inr (.inr (.inr h))
    · rename_i h2
      have hbn : s.behind = [] := by
        cases hb : s.behind with
        | nil => rfl
        | cons b r =>
          have h3 := xb b (by rw [hb]; simp)
          have h4 := br b (by rw [hb]; simp) y (by simp)
          have h5 := rb.may b (by rw [hb]; simp)
          unfold Runs.may at h5 my mx
          unfold fin at *
          omega
      have hmx : may (min s.x.1 y.1, max (fin s.x) (fin y) - min s.x.1 y.1) := by
        unfold Runs.may at *; unfold fin at *; dsimp only; unfold top at *; omega
      have hfin : fin (min s.x.1 y.1, max (fin s.x) (fin y) - min s.x.1 y.1) = max (fin s.x) (fin y) := by
        show min s.x.1 y.1 + (max (fin s.x) (fin y) - min s.x.1 y.1) = _; omega
      refine ⟨⟨ra, rb, hmx, fun a ha => ?_, fun b hb => (by rw [hbn] at hb; cases hb), fun a ha z hz => ar a ha z (by simp [hz]), fun b hb z hz => br b hb z (by simp [hz])⟩, fun i => ?_⟩
      · have := ax a ha
        have := ar a ha y (by simp)
        show fin a < min s.x.1 y.1
        omega
      · show mem (_ ++ _ :: _) i ↔ mem (_ ++ _ :: _) i ∨ _
        have key : isIn (min s.x.1 y.1, max (fin s.x) (fin y) - min s.x.1 y.1) i ↔ isIn s.x i ∨ isIn y i := by
          unfold isIn
          rw [hfin]
          dsimp only
          constructor
          · rintro ⟨_, h3, h4⟩
            by_cases h5 : s.x.1 ≤ i ∧ i < fin s.x
            · exact .inl ⟨mx, h5⟩
            · refine .inr ⟨my, ?_⟩
              omega
          · rintro (⟨_, h3⟩ | ⟨_, h3⟩)
            · exact ⟨hmx, by omega⟩
            · exact ⟨hmx, by omega⟩
        simp only [mem_append, mem_cons, hbn, mem_nil, or_false, key]
        constructor
        · rintro (h | h | h)
          · exact .inl (.inl h)
          · exact .inl (.inr h)
          · exact .inr h
        · rintro ((h | h) | h)
          · exact .inl h
          · exact .inr (.inl h)
          · exact .inr (.inr h)

theorem pfold : ∀ (l : RL) (s : Put), PInv s l → Row l → PInv (l.foldl pstep s) [] ∧ ∀ i, mem (l.foldl pstep s).all i ↔ mem s.all i ∨ mem l i
  | [], s, h, _ => ⟨h, fun i => by simp [mem_nil]⟩
  | y :: l, s, h, hr => by
    obtain ⟨h1, h2⟩ := pstep_inv s y l h hr
    obtain ⟨h3, h4⟩ := pfold l (pstep s y) h1 hr.2.2
    refine ⟨h3, fun i => ?_⟩
    rw [List.foldl_cons, h4, h2, mem_cons, or_assoc]
theorem putR_spec (l : RL) (x : Int × Int) (hl : Row l) (hx : may x) : Row (putR l x) ∧ ∀ i, mem (putR l x) i ↔ mem l i ∨ isIn x i := by
  obtain ⟨h1, h2⟩ := pfold l ⟨[], x, []⟩ ⟨trivial, trivial, hx, fun a ha => (by cases ha), fun a ha => (by cases ha), fun a ha => (by cases ha), fun a ha => (by cases ha)⟩ hl
  refine ⟨row_append h1.ra ⟨h1.mx, h1.xb, h1.rb⟩ (fun a ha y hy => ?_), fun i => ?_⟩
  · rcases List.mem_cons.1 hy with rfl | hy
    · exact h1.ax a ha
    · have := h1.ax a ha
      have h3 := h1.xb y hy
      have h4 := h1.mx
      unfold Runs.may at h4
      unfold fin at *
      omega
  · have := h2 i
    show mem (Put.all _) i ↔ _
    rw [this]
    show mem ([] ++ [x]) i ∨ _ ↔ _
    rw [List.nil_append, mem_cons]
    simp only [mem_nil, or_false]
    exact or_comm
theorem normR_spec (l : RL) : Row (normR l) ∧ ∀ i, mem (normR l) i ↔ mem l i := by
  have : ∀ (l out : RL), Row out → Row (l.foldl (fun out x => if may x then putR out x else out) out) ∧ ∀ i, mem (l.foldl (fun out x => if may x then putR out x else out) out) i ↔ mem out i ∨ mem l i := by
    intro l
    induction l with
    | nil => intro out h; exact ⟨h, fun i => by simp [mem_nil]⟩
    | cons x l ih =>
      intro out h
      rw [List.foldl_cons]
      by_cases hx : may x
      · rw [if_pos hx]
        obtain ⟨h1, h2⟩ := putR_spec out x h hx
        obtain ⟨h3, h4⟩ := ih _ h1
        exact ⟨h3, fun i => by rw [h4, h2, mem_cons, or_assoc]⟩
      · rw [if_neg hx]
        obtain ⟨h3, h4⟩ := ih _ h
        refine ⟨h3, fun i => ?_⟩
        rw [h4, mem_cons]
        have : ¬ isIn x i := fun h => hx h.1
        simp [this]
  obtain ⟨h1, h2⟩ := this l [] trivial
  refine ⟨h1, fun i => ?_⟩
  have := h2 i
  rw [show normR l = List.foldl (fun out x => if may x then putR out x else out) [] l from rfl, this]
  simp [mem_nil]

end Go.Proofs.Ytgpjldmndibalaa.Runs
