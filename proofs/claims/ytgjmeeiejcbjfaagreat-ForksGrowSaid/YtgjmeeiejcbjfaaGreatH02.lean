/- Rows of runs: what a list has, rows in order, and that a row is told by what it has. No program. -/

set_option linter.unusedSimpArgs false
set_option linter.unusedVariables false
namespace Go.Proofs.YtgjmeeiejcbjfaaGreat.Runs
abbrev RL := List (Int × Int)
def top : Int := 9223372036854775807
def may (x : Int × Int) : Prop := 0 ≤ x.1 ∧ 1 ≤ x.2 ∧ x.2 ≤ top - x.1
instance (x : Int × Int) : Decidable (may x) := by unfold may; infer_instance
def fin (x : Int × Int) : Int := x.1 + x.2
def isIn (x : Int × Int) (i : Int) : Prop := may x ∧ x.1 ≤ i ∧ i < fin x
def mem (l : RL) (i : Int) : Prop := ∃ x ∈ l, isIn x i
def Row : RL → Prop
 | [] => True
 | x :: r => may x ∧ (∀ y ∈ r, fin x < y.1) ∧ Row r
theorem mem_nil (i : Int) : ¬ mem [] i := by rintro ⟨x, h, _⟩; cases h
theorem mem_cons (x : Int × Int) (r : RL) (i : Int) : mem (x :: r) i ↔ isIn x i ∨ mem r i := by
 constructor
 ·rintro ⟨y, h, hi⟩
  rcases List.mem_cons.1 h with rfl | h
  ·exact .inl hi
  ·exact .inr ⟨y, h, hi⟩
 ·rintro (h | ⟨y, h, hi⟩)
  ·exact ⟨x, by simp, h⟩
  ·exact ⟨y, by simp [h], hi⟩
theorem mem_append (a b : RL) (i : Int) : mem (a ++ b) i ↔ mem a i ∨ mem b i := by
 induction a with
 | nil => simp [mem_nil]
 | cons x a ih => rw [List.cons_append, mem_cons, mem_cons, ih, or_assoc]
theorem Row.may : ∀ {l : RL}, Row l → ∀ x ∈ l, may x
 | [], _, x, h => by cases h
 | y :: r, h, x, hx => by
  rcases List.mem_cons.1 hx with rfl | hx
  ·exact h.1
  ·exact Row.may h.2.2 x hx
theorem Row.tail {x : Int × Int} {r : RL} (h : Row (x :: r)) : Row r := h.2.2
theorem Row.from {x : Int × Int} {r : RL} (h : Row (x :: r)) (i : Int) (hi : mem (x :: r) i) : x.1 ≤ i := by
 rcases (mem_cons x r i).1 hi with h1 | ⟨y, hy, h1⟩
 ·exact h1.2.1
 ·have := h.2.1 y hy
  have hm := h.1
  unfold Runs.may at hm
  unfold fin at this
  have := h1.2.1
  omega
theorem Row.behind {x : Int × Int} {r : RL} (h : Row (x :: r)) (i : Int) (hi : mem r i) : fin x < i := by
 obtain ⟨y, hy, h1⟩ := hi
 have := h.2.1 y hy
 have := h1.2.1
 omega
theorem isIn_first {x : Int × Int} (h : may x) : isIn x x.1 := ⟨h, Int.le_refl _, by unfold may at h; unfold fin; omega⟩
theorem row_eq : ∀ (a b : RL), Row a → Row b → (∀ i, mem a i ↔ mem b i) → a = b
 | [], [], _, _, _ => rfl
 | [], y :: s, _, hb, h => absurd ((h y.1).2 ((mem_cons y s _).2 (.inl (isIn_first hb.1)))) (mem_nil _)
 | x :: r, [], ha, _, h => absurd ((h x.1).1 ((mem_cons x r _).2 (.inl (isIn_first ha.1)))) (mem_nil _)
 | x :: r, y :: s, ha, hb, h => by
  have e1 : x.1 = y.1 := by
   have h1 := hb.from x.1 ((h x.1).1 ((mem_cons x r _).2 (.inl (isIn_first ha.1))))
   have h2 := ha.from y.1 ((h y.1).2 ((mem_cons y s _).2 (.inl (isIn_first hb.1))))
   omega
  have mx := ha.1
  have my := hb.1
  unfold may at mx my
  have e2 : fin x = fin y := by
   rcases Int.lt_trichotomy (fin x) (fin y) with hlt | heq | hgt
   ·have hi : isIn y (fin x) := ⟨hb.1, by unfold fin; omega, hlt⟩
    rcases (mem_cons x r _).1 ((h _).2 ((mem_cons y s _).2 (.inl hi))) with h1 | h1
    ·have := h1.2.2; omega
    ·have := ha.behind _ h1; omega
   ·exact heq
   ·have hi : isIn x (fin y) := ⟨ha.1, by unfold fin; omega, hgt⟩
    rcases (mem_cons y s _).1 ((h _).1 ((mem_cons x r _).2 (.inl hi))) with h1 | h1
    ·have := h1.2.2; omega
    ·have := hb.behind _ h1; omega
  have e3 : x = y := by
   apply Prod.ext e1
   unfold fin at e2; omega
  subst e3
  have ht : ∀ i, mem r i ↔ mem s i := by
   intro i
   constructor
   ·intro hi
    have hb1 := ha.behind i hi
    rcases (mem_cons x s _).1 ((h i).1 ((mem_cons x r _).2 (.inr hi))) with h1 | h1
    ·have := h1.2.2; omega
    ·exact h1
   ·intro hi
    have hb1 := hb.behind i hi
    rcases (mem_cons x r _).1 ((h i).2 ((mem_cons x s _).2 (.inr hi))) with h1 | h1
    ·have := h1.2.2; omega
    ·exact h1
  rw [row_eq r s ha.2.2 hb.2.2 ht]
theorem row_append {a b : RL} (ha : Row a) (hb : Row b) (h : ∀ x ∈ a, ∀ y ∈ b, fin x < y.1) : Row (a ++ b) := by
 induction a with
 | nil => exact hb
 | cons x a ih =>
  refine ⟨ha.1, fun y hy => ?_, ih ha.2.2 (fun z hz y hy => h z (by simp [hz]) y hy)⟩
  rcases List.mem_append.1 hy with h1 | h1
  ·exact ha.2.1 y h1
  ·exact h x (by simp) y h1
theorem row_append_iff {a b : RL} : Row (a ++ b) ↔ Row a ∧ Row b ∧ ∀ x ∈ a, ∀ y ∈ b, fin x < y.1 := by
 constructor
 ·intro h
  induction a with
  | nil => exact ⟨trivial, h, fun x hx => by cases hx⟩
  | cons z a ih =>
   obtain ⟨h1, h2, h3⟩ := ih h.2.2
   refine ⟨⟨h.1, fun y hy => h.2.1 y (by simp [hy]), h1⟩, h2, fun x hx y hy => ?_⟩
   rcases List.mem_cons.1 hx with rfl | hx
   ·exact h.2.1 y (by simp [hy])
   ·exact h3 x hx y hy
 ·rintro ⟨h1, h2, h3⟩; exact row_append h1 h2 h3
structure Put where
 ahead : RL
 x : Int × Int
 behind : RL
def pstep (s : Put) (y : Int × Int) : Put :=
 if fin y < s.x.1 then { s with ahead := s.ahead ++ [y] }
 else if fin s.x < y.1 then { s with behind := s.behind ++ [y] }
 else { s with x := (min s.x.1 y.1, max (fin s.x) (fin y) - min s.x.1 y.1) }
def putR (l : RL) (x : Int × Int) : RL := let s := l.foldl pstep ⟨[], x, []⟩; s.ahead ++ s.x :: s.behind
def normR (l : RL) : RL := l.foldl (fun out x => if may x then putR out x else out) []
structure PInv (s : Put) (rest : RL) : Prop where
 ra : Row s.ahead
 rb : Row s.behind
 mx : may s.x
 ax : ∀ a ∈ s.ahead, fin a < s.x.1
 xb : ∀ b ∈ s.behind, fin s.x < b.1
 ar : ∀ a ∈ s.ahead, ∀ y ∈ rest, fin a < y.1
 br : ∀ b ∈ s.behind, ∀ y ∈ rest, fin b < y.1
def Put.all (s : Put) : RL := s.ahead ++ s.x :: s.behind
theorem pstep_inv (s : Put) (y : Int × Int) (rest : RL) (h : PInv s (y :: rest)) (hr : Row (y :: rest)) : PInv (pstep s y) rest ∧ ∀ i, mem (pstep s y).all i ↔ mem s.all i ∨ isIn y i := by
 obtain ⟨ra, rb, mx, ax, xb, ar, br⟩ := h
 have my := hr.1
 have hyr := hr.2.1
 unfold pstep
 split
 ·rename_i h1
  refine ⟨⟨row_append ra ⟨my, fun z hz => (by cases hz), trivial⟩ (fun a ha z hz => ?_), rb, mx, fun a ha => ?_, xb, fun a ha z hz => ?_, fun b hb z hz => br b hb z (by simp [hz])⟩, fun i => ?_⟩
  ·obtain rfl := List.mem_singleton.1 hz; exact ar a ha _ (by simp)
  ·rcases List.mem_append.1 ha with h2 | h2
   ·exact ax a h2
   ·obtain rfl := List.mem_singleton.1 h2; exact h1
  ·rcases List.mem_append.1 ha with h2 | h2
   ·exact ar a h2 z (by simp [hz])
   ·obtain rfl := List.mem_singleton.1 h2; exact hyr z hz
  ·show mem (_ ++ _ :: _) i ↔ mem (_ ++ _ :: _) i ∨ _
   simp only [mem_append, mem_cons, mem_nil, or_false]
   constructor
   ·rintro ((h | h) | h | h)
    ·exact .inl (.inl h)
    ·exact .inr h
    ·exact .inl (.inr (.inl h))
    ·exact .inl (.inr (.inr h))
   ·rintro ((h | h | h) | h)
    ·exact .inl (.inl h)
    ·exact .inr (.inl h)
    ·exact .inr (.inr h)
    ·exact .inl (.inr h)
 ·rename_i h1
  split
  ·rename_i h2
   refine ⟨⟨ra, row_append rb ⟨my, fun z hz => (by cases hz), trivial⟩ (fun b hb z hz => ?_), mx, ax, fun b hb => ?_, fun a ha z hz => ar a ha z (by simp [hz]), fun b hb z hz => ?_⟩, fun i => ?_⟩
   ·obtain rfl := List.mem_singleton.1 hz; exact br b hb _ (by simp)
   ·rcases List.mem_append.1 hb with h3 | h3
    ·exact xb b h3
    ·obtain rfl := List.mem_singleton.1 h3; exact h2
   ·rcases List.mem_append.1 hb with h3 | h3
    ·exact br b h3 z (by simp [hz])
    ·obtain rfl := List.mem_singleton.1 h3; exact hyr z hz
   ·show mem (_ ++ _ :: _) i ↔ mem (_ ++ _ :: _) i ∨ _
    simp only [mem_append, mem_cons, mem_nil, or_false]
    constructor
    ·rintro (h | h | h | h)
     ·exact .inl (.inl h)
     ·exact .inl (.inr (.inl h))
     ·exact .inl (.inr (.inr h))
     ·exact .inr h
    ·rintro ((h | h | h) | h)
     ·exact .inl h
     ·exact .inr (.inl h)
     ·exact .inr (.inr (.inl h))
     ·exact .inr (.inr (.inr h))
  ·rename_i h2
   have hbn : s.behind = [] := by
    cases hb : s.behind with
    | nil => rfl
    | cons b r =>
     have h3 := xb b (by rw [hb]; simp)
     have h4 := br b (by rw [hb]; simp) y (by simp)
     have h5 := rb.may b (by rw [hb]; simp)
     unfold Runs.may at h5 my mx
     unfold fin at *
     omega
   have hmx : may (min s.x.1 y.1, max (fin s.x) (fin y) - min s.x.1 y.1) := by
    unfold Runs.may at *; unfold fin at *; dsimp only; unfold top at *; omega
   have hfin : fin (min s.x.1 y.1, max (fin s.x) (fin y) - min s.x.1 y.1) = max (fin s.x) (fin y) := by
    show min s.x.1 y.1 + (max (fin s.x) (fin y) - min s.x.1 y.1) = _; omega
   refine ⟨⟨ra, rb, hmx, fun a ha => ?_, fun b hb => (by rw [hbn] at hb; cases hb), fun a ha z hz => ar a ha z (by simp [hz]), fun b hb z hz => br b hb z (by simp [hz])⟩, fun i => ?_⟩
   ·have := ax a ha
    have := ar a ha y (by simp)
    show fin a < min s.x.1 y.1
    omega
   ·show mem (_ ++ _ :: _) i ↔ mem (_ ++ _ :: _) i ∨ _
    have key : isIn (min s.x.1 y.1, max (fin s.x) (fin y) - min s.x.1 y.1) i ↔ isIn s.x i ∨ isIn y i := by
     unfold isIn
     rw [hfin]
     dsimp only
     constructor
     ·rintro ⟨_, h3, h4⟩
      by_cases h5 : s.x.1 ≤ i ∧ i < fin s.x
      ·exact .inl ⟨mx, h5⟩
      ·refine .inr ⟨my, ?_⟩
       omega
     ·rintro (⟨_, h3⟩ | ⟨_, h3⟩)
      ·exact ⟨hmx, by omega⟩
      ·exact ⟨hmx, by omega⟩
    simp only [mem_append, mem_cons, hbn, mem_nil, or_false, key]
    constructor
    ·rintro (h | h | h)
     ·exact .inl (.inl h)
     ·exact .inl (.inr h)
     ·exact .inr h
    ·rintro ((h | h) | h)
     ·exact .inl h
     ·exact .inr (.inl h)
     ·exact .inr (.inr h)
theorem pfold : ∀ (l : RL) (s : Put), PInv s l → Row l → PInv (l.foldl pstep s) [] ∧ ∀ i, mem (l.foldl pstep s).all i ↔ mem s.all i ∨ mem l i
 | [], s, h, _ => ⟨h, fun i => by simp [mem_nil]⟩
 | y :: l, s, h, hr => by
  obtain ⟨h1, h2⟩ := pstep_inv s y l h hr
  obtain ⟨h3, h4⟩ := pfold l (pstep s y) h1 hr.2.2
  refine ⟨h3, fun i => ?_⟩
  rw [List.foldl_cons, h4, h2, mem_cons, or_assoc]
theorem putR_spec (l : RL) (x : Int × Int) (hl : Row l) (hx : may x) : Row (putR l x) ∧ ∀ i, mem (putR l x) i ↔ mem l i ∨ isIn x i := by
 obtain ⟨h1, h2⟩ := pfold l ⟨[], x, []⟩ ⟨trivial, trivial, hx, fun a ha => (by cases ha), fun a ha => (by cases ha), fun a ha => (by cases ha), fun a ha => (by cases ha)⟩ hl
 refine ⟨row_append h1.ra ⟨h1.mx, h1.xb, h1.rb⟩ (fun a ha y hy => ?_), fun i => ?_⟩
 ·rcases List.mem_cons.1 hy with rfl | hy
  ·exact h1.ax a ha
  ·have := h1.ax a ha
   have h3 := h1.xb y hy
   have h4 := h1.mx
   unfold Runs.may at h4
   unfold fin at *
   omega
 ·have := h2 i
  show mem (Put.all _) i ↔ _
  rw [this]
  show mem ([] ++ [x]) i ∨ _ ↔ _
  rw [List.nil_append, mem_cons]
  simp only [mem_nil, or_false]
  exact or_comm
theorem normR_spec (l : RL) : Row (normR l) ∧ ∀ i, mem (normR l) i ↔ mem l i := by
 have : ∀ (l out : RL), Row out → Row (l.foldl (fun out x => if may x then putR out x else out) out) ∧ ∀ i, mem (l.foldl (fun out x => if may x then putR out x else out) out) i ↔ mem out i ∨ mem l i := by
  intro l
  induction l with
  | nil => intro out h; exact ⟨h, fun i => by simp [mem_nil]⟩
  | cons x l ih =>
   intro out h
   rw [List.foldl_cons]
   by_cases hx : may x
   ·rw [if_pos hx]
    obtain ⟨h1, h2⟩ := putR_spec out x h hx
    obtain ⟨h3, h4⟩ := ih _ h1
    exact ⟨h3, fun i => by rw [h4, h2, mem_cons, or_assoc]⟩
   ·rw [if_neg hx]
    obtain ⟨h3, h4⟩ := ih _ h
    refine ⟨h3, fun i => ?_⟩
    rw [h4, mem_cons]
    have : ¬ isIn x i := fun h => hx h.1
    simp [this]
 obtain ⟨h1, h2⟩ := this l [] trivial
 refine ⟨h1, fun i => ?_⟩
 have := h2 i
 rw [show normR l = List.foldl (fun out x => if may x then putR out x else out) [] l from rfl, this]
 simp [mem_nil]
theorem row_snoc {a : RL} {x : Int × Int} (ha : Row a) (hx : may x) (h : ∀ y ∈ a, fin y < x.1) : Row (a ++ [x]) :=
 row_append ha ⟨hx, fun y hy => (by cases hy), trivial⟩ (fun y hy z hz => by obtain rfl := List.mem_singleton.1 hz; exact h y hy)
theorem mem_one (x : Int × Int) (i : Int) : mem [x] i ↔ isIn x i := by rw [mem_cons]; simp [mem_nil]
def mstep (out : RL) (x : Int × Int) : RL :=
 match out.getLast? with
 | none => [x]
 | some z => if x.1 ≤ fin z then out.dropLast ++ [(z.1, max (fin z) (fin x) - z.1)] else out ++ [x]
def mergeN (l : RL) : RL := l.foldl mstep []
theorem mstep_nil (x : Int × Int) : mstep [] x = [x] := rfl
theorem mstep_snoc (a : RL) (z x : Int × Int) : mstep (a ++ [z]) x = if x.1 ≤ fin z then a ++ [(z.1, max (fin z) (fin x) - z.1)] else a ++ [z] ++ [x] := by
 unfold mstep
 simp
def Rises (l : RL) : Prop := l.Pairwise (fun x y => x.1 ≤ y.1) ∧ ∀ x ∈ l, may x
theorem mstep_spec (out : RL) (x : Int × Int) (ho : Row out) (hx : may x) (hr : ∀ z ∈ out, z.1 ≤ x.1) :
  Row (mstep out x) ∧ (∀ i, mem (mstep out x) i ↔ mem out i ∨ isIn x i) ∧ ∀ z ∈ mstep out x, z.1 ≤ x.1 := by
 rcases List.eq_nil_or_concat out with rfl | ⟨a, z, rfl⟩
 rotate_left
 rw [List.concat_eq_append] at *
 rotate_left
 ·rw [mstep_nil]
  exact ⟨⟨hx, fun y hy => (by cases hy), trivial⟩, fun i => by rw [mem_one]; simp [mem_nil], fun z hz => by obtain rfl := List.mem_singleton.1 hz; exact Int.le_refl _⟩
 ·obtain ⟨ra, rz, haz⟩ := row_append_iff.1 ho
  have hzx := hr z (by simp)
  have mz := rz.1
  rw [mstep_snoc]
  split
  ·rename_i h1
   have hfin : fin (z.1, max (fin z) (fin x) - z.1) = max (fin z) (fin x) := by
    show z.1 + (max (fin z) (fin x) - z.1) = _; omega
   have hm : may (z.1, max (fin z) (fin x) - z.1) := by
    unfold may at *; unfold fin at *; dsimp only; unfold top at *; omega
   refine ⟨row_snoc ra hm (fun y hy => haz y hy z (by simp)), fun i => ?_, fun y hy => ?_⟩
   ·rw [mem_append, mem_append, mem_one, mem_one]
    have key : isIn (z.1, max (fin z) (fin x) - z.1) i ↔ isIn z i ∨ isIn x i := by
     unfold isIn
     rw [hfin]
     dsimp only
     constructor
     ·rintro ⟨_, h3, h4⟩
      by_cases h5 : i < fin z
      ·exact .inl ⟨mz, h3, h5⟩
      ·exact .inr ⟨hx, by omega, by omega⟩
     ·rintro (⟨_, h3⟩ | ⟨_, h3⟩)
      ·exact ⟨hm, by omega⟩
      ·exact ⟨hm, by omega⟩
    rw [key, or_assoc]
   ·rcases List.mem_append.1 hy with h2 | h2
    ·exact hr y (by simp [h2])
    ·obtain rfl := List.mem_singleton.1 h2; exact hzx
  ·rename_i h1
   refine ⟨row_snoc ho hx (fun y hy => ?_), fun i => by rw [mem_append, mem_one], fun y hy => ?_⟩
   ·rcases List.mem_append.1 hy with h2 | h2
    ·have := haz y h2 z (by simp)
     unfold may at mz
     unfold fin at *
     omega
    ·obtain rfl := List.mem_singleton.1 h2; omega
   ·rcases List.mem_append.1 hy with h2 | h2
    ·exact hr y h2
    ·obtain rfl := List.mem_singleton.1 h2; exact Int.le_refl _
theorem mfold : ∀ (l out : RL), Row out → Rises l → (∀ z ∈ out, ∀ x ∈ l, z.1 ≤ x.1) → Row (l.foldl mstep out) ∧ ∀ i, mem (l.foldl mstep out) i ↔ mem out i ∨ mem l i
 | [], out, h, _, _ => ⟨h, fun i => by simp [mem_nil]⟩
 | x :: l, out, h, hl, hr => by
  obtain ⟨hp, hm⟩ := hl
  obtain ⟨h1, h2, h3⟩ := mstep_spec out x h (hm x (by simp)) (fun z hz => hr z hz x (by simp))
  rw [List.pairwise_cons] at hp
  obtain ⟨h4, h5⟩ := mfold l (mstep out x) h1 ⟨hp.2, fun y hy => hm y (by simp [hy])⟩ (fun z hz y hy => Int.le_trans (h3 z hz) (hp.1 y hy))
  exact ⟨h4, fun i => by rw [List.foldl_cons, h5, h2, mem_cons, or_assoc]⟩
theorem mergeN_spec (l : RL) (h : Rises l) : Row (mergeN l) ∧ ∀ i, mem (mergeN l) i ↔ mem l i := by
 obtain ⟨h1, h2⟩ := mfold l [] trivial h (fun z hz => (by cases hz))
 refine ⟨h1, fun i => ?_⟩
 have := h2 i
 show mem (l.foldl mstep []) i ↔ _
 rw [this]; simp [mem_nil]
theorem mergeN_eq (l s : RL) (hs : Rises s) (hm : ∀ i, mem s i ↔ mem l i) : mergeN s = normR l := by
 obtain ⟨h1, h2⟩ := mergeN_spec s hs
 obtain ⟨h3, h4⟩ := normR_spec l
 exact row_eq _ _ h1 h3 fun i => by rw [h2, hm, h4]
theorem mem_filter (l : RL) (i : Int) : mem (l.filter fun x => decide (may x)) i ↔ mem l i := by
 constructor
 ·rintro ⟨x, hx, h⟩; exact ⟨x, (List.mem_filter.1 hx).1, h⟩
 ·rintro ⟨x, hx, h⟩; exact ⟨x, List.mem_filter.2 ⟨hx, by simpa using h.1⟩, h⟩
theorem mem_perm {a b : RL} (h : a.Perm b) (i : Int) : mem a i ↔ mem b i :=
 ⟨fun ⟨x, hx, hi⟩ => ⟨x, h.mem_iff.1 hx, hi⟩, fun ⟨x, hx, hi⟩ => ⟨x, h.mem_iff.2 hx, hi⟩⟩
def gapsN (n : Int) : Int → RL → RL
 | at_, [] => if at_ < n then [(at_, n - at_)] else []
 | at_, x :: r => if n ≤ x.1 then (if at_ < n then [(at_, n - at_)] else []) else (if at_ < x.1 then [(at_, x.1 - at_)] else []) ++ gapsN n (fin x) r
theorem gap_one (a n : Int) (ha : 0 ≤ a) (hn : n ≤ top) : Row (if a < n then [(a, n - a)] else []) ∧ ∀ i, mem (if a < n then [(a, n - a)] else []) i ↔ a ≤ i ∧ i < n := by
 split
 ·have hm : may (a, n - a) := by unfold may; unfold top at *; dsimp only; omega
  refine ⟨⟨hm, fun y hy => (by cases hy), trivial⟩, fun i => ?_⟩
  rw [mem_one]
  unfold isIn fin
  dsimp only
  constructor
  ·rintro ⟨_, h1, h2⟩; omega
  ·rintro ⟨h1, h2⟩; exact ⟨hm, by omega⟩
 ·exact ⟨trivial, fun i => by simp only [mem_nil, false_iff]; omega⟩
theorem gapsN_spec (n : Int) (hn : n ≤ top) : ∀ (l : RL) (a : Int), 0 ≤ a → Row l → (∀ x ∈ l, a ≤ x.1) → Row (gapsN n a l) ∧ (∀ i, mem (gapsN n a l) i ↔ a ≤ i ∧ i < n ∧ ¬ mem l i) ∧ ∀ y ∈ gapsN n a l, a ≤ y.1
 | [], a, ha, _, _ => by
  obtain ⟨h1, h2⟩ := gap_one a n ha hn
  refine ⟨h1, fun i => ?_, fun y hy => ?_⟩
  ·show mem (if a < n then [(a, n - a)] else []) i ↔ _
   rw [h2]; simp [mem_nil]
  ·unfold gapsN at hy
   split at hy
   ·obtain rfl := List.mem_singleton.1 hy; exact Int.le_refl _
   ·cases hy
 | x :: r, a, ha, hl, hax => by
  have hx := hl.1
  have hxa := hax x (by simp)
  by_cases h1 : n ≤ x.1
  ·have e : gapsN n a (x :: r) = if a < n then [(a, n - a)] else [] := by
    show (if n ≤ x.1 then _ else _) = _
    rw [if_pos h1]
   rw [e]
   obtain ⟨h2, h3⟩ := gap_one a n ha hn
   refine ⟨h2, fun i => ?_, fun y hy => ?_⟩
   ·rw [h3]
    constructor
    ·rintro ⟨h4, h5⟩
     refine ⟨h4, h5, fun hm => ?_⟩
     have := hl.from i hm; omega
    ·rintro ⟨h4, h5, _⟩; exact ⟨h4, h5⟩
   ·split at hy
    ·obtain rfl := List.mem_singleton.1 hy; exact Int.le_refl _
    ·cases hy
  ·have e : gapsN n a (x :: r) = (if a < x.1 then [(a, x.1 - a)] else []) ++ gapsN n (fin x) r := by
    show (if n ≤ x.1 then _ else _) = _
    rw [if_neg h1]
   rw [e]
   have hxt : x.1 ≤ top := by omega
   obtain ⟨h2, h3⟩ := gap_one a x.1 ha hxt
   have hf0 : 0 ≤ fin x := by unfold may at hx; unfold fin; omega
   have hfx : x.1 < fin x := by unfold may at hx; unfold fin; omega
   obtain ⟨h4, h5, h6⟩ := gapsN_spec n hn r (fin x) hf0 hl.2.2 (fun y hy => by have := hl.2.1 y hy; omega)
   refine ⟨row_append h2 h4 (fun y hy z hz => ?_), fun i => ?_, fun y hy => ?_⟩
   ·have := h6 z hz
    split at hy
    ·obtain rfl := List.mem_singleton.1 hy
     show a + (x.1 - a) < _; omega
    ·cases hy
   ·rw [mem_append, h3, h5, mem_cons]
    constructor
    ·rintro (⟨h7, h8⟩ | ⟨h7, h8, h9⟩)
     ·refine ⟨h7, by omega, ?_⟩
      rintro (h10 | h10)
      ·have := h10.2.1; omega
      ·have := hl.behind i h10; omega
     ·refine ⟨by omega, h8, ?_⟩
      rintro (h10 | h10)
      ·have := h10.2.2; omega
      ·exact h9 h10
    ·rintro ⟨h7, h8, h9⟩
     by_cases h10 : i < x.1
     ·exact .inl ⟨h7, h10⟩
     ·refine .inr ⟨?_, h8, fun h => h9 (.inr h)⟩
      by_cases h11 : i < fin x
      ·exact absurd (.inl ⟨hx, by omega, h11⟩) h9
      ·omega
   ·rcases List.mem_append.1 hy with h7 | h7
    ·split at h7
     ·obtain rfl := List.mem_singleton.1 h7; exact Int.le_refl _
     ·cases h7
    ·have := h6 y h7; omega
def meetN : RL → RL → RL
 | [], _ => []
 | _, [] => []
 | x :: a, y :: b => (if max x.1 y.1 < min (fin x) (fin y) then [(max x.1 y.1, min (fin x) (fin y) - max x.1 y.1)] else []) ++ (if fin x < fin y then meetN a (y :: b) else meetN (x :: a) b)
termination_by a b => a.length + b.length
theorem meetN_nil_left (b : RL) : meetN [] b = [] := by unfold meetN; rfl
theorem meetN_nil_right (a : RL) : meetN a [] = [] := by cases a <;> (unfold meetN; rfl)
theorem meetN_cons (x y : Int × Int) (a b : RL) : meetN (x :: a) (y :: b) = (if max x.1 y.1 < min (fin x) (fin y) then [(max x.1 y.1, min (fin x) (fin y) - max x.1 y.1)] else []) ++ (if fin x < fin y then meetN a (y :: b) else meetN (x :: a) b) := by
 conv => lhs; unfold meetN
theorem meet_one (x y : Int × Int) (hx : may x) (hy : may y) : Row (if max x.1 y.1 < min (fin x) (fin y) then [(max x.1 y.1, min (fin x) (fin y) - max x.1 y.1)] else []) ∧
  (∀ i, mem (if max x.1 y.1 < min (fin x) (fin y) then [(max x.1 y.1, min (fin x) (fin y) - max x.1 y.1)] else []) i ↔ isIn x i ∧ isIn y i) ∧
  ∀ z ∈ (if max x.1 y.1 < min (fin x) (fin y) then [(max x.1 y.1, min (fin x) (fin y) - max x.1 y.1)] else []), z.1 = max x.1 y.1 ∧ fin z = min (fin x) (fin y) := by
 split
 ·rename_i h
  have hm : may (max x.1 y.1, min (fin x) (fin y) - max x.1 y.1) := by unfold may at *; unfold fin at *; dsimp only; unfold top at *; omega
  have hf : fin (max x.1 y.1, min (fin x) (fin y) - max x.1 y.1) = min (fin x) (fin y) := by
   show max x.1 y.1 + (min (fin x) (fin y) - max x.1 y.1) = _; omega
  refine ⟨⟨hm, fun y hy => (by cases hy), trivial⟩, fun i => ?_, fun z hz => ?_⟩
  ·rw [mem_one]
   unfold isIn
   rw [hf]
   dsimp only
   constructor
   ·rintro ⟨_, h1, h2⟩; exact ⟨⟨hx, by omega⟩, hy, by omega⟩
   ·rintro ⟨⟨_, h1⟩, _, h2⟩; exact ⟨hm, by omega⟩
  ·obtain rfl := List.mem_singleton.1 hz; exact ⟨rfl, hf⟩
 ·rename_i h
  refine ⟨trivial, fun i => ?_, fun z hz => (by cases hz)⟩
  simp only [mem_nil, false_iff]
  rintro ⟨⟨_, h1⟩, _, h2⟩
  omega
theorem meetN_spec : ∀ (k : Nat) (a b : RL), a.length + b.length ≤ k → Row a → Row b → Row (meetN a b) ∧ (∀ i, mem (meetN a b) i ↔ mem a i ∧ mem b i) ∧
  ∀ z ∈ meetN a b, ∀ m, (∀ x ∈ a, ∀ y ∈ b, m < max x.1 y.1) → m < z.1
 | k, [], b, _, _, _ => by rw [meetN_nil_left]; exact ⟨trivial, fun i => by simp [mem_nil], fun z hz => (by cases hz)⟩
 | k, x :: a, [], _, _, _ => by rw [meetN_nil_right]; exact ⟨trivial, fun i => by simp [mem_nil], fun z hz => (by cases hz)⟩
 | 0, x :: a, y :: b, h, _, _ => by simp at h
 | k + 1, x :: a, y :: b, h, ha, hb => by
  simp only [List.length_cons] at h
  rw [meetN_cons]
  obtain ⟨h1, h2, h3⟩ := meet_one x y ha.1 hb.1
  have mx := ha.1
  have my := hb.1
  unfold may at mx my
  by_cases hlt : fin x < fin y
  ·rw [if_pos hlt]
   obtain ⟨h4, h5, h6⟩ := meetN_spec k a (y :: b) (by simp only [List.length_cons]; omega) ha.2.2 hb
   refine ⟨row_append h1 h4 (fun z hz z' hz' => ?_), fun i => ?_, fun z hz m hm => ?_⟩
   ·rw [(h3 z hz).2]
    have := h6 z' hz' (fin x) (fun p hp q _ => by have := ha.2.1 p hp; omega)
    omega
   ·rw [mem_append, h2, h5, mem_cons, mem_cons]
    constructor
    ·rintro (⟨h7, h8⟩ | ⟨h7, h8⟩)
     ·exact ⟨.inl h7, .inl h8⟩
     ·exact ⟨.inr h7, h8⟩
    ·rintro ⟨h7 | h7, h8⟩
     ·rcases h8 with h8 | h8
      ·exact .inl ⟨h7, h8⟩
      ·have := hb.behind i h8
       have := h7.2.2
       omega
     ·exact .inr ⟨h7, h8⟩
   ·rcases List.mem_append.1 hz with h7 | h7
    ·rw [(h3 z h7).1]; exact hm x (by simp) y (by simp)
    ·exact h6 z h7 m (fun p hp q hq => hm p (by simp [hp]) q hq)
  ·rw [if_neg hlt]
   obtain ⟨h4, h5, h6⟩ := meetN_spec k (x :: a) b (by simp only [List.length_cons]; omega) ha hb.2.2
   refine ⟨row_append h1 h4 (fun z hz z' hz' => ?_), fun i => ?_, fun z hz m hm => ?_⟩
   ·rw [(h3 z hz).2]
    have := h6 z' hz' (fin y) (fun p _ q hq => by have := hb.2.1 q hq; omega)
    omega
   ·rw [mem_append, h2, h5, mem_cons, mem_cons]
    constructor
    ·rintro (⟨h7, h8⟩ | ⟨h7, h8⟩)
     ·exact ⟨.inl h7, .inl h8⟩
     ·exact ⟨h7, .inr h8⟩
    ·rintro ⟨h7, h8 | h8⟩
     ·rcases h7 with h7 | h7
      ·exact .inl ⟨h7, h8⟩
      ·have := ha.behind i h7
       have := h8.2.2
       omega
     ·exact .inr ⟨h7, h8⟩
   ·rcases List.mem_append.1 hz with h7 | h7
    ·rw [(h3 z h7).1]; exact hm x (by simp) y (by simp)
    ·exact h6 z h7 m (fun p hp q hq => hm p hp q (by simp [hq]))
def cutOne (y x : Int × Int) : RL :=
 (if y.1 < min (fin y) x.1 then [(y.1, min (fin y) x.1 - y.1)] else []) ++ (if max y.1 (fin x) < fin y then [(max y.1 (fin x), fin y - max y.1 (fin x))] else [])
def cutR (l : RL) (x : Int × Int) : RL := l.flatMap fun y => cutOne y x
def minusR (a b : RL) : RL := b.foldl (fun out x => if may x then cutR out x else out) (normR a)
def meetR (a b : RL) : RL := minusR a (minusR a b)
def restR (l : RL) (n : Int) : RL := if n < 1 then [] else minusR [(0, n)] l
theorem cutOne_spec (y x : Int × Int) (hy : may y) (hx : may x) : Row (cutOne y x) ∧ (∀ i, mem (cutOne y x) i ↔ isIn y i ∧ ¬ isIn x i) ∧ ∀ z ∈ cutOne y x, y.1 ≤ z.1 ∧ fin z ≤ fin y := by
 have hy' := hy
 have hx' := hx
 unfold may at hy' hx'
 unfold top at hy' hx'
 obtain ⟨h1, h2⟩ := gap_one y.1 (min (fin y) x.1) hy'.1 (by unfold fin top; omega)
 obtain ⟨h3, h4⟩ := gap_one (max y.1 (fin x)) (fin y) (by omega) (by unfold fin top; omega)
 unfold cutOne
 refine ⟨row_append h1 h3 (fun p hp q hq => ?_), fun i => ?_, fun z hz => ?_⟩
 ·split at hp
  ·split at hq
   ·obtain rfl := List.mem_singleton.1 hp
    obtain rfl := List.mem_singleton.1 hq
    show y.1 + (min (fin y) x.1 - y.1) < max y.1 (fin x)
    unfold fin at *; omega
   ·cases hq
  ·cases hp
 ·rw [mem_append, h2, h4]
  unfold isIn fin
  constructor
  ·rintro (⟨h5, h6⟩ | ⟨h5, h6⟩)
   ·exact ⟨⟨hy, h5, by omega⟩, fun ⟨_, h⟩ => by omega⟩
   ·exact ⟨⟨hy, by omega, h6⟩, fun ⟨_, h⟩ => by omega⟩
  ·rintro ⟨⟨_, h5, h6⟩, h7⟩
   by_cases h8 : i < x.1
   ·exact .inl ⟨h5, by omega⟩
   ·refine .inr ⟨?_, h6⟩
    by_cases h9 : i < x.1 + x.2
    ·exact absurd ⟨hx, by omega, h9⟩ h7
    ·omega
 ·rcases List.mem_append.1 hz with h5 | h5
  ·split at h5
   ·obtain rfl := List.mem_singleton.1 h5
    refine ⟨Int.le_refl _, ?_⟩
    show y.1 + (min (fin y) x.1 - y.1) ≤ _; omega
   ·cases h5
  ·split at h5
   ·obtain rfl := List.mem_singleton.1 h5
    refine ⟨by dsimp only; omega, ?_⟩
    show max y.1 (fin x) + (fin y - max y.1 (fin x)) ≤ _; omega
   ·cases h5
theorem cutR_spec : ∀ (l : RL) (x : Int × Int), Row l → may x → Row (cutR l x) ∧ (∀ i, mem (cutR l x) i ↔ mem l i ∧ ¬ isIn x i) ∧ ∀ z ∈ cutR l x, ∃ y ∈ l, y.1 ≤ z.1 ∧ fin z ≤ fin y
 | [], x, _, _ => ⟨trivial, fun i => by simp [cutR, mem_nil], fun z hz => (by cases hz)⟩
 | y :: l, x, hl, hx => by
  obtain ⟨h1, h2, h3⟩ := cutOne_spec y x hl.1 hx
  obtain ⟨h4, h5, h6⟩ := cutR_spec l x hl.2.2 hx
  have e : cutR (y :: l) x = cutOne y x ++ cutR l x := by simp [cutR]
  rw [e]
  refine ⟨row_append h1 h4 (fun p hp q hq => ?_), fun i => ?_, fun z hz => ?_⟩
  ·have := (h3 p hp).2
   obtain ⟨y', hy', h7, _⟩ := h6 q hq
   have := hl.2.1 y' hy'
   omega
  ·rw [mem_append, h2, h5, mem_cons]
   constructor
   ·rintro (⟨h7, h8⟩ | ⟨h7, h8⟩)
    ·exact ⟨.inl h7, h8⟩
    ·exact ⟨.inr h7, h8⟩
   ·rintro ⟨h7 | h7, h8⟩
    ·exact .inl ⟨h7, h8⟩
    ·exact .inr ⟨h7, h8⟩
  ·rcases List.mem_append.1 hz with h7 | h7
   ·exact ⟨y, by simp, h3 z h7⟩
   ·obtain ⟨y', hy', h8⟩ := h6 z h7
    exact ⟨y', by simp [hy'], h8⟩
theorem minus_fold : ∀ (b out : RL), Row out → Row (b.foldl (fun out x => if may x then cutR out x else out) out) ∧ ∀ i, mem (b.foldl (fun out x => if may x then cutR out x else out) out) i ↔ mem out i ∧ ¬ mem b i
 | [], out, h => ⟨h, fun i => by simp [mem_nil]⟩
 | x :: b, out, h => by
  rw [List.foldl_cons]
  by_cases hx : may x
  ·rw [if_pos hx]
   obtain ⟨h1, h2, _⟩ := cutR_spec out x h hx
   obtain ⟨h3, h4⟩ := minus_fold b _ h1
   refine ⟨h3, fun i => ?_⟩
   rw [h4, h2, mem_cons, not_or, and_assoc]
  ·rw [if_neg hx]
   obtain ⟨h3, h4⟩ := minus_fold b _ h
   refine ⟨h3, fun i => ?_⟩
   have : ¬ isIn x i := fun h => hx h.1
   rw [h4, mem_cons, not_or]
   simp [this]
theorem minusR_spec (a b : RL) : Row (minusR a b) ∧ ∀ i, mem (minusR a b) i ↔ mem a i ∧ ¬ mem b i := by
 obtain ⟨h1, h2⟩ := minus_fold b (normR a) (normR_spec a).1
 exact ⟨h1, fun i => (h2 i).trans (by rw [(normR_spec a).2])⟩
theorem meetR_spec (a b : RL) : Row (meetR a b) ∧ ∀ i, mem (meetR a b) i ↔ mem a i ∧ mem b i := by
 obtain ⟨h1, h2⟩ := minusR_spec a (minusR a b)
 refine ⟨h1, fun i => (h2 i).trans ?_⟩
 rw [(minusR_spec a b).2]
 constructor
 ·rintro ⟨h3, h4⟩
  refine ⟨h3, Classical.byContradiction fun h5 => h4 ⟨h3, h5⟩⟩
 ·rintro ⟨h3, h4⟩
  exact ⟨h3, fun h5 => h5.2 h4⟩
theorem isIn_top {x : Int × Int} {i : Int} (h : isIn x i) : 0 ≤ i ∧ i < top := by
 obtain ⟨h1, h2, h3⟩ := h
 unfold may at h1
 unfold fin at h3
 omega
theorem mem_top {l : RL} {i : Int} (h : mem l i) : 0 ≤ i ∧ i < top := by
 obtain ⟨x, _, h⟩ := h; exact isIn_top h
theorem restR_spec (l : RL) (n : Int) (hn : n ≤ top) : Row (restR l n) ∧ ∀ i, mem (restR l n) i ↔ 0 ≤ i ∧ i < n ∧ ¬ mem l i := by
 unfold restR
 split
 ·exact ⟨trivial, fun i => by simp only [mem_nil, false_iff]; omega⟩
 ·have hm : may (0, n) := by unfold may; dsimp only; omega
  obtain ⟨h1, h2⟩ := minusR_spec [(0, n)] l
  refine ⟨h1, fun i => ?_⟩
  rw [h2, mem_one]
  unfold isIn fin
  dsimp only
  constructor
  ·rintro ⟨⟨_, h3, h4⟩, h5⟩; exact ⟨h3, by omega, h5⟩
  ·rintro ⟨h3, h4, h5⟩; exact ⟨⟨hm, h3, by omega⟩, h5⟩
theorem gaps_rest (l : RL) (n : Int) (hn : n ≤ top) : gapsN n 0 (normR l) = restR l n := by
 obtain ⟨h1, h2⟩ := normR_spec l
 obtain ⟨h3, h4, _⟩ := gapsN_spec n hn (normR l) 0 (Int.le_refl _) h1 (fun x hx => by have := h1.may x hx; unfold may at this; omega)
 obtain ⟨h5, h6⟩ := restR_spec l n hn
 exact row_eq _ _ h3 h5 fun i => by rw [h4, h6, h2]
theorem meet_eq (a b : RL) : meetN (normR a) (normR b) = meetR a b := by
 obtain ⟨h1, h2, _⟩ := meetN_spec _ (normR a) (normR b) (Nat.le_refl _) (normR_spec a).1 (normR_spec b).1
 obtain ⟨h3, h4⟩ := meetR_spec a b
 exact row_eq _ _ h1 h3 fun i => by rw [h2, h4, (normR_spec a).2, (normR_spec b).2]
theorem minus_eq (a b : RL) : meetN (normR a) (normR (gapsN top 0 (normR b))) = minusR a b := by
 rw [gaps_rest b top (Int.le_refl _), meet_eq]
 obtain ⟨h1, h2⟩ := meetR_spec a (restR b top)
 obtain ⟨h3, h4⟩ := minusR_spec a b
 obtain ⟨h5, h6⟩ := restR_spec b top (Int.le_refl _)
 refine row_eq _ _ h1 h3 fun i => ?_
 rw [h2, h4, h6]
 constructor
 ·rintro ⟨h7, _, _, h8⟩; exact ⟨h7, h8⟩
 ·rintro ⟨h7, h8⟩; exact ⟨h7, (mem_top h7).1, (mem_top h7).2, h8⟩
end Go.Proofs.YtgjmeeiejcbjfaaGreat.Runs
namespace Go.Proofs.YtgjmeeiejcbjfaaGreat.Exts
abbrev E := Int × Int × Int
abbrev EL := List E
def fin (x : E) : Int := x.1 + x.2.2
def may (x : E) : Prop := 1 ≤ x.2.2 ∧ x.2.2 ≤ 4096 ∧ 0 ≤ x.1 ∧ x.1 ≤ 2048 - x.2.2 ∧ 1 ≤ x.2.1 ∧ x.2.1 ≤ 4096 - x.2.2
instance (x : E) : Decidable (may x) := by unfold may; infer_instance
def Row : EL → Prop
 | [] => True
 | x :: r => may x ∧ (∀ y ∈ r, fin x ≤ y.1) ∧ Row r
theorem Row.may : ∀ {l : EL}, Row l → ∀ x ∈ l, may x
 | [], _, x, h => by cases h
 | y :: r, h, x, hx => by
  rcases List.mem_cons.1 hx with rfl | hx
  ·exact h.1
  ·exact Row.may h.2.2 x hx
theorem row_append {a b : EL} (ha : Row a) (hb : Row b) (h : ∀ x ∈ a, ∀ y ∈ b, fin x ≤ y.1) : Row (a ++ b) := by
 induction a with
 | nil => exact hb
 | cons x a ih =>
  refine ⟨ha.1, fun y hy => ?_, ih ha.2.2 (fun z hz y hy => h z (by simp [hz]) y hy)⟩
  rcases List.mem_append.1 hy with h1 | h1
  ·exact ha.2.1 y h1
  ·exact h x (by simp) y h1
theorem row_append_iff {a b : EL} : Row (a ++ b) ↔ Row a ∧ Row b ∧ ∀ x ∈ a, ∀ y ∈ b, fin x ≤ y.1 := by
 constructor
 ·intro h
  induction a with
  | nil => exact ⟨trivial, h, fun x hx => by cases hx⟩
  | cons x a ih =>
   obtain ⟨h1, h2, h3⟩ := ih h.2.2
   refine ⟨⟨h.1, fun y hy => h.2.1 y (by simp [hy]), h1⟩, h2, fun z hz y hy => ?_⟩
   rcases List.mem_cons.1 hz with rfl | hz
   ·exact h.2.1 y (by simp [hy])
   ·exact h3 z hz y hy
 ·rintro ⟨h1, h2, h3⟩; exact row_append h1 h2 h3
def okTo (l : EL) : Nat → Bool
 | 0 => true
 | i + 1 => okTo l i && decide (may (l.getD i (0, 0, 0))) && (i == 0 || decide (fin (l.getD (i - 1) (0, 0, 0)) ≤ (l.getD i (0, 0, 0)).1))
theorem okTo_row (l : EL) : ∀ n, n ≤ l.length → okTo l n = true → Row (l.take n)
 | 0, _, _ => by rw [List.take_zero]; trivial
 | n + 1, hn, h => by
  unfold okTo at h
  simp only [Bool.and_eq_true, decide_eq_true_eq, Bool.or_eq_true, beq_iff_eq] at h
  have h1 := okTo_row l n (by omega) h.1.1
  rw [List.take_succ_eq_append_getElem (by omega : n < l.length)]
  have e : l.getD n (0, 0, 0) = l[n] := by simp [List.getD, show n < l.length by omega]
  rw [e] at h
  refine row_append h1 ⟨h.1.2, fun y hy => (by cases hy), trivial⟩ (fun y hy z hz => ?_)
  obtain rfl := List.mem_singleton.1 hz
  rcases h.2 with h2 | h2
  ·subst h2; simp at hy
  ·obtain ⟨m, rfl⟩ : ∃ m, n = m + 1 := by
    cases n with
    | zero => simp at hy
    | succ m => exact ⟨m, rfl⟩
   rw [Nat.add_sub_cancel] at h2
   have e2 : l.getD m (0, 0, 0) = l[m] := by simp [List.getD, show m < l.length by omega]
   rw [e2] at h2
   rw [List.take_succ_eq_append_getElem (by omega : m < l.length)] at h1 hy
   obtain ⟨_, rz, hz⟩ := row_append_iff.1 h1
   rcases List.mem_append.1 hy with h3 | h3
   ·have h4 := hz y h3 l[m] (by simp)
    have h5 := rz.1
    unfold may at h5
    unfold fin at *
    omega
   ·obtain rfl := List.mem_singleton.1 h3
    exact h2
theorem row_okTo (l : EL) (h : Row l) : ∀ n, n ≤ l.length → okTo l n = true
 | 0, _ => rfl
 | n + 1, hn => by
  unfold okTo
  rw [row_okTo l h n (by omega), Bool.true_and]
  have e : l.getD n (0, 0, 0) = l[n] := by simp [List.getD, show n < l.length by omega]
  rw [e, decide_eq_true (h.may _ (List.getElem_mem _)), Bool.true_and]
  cases n with
  | zero => rfl
  | succ m =>
   rw [Nat.add_sub_cancel]
   have e2 : l.getD m (0, 0, 0) = l[m] := by simp [List.getD, show m < l.length by omega]
   rw [e2]
   have h1 : Row (l.take (m + 1) ++ l.drop (m + 1)) := by rwa [List.take_append_drop]
   have h2 := (row_append_iff.1 h1).2.2 l[m] (by rw [List.take_succ_eq_append_getElem (show m < l.length by omega)]; exact List.mem_append_right _ (List.mem_singleton.2 rfl)) l[m + 1] (by rw [List.drop_eq_getElem_cons (show m + 1 < l.length by omega)]; exact List.mem_cons_self)
   simp [h2]
theorem check_row {l : EL} : okTo l l.length = true ↔ Row l :=
 ⟨fun h => by have := okTo_row l l.length (Nat.le_refl _) h; rwa [List.take_length] at this, fun h => row_okTo l h _ (Nat.le_refl _)⟩
def part (x : E) (a b : Int) : EL := if max a x.1 < min b (fin x) then [(max a x.1, x.2.1 + max a x.1 - x.1, min b (fin x) - max a x.1)] else []
def parts (l : EL) (a b : Int) : EL := l.flatMap fun x => part x a b
def changeR (l : EL) (a b : Int) (m : EL) : EL := parts l 0 a ++ m ++ parts l b 2048
theorem part_mem {x : E} {a b : Int} (hx : may x) (h0 : 0 ≤ a) : ∀ y ∈ part x a b, may y ∧ a ≤ y.1 ∧ x.1 ≤ y.1 ∧ fin y ≤ b ∧ fin y ≤ fin x := by
 intro y hy
 unfold part at hy
 split at hy
 ·obtain rfl := List.mem_singleton.1 hy
  unfold may at *
  unfold fin at *
  dsimp only
  omega
 ·cases hy
theorem parts_row {l : EL} (hl : Row l) (a b : Int) (h0 : 0 ≤ a) : Row (parts l a b) ∧ ∀ y ∈ parts l a b, a ≤ y.1 ∧ fin y ≤ b ∧ ∃ x ∈ l, x.1 ≤ y.1 ∧ fin y ≤ fin x := by
 induction l with
 | nil => exact ⟨trivial, fun y hy => by cases hy⟩
 | cons x l ih =>
  obtain ⟨h1, h2⟩ := ih hl.2.2
  have hp := part_mem (b := b) hl.1 h0
  have e : parts (x :: l) a b = part x a b ++ parts l a b := by simp [parts]
  rw [e]
  have hpr : Row (part x a b) := by
   unfold part at hp ⊢
   split
   ·rename_i h
    rw [if_pos h] at hp
    exact ⟨(hp _ (List.mem_singleton.2 rfl)).1, fun y hy => (by cases hy), trivial⟩
   ·trivial
  refine ⟨row_append hpr h1 (fun p hq q hr => ?_), fun y hy => ?_⟩
  ·obtain ⟨_, _, x', hx', h3, _⟩ := h2 q hr
   have h4 := (hp p hq).2.2.2.2
   have h5 := hl.2.1 x' hx'
   omega
  ·rcases List.mem_append.1 hy with h3 | h3
   ·have h4 := hp y h3
    exact ⟨h4.2.1, h4.2.2.2.1, x, by simp, h4.2.2.1, h4.2.2.2.2⟩
   ·obtain ⟨h4, h5, x', hx', h6⟩ := h2 y h3
    exact ⟨h4, h5, x', by simp [hx'], h6⟩
theorem change_row {l m : EL} (hl : Row l) (hm : Row m) (a b : Int) (h0 : 0 ≤ a) (hab : a ≤ b) (hma : ∀ y ∈ m, a ≤ y.1 ∧ fin y ≤ b) : Row (changeR l a b m) := by
 obtain ⟨h1, h2⟩ := parts_row hl 0 a (Int.le_refl _)
 obtain ⟨h3, h4⟩ := parts_row hl b 2048 (by omega)
 unfold changeR
 refine row_append (row_append h1 hm (fun p hp q hq => ?_)) h3 (fun p hp q hq => ?_)
 ·have := (h2 p hp).2.1
  have := (hma q hq).1
  omega
 ·have h5 := (h4 q hq).1
  rcases List.mem_append.1 hp with h6 | h6
  ·have := (h2 p h6).2.1; omega
  ·have := (hma p h6).2; omega
def at_ (l : EL) (n : Int) : Option (Int × Int) :=
 match l with
 | [] => none
 | x :: r => if x.1 ≤ n ∧ n < fin x then some (x.2.1 + n - x.1, fin x - n) else at_ r n
def blocksR (l : EL) : List (Int × Int) := if okTo l l.length then Runs.normR (l.map fun x => (x.2.1, x.2.2)) else []
def blk (l : EL) (n : Int) : Option Int := (at_ l n).map (·.1)
theorem blk_nil (n : Int) : blk [] n = none := rfl
theorem blk_cons (x : E) (r : EL) (n : Int) : blk (x :: r) n = if x.1 ≤ n ∧ n < fin x then some (x.2.1 + n - x.1) else blk r n := by
 unfold blk
 rw [at_]
 split <;> rfl
theorem blk_append (a b : EL) (n : Int) : blk (a ++ b) n = (blk a n).or (blk b n) := by
 induction a with
 | nil => simp [blk_nil]
 | cons x a ih =>
  rw [List.cons_append, blk_cons, blk_cons, ih]
  split <;> simp
theorem blk_part (x : E) (a b n : Int) : blk (part x a b) n = if a ≤ n ∧ n < b then blk [x] n else none := by
 unfold part
 rw [blk_cons, blk_nil]
 split
 ·rename_i h
  rw [blk_cons, blk_nil]
  unfold fin at *
  dsimp only
  by_cases h1 : a ≤ n ∧ n < b
  ·rw [if_pos h1]
   by_cases h2 : x.1 ≤ n ∧ n < x.1 + x.2.2
   ·rw [if_pos h2, if_pos (by omega)]
    congr 1
    omega
   ·rw [if_neg h2, if_neg (by omega)]
  ·rw [if_neg h1, if_neg (by omega)]
 ·rename_i h
  rw [blk_nil]
  unfold fin at *
  by_cases h1 : a ≤ n ∧ n < b
  ·rw [if_pos h1, if_neg (by omega)]
  ·rw [if_neg h1]
theorem parts_cons (x : E) (l : EL) (a b : Int) : parts (x :: l) a b = part x a b ++ parts l a b := by simp [parts]
theorem parts_append (l m : EL) (a b : Int) : parts (l ++ m) a b = parts l a b ++ parts m a b := by simp [parts]
theorem blk_parts (l : EL) (a b n : Int) : blk (parts l a b) n = if a ≤ n ∧ n < b then blk l n else none := by
 induction l with
 | nil => show none = _; rw [blk_nil]; simp
 | cons x l ih =>
  rw [parts_cons, blk_append, blk_part, ih]
  split
  ·rw [show x :: l = [x] ++ l from rfl, blk_append]
  ·rfl
theorem blk_low {l : EL} (hl : Row l) (n : Int) (h : n < 0 ∨ 2048 ≤ n) : blk l n = none := by
 induction l with
 | nil => rfl
 | cons x l ih =>
  have h1 := hl.1
  unfold may at h1
  rw [blk_cons, ih hl.2.2, if_neg (by unfold fin; omega)]
theorem blk_change {l : EL} (hl : Row l) (m : EL) (a b n : Int) (hab : a ≤ b) (hm : ∀ y ∈ m, a ≤ y.1 ∧ fin y ≤ b) :
  blk (changeR l a b m) n = if a ≤ n ∧ n < b then blk m n else blk l n := by
 have hm' : ¬ (a ≤ n ∧ n < b) → blk m n = none := by
  intro h
  clear hl
  induction m with
  | nil => rfl
  | cons x m ih =>
   have h1 := hm x (by simp)
   rw [blk_cons, ih (fun y hy => hm y (by simp [hy])), if_neg (by omega)]
 unfold changeR
 rw [blk_append, blk_append, blk_parts, blk_parts]
 by_cases h : a ≤ n ∧ n < b
 ·rw [if_pos h, if_neg (show ¬ (0 ≤ n ∧ n < a) by omega), if_neg (show ¬ (b ≤ n ∧ n < 2048) by omega)]
  simp
 ·rw [if_neg h, hm' h]
  by_cases h1 : 0 ≤ n ∧ n < a
  ·rw [if_pos h1, if_neg (by omega)]; simp
  ·rw [if_neg h1]
   by_cases h2 : b ≤ n ∧ n < 2048
   ·rw [if_pos h2]; simp
   ·rw [if_neg h2]
    rw [blk_low hl n (by omega)]
    simp
theorem gone_row {l : EL} (hl : Row l) (a b : Int) (h0 : 0 ≤ a) (hab : a ≤ b) : Row (changeR l a b []) := change_row hl (m := []) trivial a b h0 hab (fun y hy => by cases hy)
def run (x : E) : Int × Int := (x.2.1, x.2.2)
theorem blocks_ok {l : EL} (hl : Row l) : blocksR l = Runs.normR (l.map run) := by
 unfold blocksR
 rw [check_row.2 hl, if_pos rfl]
 rfl
theorem blocks_bad {l : EL} (hl : okTo l l.length = false) : blocksR l = [] := by
 unfold blocksR
 rw [hl, if_neg (by decide)]
theorem blocks_row (l : EL) : Runs.Row (blocksR l) := by
 unfold blocksR
 split
 ·exact (Runs.normR_spec _).1
 ·trivial
def has (l : EL) (i : Int) : Prop := ∃ x ∈ l, x.2.1 ≤ i ∧ i < x.2.1 + x.2.2
theorem blocks_mem {l : EL} (hl : Row l) (i : Int) : Runs.mem (blocksR l) i ↔ has l i := by
 rw [blocks_ok hl, (Runs.normR_spec _).2]
 constructor
 ·rintro ⟨r, hr, h⟩
  obtain ⟨x, hx, rfl⟩ := List.mem_map.1 hr
  exact ⟨x, hx, h.2⟩
 ·rintro ⟨x, hx, h⟩
  have hm := hl.may x hx
  refine ⟨run x, List.mem_map.2 ⟨x, hx, rfl⟩, ?_, h⟩
  unfold may at hm
  unfold run Runs.may Runs.top
  dsimp only
  omega
theorem has_append (a b : EL) (i : Int) : has (a ++ b) i ↔ has a i ∨ has b i := by
 unfold has
 simp only [List.mem_append]
 constructor
 ·rintro ⟨x, h | h, k⟩
  ·exact .inl ⟨x, h, k⟩
  ·exact .inr ⟨x, h, k⟩
 ·rintro (⟨x, h, k⟩ | ⟨x, h, k⟩)
  ·exact ⟨x, .inl h, k⟩
  ·exact ⟨x, .inr h, k⟩
theorem has_parts {l : EL} {a b i : Int} (h : has (parts l a b) i) : has l i := by
 obtain ⟨y, hy, h1, h2⟩ := h
 obtain ⟨x, hx, hp⟩ := List.mem_flatMap.1 hy
 unfold part at hp
 split at hp
 ·obtain rfl := List.mem_singleton.1 hp
  unfold fin at *
  dsimp only at *
  exact ⟨x, hx, by omega, by omega⟩
 ·cases hp
theorem has_change {l m : EL} {a b i : Int} (h : has (changeR l a b m) i) : has l i ∨ has m i := by
 unfold changeR at h
 rcases (has_append _ _ _).1 h with h | h
 ·rcases (has_append _ _ _).1 h with h | h
  ·exact .inl (has_parts h)
  ·exact .inr h
 ·exact .inl (has_parts h)
def endR (l : EL) : Int := if okTo l l.length then fin (l.getLastD (0, 0, 0)) else 0
theorem endR_bad (l : EL) (h : okTo l l.length = false) : endR l = 0 := by unfold endR; rw [h]; rfl
theorem endR_last (l : EL) (x : E) (h : okTo (l ++ [x]) (l ++ [x]).length = true) : endR (l ++ [x]) = fin x := by unfold endR; rw [h]; simp
theorem endR_top {l : EL} (hl : Row l) : (∀ y ∈ l, fin y ≤ endR l) ∧ (l = [] ∧ endR l = 0 ∨ ∃ y ∈ l, fin y = endR l) := by
 rcases List.eq_nil_or_concat l with rfl | ⟨L, x, rfl⟩
 ·exact ⟨fun y hy => (by cases hy), .inl ⟨rfl, rfl⟩⟩
 ·rw [List.concat_eq_append] at *
  rw [endR_last L x (check_row.2 hl)]
  obtain ⟨_, h2, h3⟩ := row_append_iff.1 hl
  refine ⟨fun y hy => ?_, .inr ⟨x, by simp, rfl⟩⟩
  rcases List.mem_append.1 hy with h | h
  ·have := h3 y h x (by simp)
   have := h2.1
   unfold may at this
   unfold fin at *
   omega
  ·obtain rfl := List.mem_singleton.1 h
   exact Int.le_refl _
theorem part_ahead {y : E} (h : may y) {b : Int} (hb : fin y ≤ b) : part y 0 b = [y] := by
 unfold may at h
 unfold part
 have e1 : max 0 y.1 = y.1 := by omega
 have e2 : min b (fin y) = fin y := by omega
 rw [e1, e2, if_pos (by unfold fin; omega)]
 obtain ⟨a, b, c⟩ := y
 unfold fin
 simp only [List.cons.injEq, and_true, Prod.mk.injEq, true_and]
 omega
theorem part_behind {y : E} (h : may y) {a : Int} (ha : a ≤ y.1) : part y a 2048 = [y] := by
 unfold may at h
 unfold part
 have e1 : max a y.1 = y.1 := by omega
 have e2 : min 2048 (fin y) = fin y := by unfold fin; omega
 rw [e1, e2, if_pos (by unfold fin; omega)]
 obtain ⟨a, b, c⟩ := y
 unfold fin
 simp only [List.cons.injEq, and_true, Prod.mk.injEq, true_and]
 omega
theorem part_off {y : E} {a b : Int} (h : fin y ≤ a ∨ b ≤ y.1) : part y a b = [] := by
 unfold part
 rw [if_neg (by unfold fin at *; omega)]
theorem parts_behind {l : EL} (hl : ∀ y ∈ l, may y) {a : Int} (h : ∀ y ∈ l, a ≤ y.1) : parts l a 2048 = l := by
 induction l with
 | nil => rfl
 | cons x l ih => rw [parts_cons, part_behind (hl x (by simp)) (h x (by simp)), ih (fun y hy => hl y (by simp [hy])) (fun y hy => h y (by simp [hy]))]; rfl
theorem parts_off {l : EL} {a b : Int} (h : ∀ y ∈ l, fin y ≤ a ∨ b ≤ y.1) : parts l a b = [] := by
 induction l with
 | nil => rfl
 | cons x l ih => rw [parts_cons, part_off (h x (by simp)), ih (fun y hy => h y (by simp [hy]))]; rfl
end Go.Proofs.YtgjmeeiejcbjfaaGreat.Exts
