/- Rows of runs: merging, gaps, meeting, cutting. No program. -/
import Derived.Test.YtgpjldmndibalaaRunsMath
namespace Go.Proofs.Ytgpjldmndibalaa.Runs

theorem row_snoc {a : RL} {x : Int × Int} (ha : Row a) (hx : may x) (h : ∀ y ∈ a, fin y < x.1) : Row (a ++ [x]) :=
  row_append ha ⟨hx, fun y hy => (by cases hy), trivial⟩ (fun y hy z hz => by obtain rfl := List.mem_singleton.1 hz; exact h y hy)
theorem mem_one (x : Int × Int) (i : Int) : mem [x] i ↔ isIn x i := by rw [mem_cons]; simp [mem_nil]

/-! ### The program's merging of a list that rises -/
def mstep (out : RL) (x : Int × Int) : RL :=
  match out.getLast? with
  | none => [x]
  | some z => if x.1 ≤ fin z then out.dropLast ++ [(z.1, max (fin z) (fin x) - z.1)] else out ++ [x]
def mergeN (l : RL) : RL := l.foldl mstep []
theorem mstep_nil (x : Int × Int) : mstep [] x = [x] := rfl
theorem mstep_snoc (a : RL) (z x : Int × Int) : mstep (a ++ [z]) x = if x.1 ≤ fin z then a ++ [(z.1, max (fin z) (fin x) - z.1)] else a ++ [z] ++ [x] := by
  unfold mstep
  simp
/-- It rises by its runs' beginnings, and all may be. -/
def Rises (l : RL) : Prop := l.Pairwise (fun x y => x.1 ≤ y.1) ∧ ∀ x ∈ l, may x

theorem mstep_spec (out : RL) (x : Int × Int) (ho : Row out) (hx : may x) (hr : ∀ z ∈ out, z.1 ≤ x.1) :
    Row (mstep out x) ∧ (∀ i, mem (mstep out x) i ↔ mem out i ∨ isIn x i) ∧ ∀ z ∈ mstep out x, z.1 ≤ x.1 := by
  rcases List.eq_nil_or_concat out with rfl | ⟨a, z, rfl⟩
  rotate_left
  rw [List.concat_eq_append] at *
  rotate_left
  · rw [mstep_nil]
    exact ⟨⟨hx, fun y hy => (by cases hy), trivial⟩, fun i => by rw [mem_one]; simp [mem_nil], fun z hz => by obtain rfl := List.mem_singleton.1 hz; exact Int.le_refl _⟩
  · obtain ⟨ra, rz, haz⟩ := row_append_iff.1 ho
    have hzx := hr z (by simp)
    have mz := rz.1
    rw [mstep_snoc]
    split
    · rename_i h1
      have hfin : fin (z.1, max (fin z) (fin x) - z.1) = max (fin z) (fin x) := by
        show z.1 + (max (fin z) (fin x) - z.1) = _; omega
      have hm : may (z.1, max (fin z) (fin x) - z.1) := by
        unfold may at *; unfold fin at *; dsimp only; unfold top at *; omega
      refine ⟨row_snoc ra hm (fun y hy => haz y hy z (by simp)), fun i => ?_, fun y hy => ?_⟩
      · rw [mem_append, mem_append, mem_one, mem_one]
        have key : isIn (z.1, max (fin z) (fin x) - z.1) i ↔ isIn z i ∨ isIn x i := by
          unfold isIn
          rw [hfin]
          dsimp only
          constructor
          · rintro ⟨_, h3, h4⟩
            by_cases h5 : i < fin z
            · exact .inl ⟨mz, h3, h5⟩
            · exact .inr ⟨hx, by omega, by omega⟩
          · rintro (⟨_, h3⟩ | ⟨_, h3⟩)
            · exact ⟨hm, by omega⟩
            · exact ⟨hm, by omega⟩
        rw [key, or_assoc]
      · rcases List.mem_append.1 hy with h2 | h2
        · exact hr y (by simp [h2])
        · obtain rfl := List.mem_singleton.1 h2; exact hzx
    · rename_i h1
      refine ⟨row_snoc ho hx (fun y hy => ?_), fun i => by rw [mem_append, mem_one], fun y hy => ?_⟩
      · rcases List.mem_append.1 hy with h2 | h2
        · have := haz y h2 z (by simp)
          unfold may at mz
          unfold fin at *
          omega
        · obtain rfl := List.mem_singleton.1 h2; omega
      · rcases List.mem_append.1 hy with h2 | h2
        · exact hr y h2
        · obtain rfl := List.mem_singleton.1 h2; exact Int.le_refl _
theorem mfold : ∀ (l out : RL), Row out → Rises l → (∀ z ∈ out, ∀ x ∈ l, z.1 ≤ x.1) → Row (l.foldl mstep out) ∧ ∀ i, mem (l.foldl mstep out) i ↔ mem out i ∨ mem l i
  | [], out, h, _, _ => ⟨h, fun i => by simp [mem_nil]⟩
  | x :: l, out, h, hl, hr => by
    obtain ⟨hp, hm⟩ := hl
    obtain ⟨h1, h2, h3⟩ := mstep_spec out x h (hm x (by simp)) (fun z hz => hr z hz x (by simp))
    rw [List.pairwise_cons] at hp
    obtain ⟨h4, h5⟩ := mfold l (mstep out x) h1 ⟨hp.2, fun y hy => hm y (by simp [hy])⟩ (fun z hz y hy => Int.le_trans (h3 z hz) (hp.1 y hy))
    exact ⟨h4, fun i => by rw [List.foldl_cons, h5, h2, mem_cons, or_assoc]⟩
theorem mergeN_spec (l : RL) (h : Rises l) : Row (mergeN l) ∧ ∀ i, mem (mergeN l) i ↔ mem l i := by
  obtain ⟨h1, h2⟩ := mfold l [] trivial h (fun z hz => (by cases hz))
  refine ⟨h1, fun i => ?_⟩
  have := h2 i
  show mem (l.foldl mstep []) i ↔ _
  rw [this]; simp [mem_nil]
/-- However a list's runs that may be are sorted: what is merged is the document's row. -/
theorem mergeN_eq (l s : RL) (hs : Rises s) (hm : ∀ i, mem s i ↔ mem l i) : mergeN s = normR l := by
  obtain ⟨h1, h2⟩ := mergeN_spec s hs
  obtain ⟨h3, h4⟩ := normR_spec l
  exact row_eq _ _ h1 h3 fun i => by rw [h2, hm, h4]
theorem mem_filter (l : RL) (i : Int) : mem (l.filter fun x => decide (may x)) i ↔ mem l i := by
  constructor
  · rintro ⟨x, hx, h⟩; exact ⟨x, (List.mem_filter.1 hx).1, h⟩
  · rintro ⟨x, hx, h⟩; exact ⟨x, List.mem_filter.2 ⟨hx, by simpa using h.1⟩, h⟩
theorem mem_perm {a b : RL} (h : a.Perm b) (i : Int) : mem a i ↔ mem b i :=
  ⟨fun ⟨x, hx, hi⟩ => ⟨x, h.mem_iff.1 hx, hi⟩, fun ⟨x, hx, hi⟩ => ⟨x, h.mem_iff.2 hx, hi⟩⟩
theorem normR_row (l : RL) (h : Row l) : normR l = l := row_eq _ _ (normR_spec l).1 h (normR_spec l).2
theorem normR_same {a b : RL} (h : ∀ i, mem a i ↔ mem b i) : normR a = normR b :=
  row_eq _ _ (normR_spec a).1 (normR_spec b).1 fun i => by rw [(normR_spec a).2, (normR_spec b).2, h]

/-! ### What a row has not -/
def gapsN (n : Int) : Int → RL → RL
  | at_, [] => if at_ < n then [(at_, n - at_)] else []
  | at_, x :: r => if n ≤ x.1 then (if at_ < n then [(at_, n - at_)] else []) else (if at_ < x.1 then [(at_, x.1 - at_)] else []) ++ gapsN n (fin x) r
theorem gap_one (a n : Int) (ha : 0 ≤ a) (hn : n ≤ top) : Row (if a < n then [(a, n - a)] else []) ∧ ∀ i, mem (if a < n then [(a, n - a)] else []) i ↔ a ≤ i ∧ i < n := by
  split
  · have hm : may (a, n - a) := by unfold may; unfold top at *; dsimp only; omega
    refine ⟨⟨hm, fun y hy => (by cases hy), trivial⟩, fun i => ?_⟩
    rw [mem_one]
    unfold isIn fin
    dsimp only
    constructor
    · rintro ⟨_, h1, h2⟩; omega
    · rintro ⟨h1, h2⟩; exact ⟨hm, by omega⟩
  · exact ⟨trivial, fun i => by simp only [mem_nil, false_iff]; omega⟩
theorem gapsN_spec (n : Int) (hn : n ≤ top) : ∀ (l : RL) (a : Int), 0 ≤ a → Row l → (∀ x ∈ l, a ≤ x.1) → Row (gapsN n a l) ∧ (∀ i, mem (gapsN n a l) i ↔ a ≤ i ∧ i < n ∧ ¬ mem l i) ∧ ∀ y ∈ gapsN n a l, a ≤ y.1
  | [], a, ha, _, _ => by
    obtain ⟨h1, h2⟩ := gap_one a n ha hn
    refine ⟨h1, fun i => ?_, fun y hy => ?_⟩
    · show mem (if a < n then [(a, n - a)] else []) i ↔ _
      rw [h2]; simp [mem_nil]
    · unfold gapsN at hy
      split at hy
      · obtain rfl := List.mem_singleton.1 hy; exact Int.le_refl _
      · cases hy
  | x :: r, a, ha, hl, hax => by
    have hx := hl.1
    have hxa := hax x (by simp)
    by_cases h1 : n ≤ x.1
    · have e : gapsN n a (x :: r) = if a < n then [(a, n - a)] else [] := by
        show (if n ≤ x.1 then _ else _) = _
        rw [if_pos h1]
      rw [e]
      obtain ⟨h2, h3⟩ := gap_one a n ha hn
      refine ⟨h2, fun i => ?_, fun y hy => ?_⟩
      · rw [h3]
        constructor
        · rintro ⟨h4, h5⟩
          refine ⟨h4, h5, fun hm => ?_⟩
          have := hl.from i hm; omega
        · rintro ⟨h4, h5, _⟩; exact ⟨h4, h5⟩
      · split at hy
        · obtain rfl := List.mem_singleton.1 hy; exact Int.le_refl _
        · cases hy
    · have e : gapsN n a (x :: r) = (if a < x.1 then [(a, x.1 - a)] else []) ++ gapsN n (fin x) r := by
        show (if n ≤ x.1 then _ else _) = _
        rw [if_neg h1]
      rw [e]
      have hxt : x.1 ≤ top := by omega
      obtain ⟨h2, h3⟩ := gap_one a x.1 ha hxt
      have hf0 : 0 ≤ fin x := by unfold may at hx; unfold fin; omega
      have hfx : x.1 < fin x := by unfold may at hx; unfold fin; omega
      obtain ⟨h4, h5, h6⟩ := gapsN_spec n hn r (fin x) hf0 hl.2.2 (fun y hy => by have := hl.2.1 y hy; omega)
      refine ⟨row_append h2 h4 (fun y hy z hz => ?_), fun i => ?_, fun y hy => ?_⟩
      · have := h6 z hz
        split at hy
        · obtain rfl := List.mem_singleton.1 hy
          show a + (x.1 - a) < _; omega
        · cases hy
      · rw [mem_append, h3, h5, mem_cons]
        constructor
        · rintro (⟨h7, h8⟩ | ⟨h7, h8, h9⟩)
          · refine ⟨h7, by omega, ?_⟩
            rintro (h10 | h10)
            · have := h10.2.1; omega
            · have := hl.behind i h10; omega
          · refine ⟨by omega, h8, ?_⟩
            rintro (h10 | h10)
            · have := h10.2.2; omega
            · exact h9 h10
        · rintro ⟨h7, h8, h9⟩
          by_cases h10 : i < x.1
          · exact .inl ⟨h7, h10⟩
          · refine .inr ⟨?_, h8, fun h => h9 (.inr h)⟩
            by_cases h11 : i < fin x
            · exact absurd (.inl ⟨hx, by omega, h11⟩) h9
            · omega
      · rcases List.mem_append.1 hy with h7 | h7
        · split at h7
          · obtain rfl := List.mem_singleton.1 h7; exact Int.le_refl _
          · cases h7
        · have := h6 y h7; omega

/-! ### What two rows both have -/
def meetN : RL → RL → RL
  | [], _ => []
  | _, [] => []
  | x :: a, y :: b => (if max x.1 y.1 < min (fin x) (fin y) then [(max x.1 y.1, min (fin x) (fin y) - max x.1 y.1)] else []) ++ (if fin x < fin y then meetN a (y :: b) else meetN (x :: a) b)
termination_by a b => a.length + b.length
theorem meetN_nil_left (b : RL) : meetN [] b = [] := by unfold meetN; rfl
theorem meetN_nil_right (a : RL) : meetN a [] = [] := by cases a <;> (unfold meetN; rfl)
theorem meetN_cons (x y : Int × Int) (a b : RL) : meetN (x :: a) (y :: b) = (if max x.1 y.1 < min (fin x) (fin y) then [(max x.1 y.1, min (fin x) (fin y) - max x.1 y.1)] else []) ++ (if fin x < fin y then meetN a (y :: b) else meetN (x :: a) b) := by
  conv => lhs; unfold meetN

theorem meet_one (x y : Int × Int) (hx : may x) (hy : may y) : Row (if max x.1 y.1 < min (fin x) (fin y) then [(max x.1 y.1, min (fin x) (fin y) - max x.1 y.1)] else []) ∧
    (∀ i, mem (if max x.1 y.1 < min (fin x) (fin y) then [(max x.1 y.1, min (fin x) (fin y) - max x.1 y.1)] else []) i ↔ isIn x i ∧ isIn y i) ∧
    ∀ z ∈ (if max x.1 y.1 < min (fin x) (fin y) then [(max x.1 y.1, min (fin x) (fin y) - max x.1 y.1)] else []), z.1 = max x.1 y.1 ∧ fin z = min (fin x) (fin y) := by
  split
  · rename_i h
    have hm : may (max x.1 y.1, min (fin x) (fin y) - max x.1 y.1) := by unfold may at *; unfold fin at *; dsimp only; unfold top at *; omega
    have hf : fin (max x.1 y.1, min (fin x) (fin y) - max x.1 y.1) = min (fin x) (fin y) := by
      show max x.1 y.1 + (min (fin x) (fin y) - max x.1 y.1) = _; omega
    refine ⟨⟨hm, fun y hy => (by cases hy), trivial⟩, fun i => ?_, fun z hz => ?_⟩
    · rw [mem_one]
      unfold isIn
      rw [hf]
      dsimp only
      constructor
      · rintro ⟨_, h1, h2⟩; exact ⟨⟨hx, by omega⟩, hy, by omega⟩
      · rintro ⟨⟨_, h1⟩, _, h2⟩; exact ⟨hm, by omega⟩
    · obtain rfl := List.mem_singleton.1 hz; exact ⟨rfl, hf⟩
  · rename_i h
    refine ⟨trivial, fun i => ?_, fun z hz => (by cases hz)⟩
    simp only [mem_nil, false_iff]
    rintro ⟨⟨_, h1⟩, _, h2⟩
    omega

/-- All that both have lies behind what both runs have. -/
theorem meetN_spec : ∀ (k : Nat) (a b : RL), a.length + b.length ≤ k → Row a → Row b → Row (meetN a b) ∧ (∀ i, mem (meetN a b) i ↔ mem a i ∧ mem b i) ∧
    ∀ z ∈ meetN a b, ∀ m, (∀ x ∈ a, ∀ y ∈ b, m < max x.1 y.1) → m < z.1
  | k, [], b, _, _, _ => by rw [meetN_nil_left]; exact ⟨trivial, fun i => by simp [mem_nil], fun z hz => (by cases hz)⟩
  | k, x :: a, [], _, _, _ => by rw [meetN_nil_right]; exact ⟨trivial, fun i => by simp [mem_nil], fun z hz => (by cases hz)⟩
  | 0, x :: a, y :: b, h, _, _ => by simp at h
  | k + 1, x :: a, y :: b, h, ha, hb => by
    simp only [List.length_cons] at h
    rw [meetN_cons]
    obtain ⟨h1, h2, h3⟩ := meet_one x y ha.1 hb.1
    have mx := ha.1
    have my := hb.1
    unfold may at mx my
    by_cases hlt : fin x < fin y
    · rw [if_pos hlt]
      obtain ⟨h4, h5, h6⟩ := meetN_spec k a (y :: b) (by simp only [List.length_cons]; omega) ha.2.2 hb
      refine ⟨row_append h1 h4 (fun z hz z' hz' => ?_), fun i => ?_, fun z hz m hm => ?_⟩
      · rw [(h3 z hz).2]
        have := h6 z' hz' (fin x) (fun p hp q _ => by have := ha.2.1 p hp; omega)
        omega
      · rw [mem_append, h2, h5, mem_cons, mem_cons]
        constructor
        · rintro (⟨h7, h8⟩ | ⟨h7, h8⟩)
          · exact ⟨.inl h7, .inl h8⟩
          · exact ⟨.inr h7, h8⟩
        · rintro ⟨h7 | h7, h8⟩
          · rcases h8 with h8 | h8
            · exact .inl ⟨h7, h8⟩
            · have := hb.behind i h8
              have := h7.2.2
              omega
          · exact .inr ⟨h7, h8⟩
      · rcases List.mem_append.1 hz with h7 | h7
        · rw [(h3 z h7).1]; exact hm x (by simp) y (by simp)
        · exact h6 z h7 m (fun p hp q hq => hm p (by simp [hp]) q hq)
    · rw [if_neg hlt]
      obtain ⟨h4, h5, h6⟩ := meetN_spec k (x :: a) b (by simp only [List.length_cons]; omega) ha hb.2.2
      refine ⟨row_append h1 h4 (fun z hz z' hz' => ?_), fun i => ?_, fun z hz m hm => ?_⟩
      · rw [(h3 z hz).2]
        have := h6 z' hz' (fin y) (fun p _ q hq => by have := hb.2.1 q hq; omega)
        omega
      · rw [mem_append, h2, h5, mem_cons, mem_cons]
        constructor
        · rintro (⟨h7, h8⟩ | ⟨h7, h8⟩)
          · exact ⟨.inl h7, .inl h8⟩
          · exact ⟨h7, .inr h8⟩
        · rintro ⟨h7, h8 | h8⟩
          · rcases h7 with h7 | h7
            · exact .inl ⟨h7, h8⟩
            · have := ha.behind i h7
              have := h8.2.2
              omega
          · exact .inr ⟨h7, h8⟩
      · rcases List.mem_append.1 hz with h7 | h7
        · rw [(h3 z h7).1]; exact hm x (by simp) y (by simp)
        · exact h6 z h7 m (fun p hp q hq => hm p hp q (by simp [hq]))

/-! ### The document's cut -/
def cutOne (y x : Int × Int) : RL :=
  (if y.1 < min (fin y) x.1 then [(y.1, min (fin y) x.1 - y.1)] else []) ++ (if max y.1 (fin x) < fin y then [(max y.1 (fin x), fin y - max y.1 (fin x))] else [])
def cutR (l : RL) (x : Int × Int) : RL := l.flatMap fun y => cutOne y x
def minusR (a b : RL) : RL := b.foldl (fun out x => if may x then cutR out x else out) (normR a)
def meetR (a b : RL) : RL := minusR a (minusR a b)
def restR (l : RL) (n : Int) : RL := if n < 1 then [] else minusR [(0, n)] l

theorem cutOne_spec (y x : Int × Int) (hy : may y) (hx : may x) : Row (cutOne y x) ∧ (∀ i, mem (cutOne y x) i ↔ isIn y i ∧ ¬ isIn x i) ∧ ∀ z ∈ cutOne y x, y.1 ≤ z.1 ∧ fin z ≤ fin y := by
  have hy' := hy
  have hx' := hx
  unfold may at hy' hx'
  unfold top at hy' hx'
  obtain ⟨h1, h2⟩ := gap_one y.1 (min (fin y) x.1) hy'.1 (by unfold fin top; omega)
  obtain ⟨h3, h4⟩ := gap_one (max y.1 (fin x)) (fin y) (by omega) (by unfold fin top; omega)
  unfold cutOne
  refine ⟨row_append h1 h3 (fun p hp q hq => ?_), fun i => ?_, fun z hz => ?_⟩
  · split at hp
    · split at hq
      · obtain rfl := List.mem_singleton.1 hp
        obtain rfl := List.mem_singleton.1 hq
        show y.1 + (min (fin y) x.1 - y.1) < max y.1 (fin x)
        unfold fin at *; omega
      · cases hq
    · cases hp
  · rw [mem_append, h2, h4]
    unfold isIn fin
    constructor
    · rintro (⟨h5, h6⟩ | ⟨h5, h6⟩)
      · exact ⟨⟨hy, h5, by omega⟩, fun ⟨_, h⟩ => by omega⟩
      · exact ⟨⟨hy, by omega, h6⟩, fun ⟨_, h⟩ => by omega⟩
    · rintro ⟨⟨_, h5, h6⟩, h7⟩
      by_cases h8 : i < x.1
      · exact .inl ⟨h5, by omega⟩
      · refine .inr ⟨?_, h6⟩
        by_cases h9 : i < x.1 + x.2
        · exact absurd ⟨hx, by omega, h9⟩ h7
        · omega
  · rcases List.mem_append.1 hz with h5 | h5
    · split at h5
      · obtain rfl := List.mem_singleton.1 h5
        refine ⟨Int.le_refl _, ?_⟩
        show y.1 + (min (fin y) x.1 - y.1) ≤ _; omega
      · cases h5
    · split at h5
      · obtain rfl := List.mem_singleton.1 h5
        refine ⟨by dsimp only; omega, ?_⟩
        show max y.1 (fin x) + (fin y - max y.1 (fin x)) ≤ _; omega
      · cases h5
theorem cutR_spec : ∀ (l : RL) (x : Int × Int), Row l → may x → Row (cutR l x) ∧ (∀ i, mem (cutR l x) i ↔ mem l i ∧ ¬ isIn x i) ∧ ∀ z ∈ cutR l x, ∃ y ∈ l, y.1 ≤ z.1 ∧ fin z ≤ fin y
  | [], x, _, _ => ⟨trivial, fun i => by simp [cutR, mem_nil], fun z hz => (by cases hz)⟩
  | y :: l, x, hl, hx => by
    obtain ⟨h1, h2, h3⟩ := cutOne_spec y x hl.1 hx
    obtain ⟨h4, h5, h6⟩ := cutR_spec l x hl.2.2 hx
    have e : cutR (y :: l) x = cutOne y x ++ cutR l x := by simp [cutR]
    rw [e]
    refine ⟨row_append h1 h4 (fun p hp q hq => ?_), fun i => ?_, fun z hz => ?_⟩
    · have := (h3 p hp).2
      obtain ⟨y', hy', h7, _⟩ := h6 q hq
      have := hl.2.1 y' hy'
      omega
    · rw [mem_append, h2, h5, mem_cons]
      constructor
      · rintro (⟨h7, h8⟩ | ⟨h7, h8⟩)
        · exact ⟨.inl h7, h8⟩
        · exact ⟨.inr h7, h8⟩
      · rintro ⟨h7 | h7, h8⟩
        · exact .inl ⟨h7, h8⟩
        · exact .inr ⟨h7, h8⟩
    · rcases List.mem_append.1 hz with h7 | h7
      · exact ⟨y, by simp, h3 z h7⟩
      · obtain ⟨y', hy', h8⟩ := h6 z h7
        exact ⟨y', by simp [hy'], h8⟩
theorem minus_fold : ∀ (b out : RL), Row out → Row (b.foldl (fun out x => if may x then cutR out x else out) out) ∧ ∀ i, mem (b.foldl (fun out x => if may x then cutR out x else out) out) i ↔ mem out i ∧ ¬ mem b i
  | [], out, h => ⟨h, fun i => by simp [mem_nil]⟩
  | x :: b, out, h => by
    rw [List.foldl_cons]
    by_cases hx : may x
    · rw [if_pos hx]
      obtain ⟨h1, h2, _⟩ := cutR_spec out x h hx
      obtain ⟨h3, h4⟩ := minus_fold b _ h1
      refine ⟨h3, fun i => ?_⟩
      rw [h4, h2, mem_cons, not_or, and_assoc]
    · rw [if_neg hx]
      obtain ⟨h3, h4⟩ := minus_fold b _ h
      refine ⟨h3, fun i => ?_⟩
      have : ¬ isIn x i := fun h => hx h.1
      rw [h4, mem_cons, not_or]
      simp [this]
theorem minusR_spec (a b : RL) : Row (minusR a b) ∧ ∀ i, mem (minusR a b) i ↔ mem a i ∧ ¬ mem b i := by
  obtain ⟨h1, h2⟩ := minus_fold b (normR a) (normR_spec a).1
  exact ⟨h1, fun i => (h2 i).trans (by rw [(normR_spec a).2])⟩
theorem meetR_spec (a b : RL) : Row (meetR a b) ∧ ∀ i, mem (meetR a b) i ↔ mem a i ∧ mem b i := by
  obtain ⟨h1, h2⟩ := minusR_spec a (minusR a b)
  refine ⟨h1, fun i => (h2 i).trans ?_⟩
  rw [(minusR_spec a b).2]
  constructor
  · rintro ⟨h3, h4⟩
    refine ⟨h3, Classical.byContradiction fun h5 => h4 ⟨h3, h5⟩⟩
  · rintro ⟨h3, h4⟩
    exact ⟨h3, fun h5 => h5.2 h4⟩
theorem isIn_top {x : Int × Int} {i : Int} (h : isIn x i) : 0 ≤ i ∧ i < top := by
  obtain ⟨h1, h2, h3⟩ := h
  unfold may at h1
  unfold fin at h3
  omega
theorem mem_top {l : RL} {i : Int} (h : mem l i) : 0 ≤ i ∧ i < top := by
  obtain ⟨x, _, h⟩ := h; exact isIn_top h
theorem restR_spec (l : RL) (n : Int) (hn : n ≤ top) : Row (restR l n) ∧ ∀ i, mem (restR l n) i ↔ 0 ≤ i ∧ i < n ∧ ¬ mem l i := by
  unfold restR
  split
  · exact ⟨trivial, fun i => by simp only [mem_nil, false_iff]; omega⟩
  · have hm : may (0, n) := by unfold may; dsimp only; omega
    obtain ⟨h1, h2⟩ := minusR_spec [(0, n)] l
    refine ⟨h1, fun i => ?_⟩
    rw [h2, mem_one]
    unfold isIn fin
    dsimp only
    constructor
    · rintro ⟨⟨_, h3, h4⟩, h5⟩; exact ⟨h3, by omega, h5⟩
    · rintro ⟨h3, h4, h5⟩; exact ⟨⟨hm, h3, by omega⟩, h5⟩

/-! ### The program's answers are the document's -/
theorem gaps_rest (l : RL) (n : Int) (hn : n ≤ top) : gapsN n 0 (normR l) = restR l n := by
  obtain ⟨h1, h2⟩ := normR_spec l
  obtain ⟨h3, h4, _⟩ := gapsN_spec n hn (normR l) 0 (Int.le_refl _) h1 (fun x hx => by have := h1.may x hx; unfold may at this; omega)
  obtain ⟨h5, h6⟩ := restR_spec l n hn
  exact row_eq _ _ h3 h5 fun i => by rw [h4, h6, h2]
theorem meet_eq (a b : RL) : meetN (normR a) (normR b) = meetR a b := by
  obtain ⟨h1, h2, _⟩ := meetN_spec _ (normR a) (normR b) (Nat.le_refl _) (normR_spec a).1 (normR_spec b).1
  obtain ⟨h3, h4⟩ := meetR_spec a b
  exact row_eq _ _ h1 h3 fun i => by rw [h2, h4, (normR_spec a).2, (normR_spec b).2]
theorem minus_eq (a b : RL) : meetN (normR a) (normR (gapsN top 0 (normR b))) = minusR a b := by
  rw [gaps_rest b top (Int.le_refl _), meet_eq]
  obtain ⟨h1, h2⟩ := meetR_spec a (restR b top)
  obtain ⟨h3, h4⟩ := minusR_spec a b
  obtain ⟨h5, h6⟩ := restR_spec b top (Int.le_refl _)
  refine row_eq _ _ h1 h3 fun i => ?_
  rw [h2, h4, h6]
  constructor
  · rintro ⟨h7, _, _, h8⟩; exact ⟨h7, h8⟩
  · rintro ⟨h7, h8⟩; exact ⟨h7, (mem_top h7).1, (mem_top h7).2, h8⟩

end Go.Proofs.Ytgpjldmndibalaa.Runs
