/- Rows of exts: what a changed row says, its blocks, its end. No program. -/
import Derived.Test.YtgpjldmndibalaaExtsMath
namespace Go.Proofs.Ytgpjldmndibalaa.Exts

/-- A place's block alone. -/
def blk (l : EL) (n : Int) : Option Int := (at_ l n).map (·.1)
theorem blk_nil (n : Int) : blk [] n = none := rfl
theorem blk_cons (x : E) (r : EL) (n : Int) : blk (x :: r) n = if x.1 ≤ n ∧ n < fin x then some (x.2.1 + n - x.1) else blk r n := by
  unfold blk
  rw [at_]
  split <;> rfl
theorem blk_append (a b : EL) (n : Int) : blk (a ++ b) n = (blk a n).or (blk b n) := by
  induction a with
  | nil => simp [blk_nil]
  | cons x a ih =>
    rw [List.cons_append, blk_cons, blk_cons, ih]
    split <;> simp
theorem blk_part (x : E) (a b n : Int) : blk (part x a b) n = if a ≤ n ∧ n < b then blk [x] n else none := by
  unfold part
  rw [blk_cons, blk_nil]
  split
  · rename_i h
    rw [blk_cons, blk_nil]
    unfold fin at *
    dsimp only
    by_cases h1 : a ≤ n ∧ n < b
    · rw [if_pos h1]
      by_cases h2 : x.1 ≤ n ∧ n < x.1 + x.2.2
      · rw [if_pos h2, if_pos (by omega)]
        congr 1
        omega
      · rw [if_neg h2, if_neg (by omega)]
    · rw [if_neg h1, if_neg (by omega)]
  · rename_i h
    rw [blk_nil]
    unfold fin at *
    by_cases h1 : a ≤ n ∧ n < b
    · rw [if_pos h1, if_neg (by omega)]
    · rw [if_neg h1]
theorem parts_cons (x : E) (l : EL) (a b : Int) : parts (x :: l) a b = part x a b ++ parts l a b := by simp [parts]
theorem parts_append (l m : EL) (a b : Int) : parts (l ++ m) a b = parts l a b ++ parts m a b := by simp [parts]
theorem blk_parts (l : EL) (a b n : Int) : blk (parts l a b) n = if a ≤ n ∧ n < b then blk l n else none := by
  induction l with
  | nil => show none = _; rw [blk_nil]; simp
  | cons x l ih =>
    rw [parts_cons, blk_append, blk_part, ih]
    split
    · rw [show x :: l = [x] ++ l from rfl, blk_append]
    · rfl
theorem blk_low {l : EL} (hl : Row l) (n : Int) (h : n < 0 ∨ 2048 ≤ n) : blk l n = none := by
  induction l with
  | nil => rfl
  | cons x l ih =>
    have h1 := hl.1
    unfold may at h1
    rw [blk_cons, ih hl.2.2, if_neg (by unfold fin; omega)]
theorem blk_change {l : EL} (hl : Row l) (m : EL) (a b n : Int) (hab : a ≤ b) (hm : ∀ y ∈ m, a ≤ y.1 ∧ fin y ≤ b) :
    blk (changeR l a b m) n = if a ≤ n ∧ n < b then blk m n else blk l n := by
  have hm' : ¬ (a ≤ n ∧ n < b) → blk m n = none := by
    intro h
    clear hl
    induction m with
    | nil => rfl
    | cons x m ih =>
      have h1 := hm x (by simp)
      rw [blk_cons, ih (fun y hy => hm y (by simp [hy])), if_neg (by omega)]
  unfold changeR
  rw [blk_append, blk_append, blk_parts, blk_parts]
  by_cases h : a ≤ n ∧ n < b
  · rw [if_pos h, if_neg (show ¬ (0 ≤ n ∧ n < a) by omega), if_neg (show ¬ (b ≤ n ∧ n < 2048) by omega)]
    simp
  · rw [if_neg h, hm' h]
    by_cases h1 : 0 ≤ n ∧ n < a
    · rw [if_pos h1, if_neg (by omega)]; simp
    · rw [if_neg h1]
      by_cases h2 : b ≤ n ∧ n < 2048
      · rw [if_pos h2]; simp
      · rw [if_neg h2]
        rw [blk_low hl n (by omega)]
        simp
theorem blk_put {l : EL} (hl : Row l) {x : E} (hx : may x) (n : Int) : blk (changeR l x.1 (fin x) [x]) n = if x.1 ≤ n ∧ n < fin x then some (x.2.1 + n - x.1) else blk l n := by
  rw [blk_change hl [x] x.1 (fin x) n (by unfold may at hx; unfold fin; omega) (fun y hy => by obtain rfl := List.mem_singleton.1 hy; omega), blk_cons]
  split <;> rfl
theorem put_row {l : EL} (hl : Row l) {x : E} (hx : may x) : Row (changeR l x.1 (fin x) [x]) :=
  change_row hl (m := [x]) ⟨hx, fun y hy => (by cases hy), trivial⟩ x.1 (fin x) (by unfold may at hx; omega) (by unfold may at hx; unfold fin; omega) (fun y hy => by obtain rfl := List.mem_singleton.1 hy; omega)
theorem gone_row {l : EL} (hl : Row l) (a b : Int) (h0 : 0 ≤ a) (hab : a ≤ b) : Row (changeR l a b []) := change_row hl (m := []) trivial a b h0 hab (fun y hy => by cases hy)

/-! ### The blocks -/
def run (x : E) : Int × Int := (x.2.1, x.2.2)
theorem blocks_ok {l : EL} (hl : Row l) : blocksR l = Runs.normR (l.map run) := by
  unfold blocksR
  rw [check_row.2 hl, if_pos rfl]
  rfl
theorem blocks_bad {l : EL} (hl : okTo l l.length = false) : blocksR l = [] := by
  unfold blocksR
  rw [hl, if_neg (by decide)]
theorem blocks_row (l : EL) : Runs.Row (blocksR l) := by
  unfold blocksR
  split
  · exact (Runs.normR_spec _).1
  · trivial
def has (l : EL) (i : Int) : Prop := ∃ x ∈ l, x.2.1 ≤ i ∧ i < x.2.1 + x.2.2
theorem blocks_mem {l : EL} (hl : Row l) (i : Int) : Runs.mem (blocksR l) i ↔ has l i := by
  rw [blocks_ok hl, (Runs.normR_spec _).2]
  constructor
  · rintro ⟨r, hr, h⟩
    obtain ⟨x, hx, rfl⟩ := List.mem_map.1 hr
    exact ⟨x, hx, h.2⟩
  · rintro ⟨x, hx, h⟩
    have hm := hl.may x hx
    refine ⟨run x, List.mem_map.2 ⟨x, hx, rfl⟩, ?_, h⟩
    unfold may at hm
    unfold run Runs.may Runs.top
    dsimp only
    omega
theorem has_append (a b : EL) (i : Int) : has (a ++ b) i ↔ has a i ∨ has b i := by
  unfold has
  simp only [List.mem_append]
  constructor
  · rintro ⟨x, h | h, k⟩
    · exact .inl ⟨x, h, k⟩
    · exact .inr ⟨x, h, k⟩
  · rintro (⟨x, h, k⟩ | ⟨x, h, k⟩)
    · exact ⟨x, .inl h, k⟩
    · exact ⟨x, .inr h, k⟩
theorem has_parts {l : EL} {a b i : Int} (h : has (parts l a b) i) : has l i := by
  obtain ⟨y, hy, h1, h2⟩ := h
  obtain ⟨x, hx, hp⟩ := List.mem_flatMap.1 hy
  unfold part at hp
  split at hp
  · obtain rfl := List.mem_singleton.1 hp
    unfold fin at *
    dsimp only at *
    exact ⟨x, hx, by omega, by omega⟩
  · cases hp
theorem has_change {l m : EL} {a b i : Int} (h : has (changeR l a b m) i) : has l i ∨ has m i := by
  unfold changeR at h
  rcases (has_append _ _ _).1 h with h | h
  · rcases (has_append _ _ _).1 h with h | h
    · exact .inl (has_parts h)
    · exact .inr h
  · exact .inl (has_parts h)
theorem has_put {l : EL} {x : E} {a b i : Int} (h : x.2.1 ≤ i ∧ i < x.2.1 + x.2.2) : has (changeR l a b [x]) i := by
  unfold changeR
  exact (has_append _ _ _).2 (.inl ((has_append _ _ _).2 (.inr ⟨x, by simp, h⟩)))

/-! ### The end -/
def endR (l : EL) : Int := if okTo l l.length then fin (l.getLastD (0, 0, 0)) else 0
theorem endR_bad (l : EL) (h : okTo l l.length = false) : endR l = 0 := by unfold endR; rw [h]; rfl
theorem endR_nil : endR [] = 0 := rfl
theorem endR_last (l : EL) (x : E) (h : okTo (l ++ [x]) (l ++ [x]).length = true) : endR (l ++ [x]) = fin x := by unfold endR; rw [h]; simp
theorem endR_top {l : EL} (hl : Row l) : (∀ y ∈ l, fin y ≤ endR l) ∧ (l = [] ∧ endR l = 0 ∨ ∃ y ∈ l, fin y = endR l) := by
  rcases List.eq_nil_or_concat l with rfl | ⟨L, x, rfl⟩
  · exact ⟨fun y hy => (by cases hy), .inl ⟨rfl, rfl⟩⟩
  · rw [List.concat_eq_append] at *
    rw [endR_last L x (check_row.2 hl)]
    obtain ⟨_, h2, h3⟩ := row_append_iff.1 hl
    refine ⟨fun y hy => ?_, .inr ⟨x, by simp, rfl⟩⟩
    rcases List.mem_append.1 hy with h | h
    · have := h3 y h x (by simp)
      have := h2.1
      unfold may at this
      unfold fin at *
      omega
    · obtain rfl := List.mem_singleton.1 h
      exact Int.le_refl _
theorem endR_nonneg {l : EL} (hl : Row l) : 0 ≤ endR l := by
  obtain ⟨_, ⟨_, h⟩ | ⟨y, hy, h⟩⟩ := endR_top hl
  · omega
  · have := hl.may y hy
    unfold may at this
    unfold fin at h
    omega
theorem endR_high {l : EL} (hl : Row l) : endR l ≤ 2048 := by
  obtain ⟨_, ⟨_, h⟩ | ⟨y, hy, h⟩⟩ := endR_top hl
  · omega
  · have := hl.may y hy
    unfold may at this
    unfold fin at h
    omega
theorem parts_fin {l : EL} {a b : Int} {y : E} (h : y ∈ parts l a b) : fin y ≤ b ∧ ∃ x ∈ l, fin y ≤ fin x := by
  obtain ⟨x, hx, hp⟩ := List.mem_flatMap.1 h
  unfold part at hp
  split at hp
  · obtain rfl := List.mem_singleton.1 hp
    unfold fin at *
    dsimp only at *
    exact ⟨by omega, x, hx, by omega⟩
  · cases hp
theorem parts_last {l : EL} {x : E} {b : Int} (hl : Row l) (hx : x ∈ l) (h : b < fin x) : ∃ y ∈ parts l b 2048, fin y = fin x := by
  have hm := hl.may x hx
  unfold may at hm
  refine ⟨(max b x.1, x.2.1 + max b x.1 - x.1, min 2048 (fin x) - max b x.1), List.mem_flatMap.2 ⟨x, hx, ?_⟩, ?_⟩
  · unfold part
    rw [if_pos (by unfold fin at *; omega)]
    exact List.mem_singleton.2 rfl
  · unfold fin at *
    dsimp only
    omega
theorem end_put {l : EL} (hl : Row l) {x : E} (hx : may x) : endR (changeR l x.1 (fin x) [x]) = max (endR l) (fin x) := by
  have hr := put_row hl hx
  obtain ⟨h1, h2⟩ := endR_top hr
  obtain ⟨h3, h4⟩ := endR_top hl
  have hxm : x ∈ changeR l x.1 (fin x) [x] := by unfold changeR; simp
  have u1 := h1 x hxm
  have n0 := endR_nonneg hr
  have up : endR (changeR l x.1 (fin x) [x]) ≤ max (endR l) (fin x) := by
    rcases h2 with ⟨e, _⟩ | ⟨y, hy, e⟩
    · rw [e] at hxm; cases hxm
    · rw [← e]
      unfold changeR at hy
      rcases List.mem_append.1 hy with hy | hy
      · rcases List.mem_append.1 hy with hy | hy
        · obtain ⟨_, z, hz, hh⟩ := parts_fin hy
          have := h3 z hz
          omega
        · obtain rfl := List.mem_singleton.1 hy; omega
      · obtain ⟨_, z, hz, hh⟩ := parts_fin hy
        have := h3 z hz
        omega
  have lo : endR l ≤ endR (changeR l x.1 (fin x) [x]) := by
    rcases h4 with ⟨_, e⟩ | ⟨y, hy, e⟩
    · omega
    · by_cases h : fin x < fin y
      · obtain ⟨z, hz, hh⟩ := parts_last hl hy h
        have := h1 z (by unfold changeR; simp [hz])
        omega
      · omega
  omega
theorem parts_none (l : EL) (a b : Int) (h : b ≤ a) : parts l a b = [] := by
  induction l with
  | nil => rfl
  | cons x l ih =>
    rw [parts_cons, ih]
    unfold part
    rw [if_neg (by unfold fin; omega)]
    rfl
theorem end_cut {l : EL} (hl : Row l) (a : Int) (h0 : 0 ≤ a) : endR (changeR l (min a 2048) 2048 []) ≤ min (endR l) a := by
  have hr := gone_row hl (min a 2048) 2048 (by omega) (by omega)
  obtain ⟨_, h2⟩ := endR_top hr
  obtain ⟨h3, _⟩ := endR_top hl
  have n0 := endR_nonneg hl
  rcases h2 with ⟨_, e⟩ | ⟨y, hy, e⟩
  · omega
  · rw [← e]
    unfold changeR at hy
    rw [parts_none l 2048 2048 (Int.le_refl _), List.append_nil, List.append_nil] at hy
    obtain ⟨h5, z, hz, hh⟩ := parts_fin hy
    have := h3 z hz
    omega

/-! ### A row that is put ext by ext -/
theorem part_ahead {y : E} (h : may y) {b : Int} (hb : fin y ≤ b) : part y 0 b = [y] := by
  unfold may at h
  unfold part
  have e1 : max 0 y.1 = y.1 := by omega
  have e2 : min b (fin y) = fin y := by omega
  rw [e1, e2, if_pos (by unfold fin; omega)]
  obtain ⟨a, b, c⟩ := y
  unfold fin
  simp only [List.cons.injEq, and_true, Prod.mk.injEq, true_and]
  omega
theorem part_behind {y : E} (h : may y) {a : Int} (ha : a ≤ y.1) : part y a 2048 = [y] := by
  unfold may at h
  unfold part
  have e1 : max a y.1 = y.1 := by omega
  have e2 : min 2048 (fin y) = fin y := by unfold fin; omega
  rw [e1, e2, if_pos (by unfold fin; omega)]
  obtain ⟨a, b, c⟩ := y
  unfold fin
  simp only [List.cons.injEq, and_true, Prod.mk.injEq, true_and]
  omega
theorem part_off {y : E} {a b : Int} (h : fin y ≤ a ∨ b ≤ y.1) : part y a b = [] := by
  unfold part
  rw [if_neg (by unfold fin at *; omega)]
theorem parts_ahead {l : EL} (hl : ∀ y ∈ l, may y) {b : Int} (h : ∀ y ∈ l, fin y ≤ b) : parts l 0 b = l := by
  induction l with
  | nil => rfl
  | cons x l ih => rw [parts_cons, part_ahead (hl x (by simp)) (h x (by simp)), ih (fun y hy => hl y (by simp [hy])) (fun y hy => h y (by simp [hy]))]; rfl
theorem parts_behind {l : EL} (hl : ∀ y ∈ l, may y) {a : Int} (h : ∀ y ∈ l, a ≤ y.1) : parts l a 2048 = l := by
  induction l with
  | nil => rfl
  | cons x l ih => rw [parts_cons, part_behind (hl x (by simp)) (h x (by simp)), ih (fun y hy => hl y (by simp [hy])) (fun y hy => h y (by simp [hy]))]; rfl
theorem parts_off {l : EL} {a b : Int} (h : ∀ y ∈ l, fin y ≤ a ∨ b ≤ y.1) : parts l a b = [] := by
  induction l with
  | nil => rfl
  | cons x l ih => rw [parts_cons, part_off (h x (by simp)), ih (fun y hy => h y (by simp [hy]))]; rfl
/-- Put between those ahead and those behind, in place of what lies there. -/
theorem put_between {A M C : EL} {x : E} (hA : ∀ y ∈ A, may y ∧ fin y ≤ x.1) (hC : ∀ y ∈ C, may y ∧ fin x ≤ y.1) (hM : ∀ y ∈ M, x.1 ≤ y.1 ∧ fin y ≤ fin x) (hx : may x) :
    changeR (A ++ M ++ C) x.1 (fin x) [x] = A ++ [x] ++ C := by
  unfold may at hx
  have fx : x.1 ≤ fin x := by unfold fin; omega
  unfold changeR
  rw [parts_append, parts_append, parts_append, parts_append]
  rw [parts_ahead (fun y hy => (hA y hy).1) (fun y hy => (hA y hy).2)]
  rw [parts_off (l := M) (fun y hy => .inr (hM y hy).1)]
  rw [parts_off (l := C) (a := 0) (fun y hy => .inr (by have := (hC y hy).2; omega))]
  rw [parts_off (l := A) (b := 2048) (fun y hy => .inl (by have := (hA y hy).2; omega))]
  rw [parts_off (l := M) (b := 2048) (fun y hy => .inl (hM y hy).2)]
  rw [parts_behind (fun y hy => (hC y hy).1) (fun y hy => (hC y hy).2)]
  simp
/-- The same ones out of a part of a part. -/
theorem part_part (x : E) (a b c d : Int) : parts (part x a b) c d = part x (max a c) (min b d) := by
  by_cases h : max a x.1 < min b (fin x)
  · have e : part x a b = [(max a x.1, x.2.1 + max a x.1 - x.1, min b (fin x) - max a x.1)] := by unfold part; rw [if_pos h]
    rw [e, parts_cons]
    show part _ c d ++ [] = _
    rw [List.append_nil]
    unfold part
    unfold fin at *
    dsimp only
    by_cases h2 : max (max a c) x.1 < min (min b d) (x.1 + x.2.2)
    · rw [if_pos (by omega), if_pos h2]
      simp only [List.cons.injEq, and_true, Prod.mk.injEq]
      omega
    · rw [if_neg (by omega), if_neg h2]
  · have e : part x a b = [] := by unfold part; rw [if_neg h]
    rw [e]
    unfold part
    rw [if_neg (by omega)]
    rfl
theorem parts_parts (l : EL) (a b c d : Int) : parts (parts l a b) c d = parts l (max a c) (min b d) := by
  induction l with
  | nil => rfl
  | cons x l ih => rw [parts_cons, parts_append, part_part, ih, parts_cons]
/-- Without its places a row is what it is without them ahead of a change of just those. -/
theorem change_gone (l m : EL) (a b : Int) (h0 : 0 ≤ a) (hab : a ≤ b) (hb : b ≤ 2048) (hm : ∀ y ∈ m, a ≤ y.1 ∧ fin y ≤ b) (c d : Int) (k : EL) (hc : 0 ≤ c) (hca : c ≤ a) (hd : b ≤ d) :
    changeR (changeR l a b m) c d k = changeR l c d k := by
  have m1 : parts m 0 c = [] := parts_off (fun y hy => .inr (by have := (hm y hy).1; omega))
  have m2 : parts m d 2048 = [] := parts_off (fun y hy => .inl (by have := (hm y hy).2; omega))
  unfold changeR
  rw [parts_append, parts_append, parts_append, parts_append, parts_parts, parts_parts, parts_parts, parts_parts, m1, m2]
  rw [parts_none l (max b 0) (min 2048 c) (by omega), parts_none l (max 0 d) (min a 2048) (by omega)]
  rw [show max (0 : Int) 0 = 0 by omega, show min a c = c by omega, show max b d = d by omega, show min (2048 : Int) 2048 = 2048 by omega]
  simp
/-! ### Neighbours that are one -/
def jstep (out : EL) (x : E) : EL :=
  match out.getLast? with
  | none => [x]
  | some z => if fin z = x.1 ∧ z.2.1 + z.2.2 = x.2.1 then out.dropLast ++ [(z.1, z.2.1, z.2.2 + x.2.2)] else out ++ [x]
def joinedR (l : EL) : EL := l.foldl jstep []
theorem jstep_nil (x : E) : jstep [] x = [x] := rfl
theorem jstep_snoc (a : EL) (z x : E) : jstep (a ++ [z]) x = if fin z = x.1 ∧ z.2.1 + z.2.2 = x.2.1 then a ++ [(z.1, z.2.1, z.2.2 + x.2.2)] else a ++ [z] ++ [x] := by
  unfold jstep
  simp
theorem jstep_two (s : EL) (a b c d : Int) : jstep (jstep s (a, b, c)) (a + c, b + c, d) = jstep s (a, b, c + d) := by
  rcases List.eq_nil_or_concat s with rfl | ⟨S, z, rfl⟩
  · rw [jstep_nil, show [((a, b, c) : E)] = [] ++ [(a, b, c)] from rfl, jstep_snoc, if_pos (by unfold fin; dsimp only; omega)]
    rfl
  · rw [List.concat_eq_append, jstep_snoc, jstep_snoc]
    unfold fin
    dsimp only
    by_cases h : z.1 + z.2.2 = a ∧ z.2.1 + z.2.2 = b
    · rw [if_pos h, if_pos h, jstep_snoc, if_pos (by unfold fin; dsimp only; omega)]
      dsimp only
      rw [Int.add_assoc]
    · rw [if_neg h, if_neg h, jstep_snoc, if_pos (by unfold fin; dsimp only; omega)]
theorem joined_two (A C : EL) (a b c d : Int) : joinedR (A ++ [(a, b, c), (a + c, b + c, d)] ++ C) = joinedR (A ++ [(a, b, c + d)] ++ C) := by
  unfold joinedR
  simp only [List.foldl_append, List.foldl_cons, List.foldl_nil]
  rw [jstep_two]

end Go.Proofs.Ytgpjldmndibalaa.Exts
