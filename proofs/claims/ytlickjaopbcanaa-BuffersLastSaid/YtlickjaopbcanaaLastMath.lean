/- BuffersLast: what a row of Gets comes to. No walk. -/
import Derived.Test.YtlickjaopbcanaaCacheC
namespace Go.Proofs.Ytlickjaopbcanaa
open Go Go.RowKit Bufs

def outOf (l : List Nat) (b : Nat) : List Nat := l.filter fun x => x != b
theorem outOf_mem {l : List Nat} {b x : Nat} : x ∈ outOf l b ↔ x ∈ l ∧ x ≠ b := by simp [outOf]
theorem outOf_none {l : List Nat} {b : Nat} (h : b ∉ l) : outOf l b = l := by
  unfold outOf
  rw [List.filter_eq_self]
  intro x hx
  have : x ≠ b := fun e => h (e ▸ hx)
  simp [this]
theorem outOf_app (l m : List Nat) (b : Nat) : outOf (l ++ m) b = outOf l b ++ outOf m b := by simp [outOf]
theorem outOf_length {l : List Nat} (hn : l.Pairwise (· ≠ ·)) {b : Nat} (h : b ∈ l) : (outOf l b).length + 1 = l.length := by
  induction l with
  | nil => cases h
  | cons x l ih =>
    obtain ⟨h1, h2⟩ := List.pairwise_cons.1 hn
    rcases List.mem_cons.1 h with rfl | h
    · have : b ∉ l := fun hm => h1 b hm rfl
      have e : outOf (b :: l) b = l := by
        have := outOf_none this
        unfold outOf at this ⊢
        rw [List.filter_cons, this]
        simp
      rw [e]; rfl
    · have hne : x ≠ b := fun e => h1 b h e
      have e : outOf (x :: l) b = x :: outOf l b := by
        unfold outOf
        rw [List.filter_cons]
        simp [hne]
      rw [e, List.length_cons, List.length_cons, ih h2 h]
theorem but_bs (l : PL) (b : Nat) : (but l b).map PB.b = outOf (l.map PB.b) b := by
  unfold but outOf
  rw [List.filter_map]
  rfl
structure LastInv (n most : Nat) (l : PL) (O : List Nat) : Prop where
  clean : ∀ x ∈ l, x.dirty = false ∧ x.pinned = false
  eq : l.map PB.b = O.drop (O.length - most)
  nd : O.Pairwise (· ≠ ·)
  lt : ∀ b ∈ O, b < n
theorem clean_snoc {l : PL} {x : PB} (h : ∀ x ∈ l, x.dirty = false ∧ x.pinned = false) (hx : x.dirty = false ∧ x.pinned = false) : ∀ y ∈ l ++ [x], y.dirty = false ∧ y.pinned = false := by
  intro y hy
  rcases List.mem_append.1 hy with h1 | h1
  · exact h y h1
  · rw [List.mem_singleton.1 h1]; exact hx
theorem nd_snoc {O : List Nat} (h : O.Pairwise (· ≠ ·)) (b : Nat) : (outOf O b ++ [b]).Pairwise (· ≠ ·) := by
  refine List.pairwise_append.2 ⟨h.filter _, List.pairwise_singleton _ _, fun x hx y hy => ?_⟩
  rw [List.mem_singleton.1 hy]
  exact (outOf_mem.1 hx).2
theorem last_get {D : Dev} {l : PL} {most : Nat} {O : List Nat} {b : Nat} (hB : Buffers D.kept.length most l) (h : LastInv D.kept.length most l O) (hb : b < D.kept.length) (hm : 1 ≤ most) :
    ∃ s l', getS D l most (b : Int) = ((s, 0), D, l') ∧ LastInv D.kept.length most l' (outOf O b ++ [b]) := by
  have hlt : ∀ x ∈ outOf O b ++ [b], x < D.kept.length := by
    intro x hx
    rcases List.mem_append.1 hx with h1 | h1
    · exact h.lt x (outOf_mem.1 h1).1
    · rw [List.mem_singleton.1 h1]; exact hb
  have hnd := nd_snoc h.nd b
  have hll : l.length = O.length - (O.length - most) := by have := congrArg List.length h.eq; simpa using this
  have hO := List.take_append_drop (O.length - most) O
  have hndl : (l.map PB.b).Pairwise (· ≠ ·) := by rw [List.pairwise_map]; exact hB.bs
  have hndO := h.nd
  rw [← hO] at hndO
  rw [← h.eq] at hO hndO
  have hPl : (O.take (O.length - most)).length = O.length - most := by rw [List.length_take]; omega
  generalize O.take (O.length - most) = P at *
  have e0 : getS D l most (b : Int) = match get l b with
      | some x => ((x.data, 0), D, but l b ++ [x])
      | none => if (roomOf D l most).1 = 0 then (((roomOf D l most).2.1.readS b, 0), (roomOf D l most).2.1, (roomOf D l most).2.2 ++ [⟨b, (roomOf D l most).2.1.readS b, false, false, 0, 0⟩])
        else ((⟨#[]⟩, (roomOf D l most).1), (roomOf D l most).2.1, (roomOf D l most).2.2) := if_pos (by omega)
  rw [e0]
  cases hg : get l b with
  | some x =>
    obtain ⟨hx, hxb⟩ := get_some hg
    have hbS : b ∈ l.map PB.b := List.mem_map.2 ⟨x, hx, hxb⟩
    have hbP : b ∉ P := fun hp => (List.pairwise_append.1 hndO).2.2 b hp b hbS rfl
    refine ⟨_, _, rfl, clean_snoc (fun y hy => h.clean y (but_mem.1 hy).1) (h.clean x hx), ?_, hnd, hlt⟩
    have hlS := outOf_length hndl hbS
    rw [List.length_map] at hlS
    rw [List.map_append, but_bs, ← hO, outOf_app, outOf_none hbP]
    have el : (P ++ outOf (l.map PB.b) b ++ [b]).length - most = P.length := by simp; omega
    rw [el, List.append_assoc, List.drop_left]
    show _ ++ [x.b] = _
    rw [hxb]
  | none =>
    have hbS : b ∉ l.map PB.b := fun hm => by
      obtain ⟨x, hx, e⟩ := List.mem_map.1 hm
      exact get_none hg x hx e
    dsimp only
    by_cases hlm : l.length < most
    · have er : roomOf D l most = (0, D, l) := if_pos hlm
      rw [er]
      refine ⟨_, _, if_pos rfl, clean_snoc h.clean ⟨rfl, rfl⟩, ?_, hnd, hlt⟩
      have hP0 : P = [] := by apply List.length_eq_zero_iff.1; omega
      subst hP0
      rw [List.nil_append] at hO
      rw [← hO, outOf_none hbS, List.map_append]
      have el : (l.map PB.b ++ [b]).length - most = 0 := by simp; omega
      rw [el, List.drop_zero]
      rfl
    · have hlen := hB.len
      cases l with
      | nil => simp at hlm; omega
      | cons x0 l =>
        have hx0 := h.clean x0 List.mem_cons_self
        have hf : (x0 :: l).find? (fun x => !x.pinned) = some x0 := by rw [List.find?_cons, hx0.2]; rfl
        have ho : outE D x0 = 0 ∧ outD D x0 = D := by unfold outE outD; rw [hx0.1]; exact ⟨rfl, rfl⟩
        have er : roomOf D (x0 :: l) most = (0, D, but (x0 :: l) x0.b) := by
          unfold roomOf
          rw [if_neg hlm, hf]
          dsimp only
          rw [if_pos ho.1, ho.2]
        have hx0l : x0.b ∉ l.map PB.b := fun hm => by
          rw [List.map_cons] at hndl
          exact (List.pairwise_cons.1 hndl).1 x0.b hm rfl
        have eb : (but (x0 :: l) x0.b).map PB.b = l.map PB.b := by
          rw [but_bs, List.map_cons]
          have := outOf_none hx0l
          unfold outOf at this ⊢
          rw [List.filter_cons, this]
          simp
        rw [er]
        refine ⟨_, _, if_pos rfl, clean_snoc (fun y hy => h.clean y (but_mem.1 hy).1) ⟨rfl, rfl⟩, ?_, hnd, hlt⟩
        dsimp only
        rw [List.map_append, eb, ← hO, outOf_app, outOf_none hbS]
        have el : (outOf P b ++ (x0 :: l).map PB.b ++ [b]).length - most = (outOf P b ++ [x0.b]).length := by simp at hlm hlen ⊢; omega
        rw [el, show outOf P b ++ (x0 :: l).map PB.b ++ [b] = (outOf P b ++ [x0.b]) ++ (l.map PB.b ++ [b]) by simp, List.drop_left]
        rfl
theorem last_has {n most : Nat} {l : PL} {O : List Nat} (h : LastInv n most l O) {k : Nat} (hk : k < O.length) : hasOf l n (O.getD k 0 : Nat) = decide (O.length - most ≤ k) := by
  have hO : O.getD k 0 = O[k] := by simp [List.getD, hk]
  have hlt := h.lt _ (List.getElem_mem hk)
  unfold hasOf
  rw [hO, decide_eq_true (by omega), Bool.true_and, Int.toNat_natCast]
  have key : O[k] ∈ l.map PB.b ↔ O.length - most ≤ k := by
    rw [h.eq]
    constructor
    · intro hm
      obtain ⟨j, hj, e⟩ := List.getElem_of_mem hm
      rw [List.getElem_drop] at e
      rw [List.length_drop] at hj
      have hp := List.pairwise_iff_getElem.1 h.nd
      rcases Nat.lt_trichotomy (O.length - most + j) k with h1 | h1 | h1
      · exact absurd e (hp _ _ (by omega) hk h1)
      · omega
      · exact absurd e.symm (hp _ _ hk (by omega) h1)
    · intro hle
      have : (O.drop (O.length - most))[k - (O.length - most)]'(by rw [List.length_drop]; omega) = O[k] := by
        rw [List.getElem_drop]
        congr 1
        omega
      rw [← this]
      exact List.getElem_mem _
  cases hg : get l O[k] with
  | none =>
    have : ¬ (O.length - most ≤ k) := fun hle => by
      obtain ⟨x, hx, e⟩ := List.mem_map.1 (key.2 hle)
      exact get_none hg x hx e
    rw [decide_eq_false this]
    rfl
  | some x =>
    obtain ⟨hx, e⟩ := get_some hg
    rw [decide_eq_true (key.1 (List.mem_map.2 ⟨x, hx, e⟩))]
    rfl
theorem last_dirty {n most : Nat} {l : PL} {O : List Nat} (h : LastInv n most l O) (m : Nat) : blocksOf l PB.dirty m = [] := by
  unfold blocksOf
  rw [List.filter_eq_nil_iff]
  intro b _
  cases hg : get l b with
  | none => simp
  | some x => simp [(h.clean x (get_some hg).1).1]
theorem outOf_le (l : List Nat) (b : Nat) : (outOf l b).length ≤ l.length := List.length_filter_le _ _

end Go.Proofs.Ytlickjaopbcanaa
