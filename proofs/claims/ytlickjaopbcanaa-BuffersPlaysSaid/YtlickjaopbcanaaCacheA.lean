/- A cache in memory: the queue, the buffers that are out of it, the row of all; what each store does. No walk. A cache in memory: what each store does to it. No walk. A cache: pin. A cache: use. A cache: drop. -/
import Derived.Test.YtlickjaopbcanaaQueueA
import Derived.StillTailTactics
namespace Go.Proofs.Ytlickjaopbcanaa
open Go Go.RowKit

theorem Row.only {S : List Nat} {w w' : World} {b : Nat} {E : TypeId} {cs : List Value} (h : Row w b E cs) (ho : Only S w w') (hn : b ∉ S) : Row w' b E cs := by
  have hl := h.lt
  obtain ⟨fr, h1, h2⟩ := h
  exact ⟨fr, by rw [ho.block b hl hn]; exact h1, h2⟩
theorem own_only1 {S : List Nat} {B n : Nat} {w w' : World} {T : TypeId} {v : Value} {xs : List Value} (h : w.ownsRow B T 1 v n xs) (ho : Only S w w') (hn : ∀ k, v.ownBlock = some k → k ∉ S) : w'.ownsRow B T 1 v n xs := by
  obtain ⟨h1, h2⟩ := h
  refine ⟨h1, ?_⟩
  rcases h2 with h2 | ⟨g, cap, cur, rfl, hg, hh, r⟩
  · exact .inl h2
  · exact .inr ⟨g, cap, cur, rfl, hg, by rw [ho.block g (lt_of_block hh) (hn g rfl)]; exact hh, r⟩
def ids (K : Heap.KL) : List Nat := K.map (·.1)
theorem mem_ids {K : Heap.KL} {k : Nat} : k ∈ ids K ↔ ∃ x ∈ K, x.1 = k := by simp [ids]
/-- Block k is none of the cache's. -/
structure Off (k cb go : Nat) (v : Value) (M : Heap.KL) : Prop where
  cb : k ≠ cb
  go : k ≠ go
  v : v.ownBlock ≠ some k
  ids : ∀ x ∈ M, x.1 ≠ k
/-- What is no matter how the queue goes: K are the buffers that are in it, A those that are out; D are blocks of others. -/
structure Raw (B : Nat) (w : World) (cb go : Nat) (five : List Value) (v : Value) (K A : Heap.KL) (fr : Nat → List Value) (P : List Value) (D : List Nat) : Prop where
  q : QAt B w cb five v K fr
  al : ∀ x ∈ A, Alone w fr x
  afl : ∀ x ∈ A, (fr x.1).length = 4
  aid : ∀ x ∈ A, x.1 ≠ cb ∧ v.ownBlock ≠ some x.1 ∧ B ≤ x.1
  akey : ∀ x ∈ A, 0 ≤ x.2 ∧ x.2 ≤ 1000000000000
  nd : (K ++ A).Pairwise fun x y => x.1 ≠ y.1
  of : Row w go 83 P
  gocb : go ≠ cb
  gov : v.ownBlock ≠ some go
  goB : B ≤ go
  goid : ∀ x ∈ K ++ A, x.1 ≠ go
  base : B ≤ w.heap.size
  off : ∀ k ∈ D, k < w.heap.size ∧ Off k cb go v (K ++ A)
/-- The blocks that the queue's calls may write. -/
def ownOf (cb : Nat) (v : Value) (M : Heap.KL) : List Nat := cb :: (v.ownBlock.toList ++ ids M)
theorem own_v {cb : Nat} {v : Value} {M : Heap.KL} : ∀ k, v.ownBlock = some k → k ∈ ownOf cb v M := fun k h => by simp [ownOf, h]
theorem own_id {cb : Nat} {v : Value} {M : Heap.KL} {x : Nat × Int} (h : x ∈ M) : x.1 ∈ ownOf cb v M := List.mem_cons_of_mem _ (List.mem_append.2 (.inr (mem_ids.2 ⟨x, h, rfl⟩)))
theorem not_own {cb k : Nat} {v : Value} {M : Heap.KL} (h1 : k ≠ cb) (h2 : v.ownBlock ≠ some k) (h3 : ∀ x ∈ M, x.1 ≠ k) : k ∉ ownOf cb v M := by
  intro h
  rcases List.mem_cons.1 h with e | h
  · exact h1 e
  · rcases List.mem_append.1 h with h | h
    · exact h2 (by simpa using h)
    · obtain ⟨x, hx, e⟩ := mem_ids.1 h
      exact h3 x hx e

variable {B cb go : Nat} {w w' : World} {five : List Value} {v : Value} {K A : Heap.KL} {fr : Nat → List Value} {P : List Value} {D : List Nat}

theorem Raw.nd2 (h : Raw B w cb go five v K A fr P D) : ∀ x ∈ K, ∀ y ∈ A, x.1 ≠ y.1 := (List.pairwise_append.1 h.nd).2.2
/-- A buffer has gone out of the queue. -/
theorem Raw.rem {n g cap : Nat} {x : Nat × Int} {K' : Heap.KL} (h : Raw B w cb go five v K A fr P D) (hg : v.ownBlock = some g) (r : Rem B cb g cap n w w' five K x fr (ownOf cb v K) K') : Raw B w' cb go five (.slice (some ⟨g, 0, none⟩) n cap) K' (x :: A) fr P D := by
  have hxK : x ∈ K := r.perm.mem_iff.2 List.mem_cons_self
  have hp : (K' ++ x :: A).Perm (K ++ A) := List.perm_middle.trans ((r.perm.symm).append_right A)
  have hv : ∀ k, v.ownBlock ≠ some k → (Value.slice (some ⟨g, 0, none⟩) n cap).ownBlock ≠ some k := fun k hk e => hk (hg.trans e)
  have hx := h.q.ids x hxK
  refine ⟨r.q, ?_, ?_, ?_, ?_, ?_, ?_, h.gocb, hv _ h.gov, h.goB, fun y hy => h.goid y (hp.mem_iff.1 hy), Nat.le_trans h.base r.only.size, fun k hk => ?_⟩
  · intro y hy
    rcases List.mem_cons.1 hy with rfl | hy
    · exact r.alone
    · have := h.aid y hy
      exact Row.only (h.al y hy) r.only (not_own this.1 this.2.1 (fun z hz => h.nd2 z hz y hy))
  · intro y hy
    rcases List.mem_cons.1 hy with rfl | hy
    · exact h.q.frl _ hxK
    · exact h.afl y hy
  · intro y hy
    rcases List.mem_cons.1 hy with rfl | hy
    · exact ⟨hx.1, hv _ hx.2.1, hx.2.2⟩
    · have := h.aid y hy
      exact ⟨this.1, hv _ this.2.1, this.2.2⟩
  · intro y hy
    rcases List.mem_cons.1 hy with rfl | hy
    · exact h.q.keys _ hxK
    · exact h.akey y hy
  · exact (hp.pairwise_iff (R := fun x y : Nat × Int => x.1 ≠ y.1) (fun h => h.symm)).2 h.nd
  · exact h.of.only r.only (not_own h.gocb h.gov (fun z hz => h.goid z (List.mem_append.2 (.inl hz))))
  · obtain ⟨h1, h2⟩ := h.off k hk
    exact ⟨Nat.lt_of_lt_of_le h1 r.only.size, h2.cb, h2.go, hv _ h2.v, fun y hy => h2.ids y (hp.mem_iff.1 hy)⟩
/-- A buffer has come into the queue. -/
theorem Raw.put {g cap : Nat} {x : Nat × Int} {K' : Heap.KL} (h : Raw B w cb go five v K (x :: A) fr P D) (r : Put B cb w w' five v K x fr (ownOf cb v (K ++ [x])) g cap K') : Raw B w' cb go five (.slice (some ⟨g, 0, none⟩) K'.length cap) K' A fr P D := by
  have hp : (K' ++ A).Perm (K ++ x :: A) := by
    refine (r.perm.append_right A).trans ?_
    rw [List.append_assoc]
    exact .refl _
  have hsub : ∀ y, y ∈ A → y ∈ x :: A := fun y hy => List.mem_cons_of_mem _ hy
  have hv : ∀ k, k < w.heap.size → v.ownBlock ≠ some k → (Value.slice (some ⟨g, 0, none⟩) K'.length cap).ownBlock ≠ some k := fun k hl hk e => by
    rcases r.fresh with h1 | h1
    · exact hk (h1.trans e)
    · injection e with e
      exact absurd e (by show ¬ g = k; omega)
  have hxa : ∀ y ∈ A, x.1 ≠ y.1 := (List.pairwise_cons.1 (List.pairwise_append.1 h.nd).2.1).1
  have hno : ∀ y ∈ A, y.1 ∉ ownOf cb v (K ++ [x]) := fun y hy => by
    have := h.aid y (hsub y hy)
    refine not_own this.1 this.2.1 (fun z hz => ?_)
    rcases List.mem_append.1 hz with hz | hz
    · exact h.nd2 z hz y (hsub y hy)
    · rw [List.mem_singleton.1 hz]; exact hxa y hy
  have hKx : ∀ z ∈ K ++ [x], z ∈ K ++ x :: A := fun z hz => by
    rcases List.mem_append.1 hz with hz | hz
    · exact List.mem_append.2 (.inl hz)
    · exact List.mem_append.2 (.inr (List.mem_cons.2 (.inl (List.mem_singleton.1 hz))))
  refine ⟨r.q, fun y hy => Row.only (h.al y (hsub y hy)) r.only (hno y hy), fun y hy => h.afl y (hsub y hy), fun y hy => ?_, fun y hy => h.akey y (hsub y hy), ?_, ?_, h.gocb, hv _ h.of.lt h.gov, h.goB, fun y hy => h.goid y (hp.mem_iff.1 hy), Nat.le_trans h.base r.only.size, fun k hk => ?_⟩
  · have := h.aid y (hsub y hy)
    exact ⟨this.1, hv _ (Row.lt (h.al y (hsub y hy))) this.2.1, this.2.2⟩
  · exact (hp.pairwise_iff (R := fun x y : Nat × Int => x.1 ≠ y.1) (fun h => h.symm)).2 h.nd
  · exact h.of.only r.only (not_own h.gocb h.gov (fun z hz => h.goid z (hKx z hz)))
  · obtain ⟨h1, h2⟩ := h.off k hk
    exact ⟨Nat.lt_of_lt_of_le h1 r.only.size, h2.cb, h2.go, hv _ h1 h2.v, fun y hy => h2.ids y (hp.mem_iff.1 hy)⟩
/-- The queue has been put in order. -/
theorem Raw.fix {S : List Nat} {N : Nat} {K' : Heap.KL} (h : Raw B w cb go five v K A fr P D) (hS : ∀ k ∈ S, k ∈ ownOf cb v K) (r : QGo B w w' cb five v K K' fr N S) : Raw B w' cb go five v K' A fr P D := by
  have hp : (K' ++ A).Perm (K ++ A) := r.perm.append_right A
  have ho := r.only.sub hS
  refine ⟨r.q, fun y hy => Row.only (h.al y hy) ho (not_own (h.aid y hy).1 (h.aid y hy).2.1 (fun z hz => h.nd2 z hz y hy)), h.afl, h.aid, h.akey, ?_, ?_, h.gocb, h.gov, h.goB, fun y hy => h.goid y (hp.mem_iff.1 hy), Nat.le_trans h.base ho.size, fun k hk => ?_⟩
  · exact (hp.pairwise_iff (R := fun x y : Nat × Int => x.1 ≠ y.1) (fun h => h.symm)).2 h.nd
  · exact h.of.only ho (not_own h.gocb h.gov (fun z hz => h.goid z (List.mem_append.2 (.inl hz))))
  · obtain ⟨h1, h2⟩ := h.off k hk
    exact ⟨Nat.lt_of_lt_of_le h1 ho.size, h2.cb, h2.go, h2.v, fun y hy => h2.ids y (hp.mem_iff.1 hy)⟩

end Go.Proofs.Ytlickjaopbcanaa

namespace Go.Proofs.Ytlickjaopbcanaa
open Go Go.RowKit
variable {B cb go : Nat} {w w' : World} {five : List Value} {v : Value} {K A : Heap.KL} {fr : Nat → List Value} {P : List Value} {D : List Nat}

theorem own_set1 {n : Nat} {T : TypeId} {xs : List Value} (h : w.ownsRow B T 1 v n xs) {k j : Nat} (hk : v.ownBlock ≠ some k) (u : Value) : (w.setCell ⟨k, j, none⟩ u).ownsRow B T 1 v n xs := ownsRow_setCell_other h (a := ⟨k, j, none⟩) hk u
theorem size_set (w : World) (p : Addr) (u : Value) : (w.setCell p u).heap.size = w.heap.size := by simp
theorem set_four (l : List Value) (a b c : Value) (h : l.length = 4) : (l ++ [a, b]).set 4 c = l ++ [c, b] := by
  rw [List.set_append, if_neg (by omega), h]
  rfl
theorem set_low (l m : List Value) (k : Nat) (c : Value) (h : k < l.length) : (l ++ m).set k c = l.set k c ++ m := by
  rw [List.set_append, if_pos h]
theorem Raw.fives (h : Raw B w cb go five v K A fr P D) {k : Nat} (hk : k < 5) (u : Value) : Raw B (w.setCell ⟨cb, k, none⟩ u) cb go (five.set k u) v K A fr P D := by
  have q := h.q
  refine ⟨⟨q.own, by rw [List.length_set]; exact q.fl, ?_, own_set1 q.row q.ne u, fun i hi => (q.buf i hi).other (a := ⟨cb, k, none⟩) (q.ids _ (q.at hi)).1.symm u, q.frl, q.nd, q.ne, q.ids, q.keys, q.len⟩, fun x hx => Row.other (h.al x hx) (a := ⟨cb, k, none⟩) (h.aid x hx).1.symm u, h.afl, h.aid, h.akey, h.nd, h.of.other (a := ⟨cb, k, none⟩) h.gocb.symm u, h.gocb, h.gov, h.goB, h.goid, by rw [size_set]; exact h.base, fun k hk => by rw [size_set]; exact h.off k hk⟩
  have r := q.cells.set k u
  rw [set_low _ _ _ _ (by rw [q.fl]; exact hk)] at r
  exact r
theorem Raw.at_of (h : Raw B w cb go five v K A fr P D) (k : Nat) (u : Value) : Raw B (w.setCell ⟨go, k, none⟩ u) cb go five v K A fr (P.set k u) D := by
  have q := h.q
  exact ⟨⟨q.own, q.fl, q.cells.other (a := ⟨go, k, none⟩) h.gocb u, own_set1 q.row h.gov u, fun i hi => (q.buf i hi).other (a := ⟨go, k, none⟩) (h.goid _ (List.mem_append.2 (.inl (q.at hi)))).symm u, q.frl, q.nd, q.ne, q.ids, q.keys, q.len⟩, fun x hx => Row.other (h.al x hx) (a := ⟨go, k, none⟩) (h.goid x (List.mem_append.2 (.inr hx))).symm u, h.afl, h.aid, h.akey, h.nd, h.of.set k u, h.gocb, h.gov, h.goB, h.goid, by rw [size_set]; exact h.base, fun k hk => by rw [size_set]; exact h.off k hk⟩
/-- A store into a buffer: nothing else is touched. -/
theorem Raw.cells_far (h : Raw B w cb go five v K A fr P D) {x : Nat × Int} (hx : x ∈ K ++ A) (k : Nat) (u : Value) :
    Row (w.setCell ⟨x.1, k, none⟩ u) cb 41 (five ++ [v]) ∧ (w.setCell ⟨x.1, k, none⟩ u).ownsRow B 83 1 v K.length (ptrs K) ∧ Row (w.setCell ⟨x.1, k, none⟩ u) go 83 P := by
  have q := h.q
  have hc : x.1 ≠ cb ∧ v.ownBlock ≠ some x.1 := by
    rcases List.mem_append.1 hx with h1 | h1
    · exact ⟨(q.ids x h1).1, (q.ids x h1).2.1⟩
    · exact ⟨(h.aid x h1).1, (h.aid x h1).2.1⟩
  exact ⟨q.cells.other (a := ⟨x.1, k, none⟩) hc.1 u, own_set1 q.row hc.2 u, h.of.other (a := ⟨x.1, k, none⟩) (h.goid x hx) u⟩
def upd (fr : Nat → List Value) (i : Nat) (l : List Value) : Nat → List Value := fun k => if k = i then l else fr k
theorem upd_same (fr : Nat → List Value) (i : Nat) (l : List Value) : upd fr i l i = l := if_pos rfl
theorem upd_ne (fr : Nat → List Value) {i k : Nat} (l : List Value) (h : k ≠ i) : upd fr i l k = fr k := if_neg h
theorem Raw.distinct (h : Raw B w cb go five v K A fr P D) : ∀ x ∈ K ++ A, ∀ y ∈ K ++ A, x.1 = y.1 → x = y := Bufs.pair_eq h.nd
/-- A buffer's own cells: of which block, what it holds, whether it is dirty, pinned. -/
theorem Raw.cell (h : Raw B w cb go five v K A fr P D) {x : Nat × Int} (hx : x ∈ K ++ A) {k : Nat} (hk : k < 4) (u : Value) : Raw B (w.setCell ⟨x.1, k, none⟩ u) cb go five v K A (upd fr x.1 ((fr x.1).set k u)) P D := by
  have q := h.q
  obtain ⟨h1, h2, h3⟩ := h.cells_far hx k u
  have hfl : ∀ y, (fr y).length = 4 → (upd fr x.1 ((fr x.1).set k u) y).length = 4 := fun y hy => by
    unfold upd
    split
    · next e => rw [List.length_set, ← e]; exact hy
    · exact hy
  have hrow : ∀ y : Nat × Int, ∀ l, (fr y.1).length = 4 → Row w y.1 88 (fr y.1 ++ l) → Row (w.setCell ⟨x.1, k, none⟩ u) y.1 88 (upd fr x.1 ((fr x.1).set k u) y.1 ++ l) := fun y l hy r => by
    by_cases e : y.1 = x.1
    · rw [e] at r hy ⊢
      rw [upd_same]
      have r2 := r.set k u
      rw [set_low _ _ _ _ (by omega)] at r2
      exact r2
    · rw [upd_ne fr _ e]
      exact r.other (a := ⟨x.1, k, none⟩) (fun e2 => e e2.symm) u
  exact ⟨⟨q.own, q.fl, h1, h2, fun i hi => hrow _ _ (q.frl _ (q.at hi)) (q.buf i hi), fun y hy => hfl y.1 (q.frl y hy), q.nd, q.ne, q.ids, q.keys, q.len⟩, fun y hy => hrow y _ (h.afl y hy) (h.al y hy), fun y hy => hfl y.1 (h.afl y hy), h.aid, h.akey, h.nd, h3, h.gocb, h.gov, h.goB, h.goid, by rw [size_set]; exact h.base, fun k hk => by rw [size_set]; exact h.off k hk⟩
theorem set_ids (K : Heap.KL) (i : Nat) (u : Int) (hi : i < K.length) : ids (K.set i ((K.getD i (0, 0)).1, u)) = ids K := by
  unfold ids
  rw [List.map_set]
  apply List.ext_getElem
  · simp
  · intro j h1 h2
    rw [List.getElem_set]
    split
    · next e => subst e; simp [List.getD, hi]
    · rfl
theorem nd_ids {M N : Heap.KL} (h : ids M = ids N) : (M.Pairwise fun x y => x.1 ≠ y.1) ↔ N.Pairwise fun x y => x.1 ≠ y.1 := by
  have e : ∀ L : Heap.KL, (L.Pairwise fun x y => x.1 ≠ y.1) ↔ (ids L).Pairwise (· ≠ ·) := fun L => by unfold ids; rw [List.pairwise_map]
  rw [e, e, h]
theorem all_ids {M N : Heap.KL} (h : ids M = ids N) {p : Nat → Prop} (hp : ∀ x ∈ N, p x.1) : ∀ x ∈ M, p x.1 := fun x hx => by
  obtain ⟨y, hy, e⟩ := mem_ids.1 (h ▸ mem_ids.2 ⟨x, hx, rfl⟩)
  rw [← e]
  exact hp y hy
theorem ids_app (M N : Heap.KL) : ids (M ++ N) = ids M ++ ids N := by simp [ids]
theorem ptrs_ids (K : Heap.KL) : ptrs K = (ids K).map ptr := by simp [ptrs, ids]
/-- When a buffer was used that is in the queue. -/
theorem Raw.usedK (h : Raw B w cb go five v K A fr P D) {i : Nat} (hi : i < K.length) (u : Int) (hu : 0 ≤ u ∧ u ≤ 1000000000000) : Raw B (w.setCell ⟨(K.getD i (0, 0)).1, 4, none⟩ (.int .i64 u)) cb go five v (K.set i ((K.getD i (0, 0)).1, u)) A fr P D := by
  have q := h.q
  obtain ⟨h1, h2, h3⟩ := h.cells_far (List.mem_append.2 (.inl (q.at hi))) 4 (.int .i64 u)
  have hs := set_ids K i u hi
  have hl : (K.set i ((K.getD i (0, 0)).1, u)).length = K.length := by simp
  have hs2 : ids (K.set i ((K.getD i (0, 0)).1, u) ++ A) = ids (K ++ A) := by rw [ids_app, ids_app, hs]
  refine ⟨⟨q.own, q.fl, h1, by rw [hl, ptrs_ids, hs, ← ptrs_ids]; exact h2, fun j hj => ?_, all_ids (p := fun k => (fr k).length = 4) hs q.frl, (nd_ids hs).2 q.nd, q.ne, all_ids (p := fun k => k ≠ cb ∧ v.ownBlock ≠ some k ∧ B ≤ k) hs q.ids, fun x hx => ?_, by rw [hl]; exact q.len⟩, fun x hx => Row.other (h.al x hx) (a := ⟨_, 4, none⟩) (h.nd2 _ (q.at hi) x hx) _, h.afl, h.aid, h.akey, (nd_ids hs2).2 h.nd, h3, h.gocb, h.gov, h.goB, all_ids (p := fun k => k ≠ go) hs2 h.goid, by rw [size_set]; exact h.base, fun k hk => ?_⟩
  · rw [hl] at hj
    by_cases e : j = i
    · subst e
      have e2 : (K.set j ((K.getD j (0, 0)).1, u)).getD j (0, 0) = ((K.getD j (0, 0)).1, u) := by simp [List.getD, hi]
      rw [e2]
      have r := (q.buf j hi).set 4 (.int .i64 u)
      rw [set_four _ _ _ _ (q.frl _ (q.at hi))] at r
      exact r
    · have e2 : (K.set i ((K.getD i (0, 0)).1, u)).getD j (0, 0) = K.getD j (0, 0) := by simp [List.getD, Ne.symm e]
      rw [e2]
      exact (q.buf j hj).other (a := ⟨_, 4, none⟩) (q.ne_ids hi hj (Ne.symm e)) _
  · rcases List.mem_or_eq_of_mem_set hx with h4 | h4
    · exact q.keys x h4
    · rw [h4]; exact hu
  · rw [size_set]
    obtain ⟨h4, h5⟩ := h.off k hk
    exact ⟨h4, h5.cb, h5.go, h5.v, all_ids (p := fun j => j ≠ k) hs2 h5.ids⟩
/-- .. that is out of it. -/
theorem Raw.usedA {x : Nat × Int} (h : Raw B w cb go five v K (x :: A) fr P D) (u : Int) (hu : 0 ≤ u ∧ u ≤ 1000000000000) : Raw B (w.setCell ⟨x.1, 4, none⟩ (.int .i64 u)) cb go five v K ((x.1, u) :: A) fr P D := by
  have q := h.q
  have hx : x ∈ K ++ x :: A := List.mem_append.2 (.inr List.mem_cons_self)
  obtain ⟨h1, h2, h3⟩ := h.cells_far hx 4 (.int .i64 u)
  have hs : ids ((x.1, u) :: A) = ids (x :: A) := by simp [ids]
  have hs2 : ids (K ++ (x.1, u) :: A) = ids (K ++ x :: A) := by rw [ids_app, ids_app, hs]
  have hxa : ∀ y ∈ A, x.1 ≠ y.1 := (List.pairwise_cons.1 (List.pairwise_append.1 h.nd).2.1).1
  refine ⟨⟨q.own, q.fl, h1, h2, fun j hj => (q.buf j hj).other (a := ⟨x.1, 4, none⟩) (h.nd2 _ (q.at hj) x List.mem_cons_self).symm _, q.frl, q.nd, q.ne, q.ids, q.keys, q.len⟩, fun y hy => ?_, all_ids (p := fun k => (fr k).length = 4) hs h.afl, all_ids (p := fun k => k ≠ cb ∧ v.ownBlock ≠ some k ∧ B ≤ k) hs h.aid, fun y hy => ?_, (nd_ids hs2).2 h.nd, h3, h.gocb, h.gov, h.goB, all_ids (p := fun k => k ≠ go) hs2 h.goid, by rw [size_set]; exact h.base, fun k hk => ?_⟩
  · rcases List.mem_cons.1 hy with rfl | hy
    · have r := Row.set (h.al x List.mem_cons_self) 4 (.int .i64 u)
      rw [set_four _ _ _ _ (h.afl x List.mem_cons_self)] at r
      exact r
    · exact Row.other (h.al y (List.mem_cons_of_mem _ hy)) (a := ⟨x.1, 4, none⟩) (hxa y hy) _
  · rcases List.mem_cons.1 hy with rfl | hy
    · exact hu
    · exact h.akey y (List.mem_cons_of_mem _ hy)
  · rw [size_set]
    obtain ⟨h4, h5⟩ := h.off k hk
    exact ⟨h4, h5.cb, h5.go, h5.v, all_ids (p := fun j => j ≠ k) hs2 h5.ids⟩
/-- In whichever order those stand that are out. -/
theorem Raw.perm {A' : Heap.KL} (h : Raw B w cb go five v K A fr P D) (hp : A.Perm A') : Raw B w cb go five v K A' fr P D := by
  have hp2 : (K ++ A').Perm (K ++ A) := (hp.symm).append_left K
  refine ⟨h.q, fun x hx => h.al x (hp.mem_iff.2 hx), fun x hx => h.afl x (hp.mem_iff.2 hx), fun x hx => h.aid x (hp.mem_iff.2 hx), fun x hx => h.akey x (hp.mem_iff.2 hx), (hp2.pairwise_iff (R := fun x y : Nat × Int => x.1 ≠ y.1) (fun h => h.symm)).2 h.nd, h.of, h.gocb, h.gov, h.goB, fun x hx => h.goid x (hp2.mem_iff.1 hx), h.base, fun k hk => ?_⟩
  obtain ⟨h4, h5⟩ := h.off k hk
  exact ⟨h4, h5.cb, h5.go, h5.v, fun x hx => h5.ids x (hp2.mem_iff.1 hx)⟩
/-- One that is out is gone. -/
theorem Raw.gone {x : Nat × Int} (h : Raw B w cb go five v K (x :: A) fr P D) : Raw B w cb go five v K A fr P D := by
  have hm : ∀ y, y ∈ A → y ∈ x :: A := fun y hy => List.mem_cons_of_mem _ hy
  have hm2 : ∀ y, y ∈ K ++ A → y ∈ K ++ x :: A := fun y hy => (List.mem_append.1 hy).elim (fun h1 => List.mem_append.2 (.inl h1)) (fun h1 => List.mem_append.2 (.inr (hm y h1)))
  refine ⟨h.q, fun y hy => h.al y (hm y hy), fun y hy => h.afl y (hm y hy), fun y hy => h.aid y (hm y hy), fun y hy => h.akey y (hm y hy), h.nd.sublist ((List.sublist_cons_self x A).append_left K), h.of, h.gocb, h.gov, h.goB, fun y hy => h.goid y (hm2 y hy), h.base, fun k hk => ?_⟩
  obtain ⟨h4, h5⟩ := h.off k hk
  exact ⟨h4, h5.cb, h5.go, h5.v, fun y hy => h5.ids y (hm2 y hy)⟩
/-- What others do to their blocks. -/
theorem Raw.other {S : List Nat} (h : Raw B w cb go five v K A fr P D) (ho : Only S w w') (hS : ∀ k ∈ S, k ∈ D ∨ w.heap.size ≤ k) : Raw B w' cb go five v K A fr P D := by
  have q := h.q
  have hn : ∀ k, k < w.heap.size → (∀ j ∈ D, j ≠ k) → k ∉ S := fun k hk hd hs => (hS k hs).elim (fun h1 => hd k h1 rfl) (fun h1 => by omega)
  have hid : ∀ x ∈ K ++ A, x.1 < w.heap.size → x.1 ∉ S := fun x hx hl => hn x.1 hl (fun j hj e => (h.off j hj).2.ids x hx e.symm)
  refine ⟨⟨q.own, q.fl, q.cells.only ho (hn _ q.cells.lt (fun j hj => (h.off j hj).2.cb)), own_only1 q.row ho (fun k hk => hn k (q.row.lt k hk).2 (fun j hj e => (h.off j hj).2.v (by rw [e]; exact hk))), fun i hi => (q.buf i hi).only ho (hid _ (List.mem_append.2 (.inl (q.at hi))) (q.buf i hi).lt), q.frl, q.nd, q.ne, q.ids, q.keys, q.len⟩, fun x hx => Row.only (h.al x hx) ho (hid x (List.mem_append.2 (.inr hx)) (Row.lt (h.al x hx))), h.afl, h.aid, h.akey, h.nd, h.of.only ho (hn _ h.of.lt (fun j hj => (h.off j hj).2.go)), h.gocb, h.gov, h.goB, h.goid, Nat.le_trans h.base ho.size, fun k hk => ?_⟩
  obtain ⟨h4, h5⟩ := h.off k hk
  exact ⟨Nat.lt_of_lt_of_le h4 ho.size, h5⟩

end Go.Proofs.Ytlickjaopbcanaa

namespace Go.Proofs.Ytlickjaopbcanaa
open Go Go.RowKit
variable {B cb go : Nat} {w w' : World} {five : List Value} {v : Value} {K A : Heap.KL} {fr : Nat → List Value} {P : List Value} {D : List Nat}

theorem Only.drewN' {S : List Nat} (w : World) (m : Nat) : Only S w (w.drewN m) := ⟨rfl, rfl, rfl, Nat.le_refl _, fun _ _ _ => rfl⟩
theorem Only.drew' {S : List Nat} (w : World) : Only S w w.drew := ⟨rfl, rfl, rfl, Nat.le_refl _, fun _ _ _ => rfl⟩
theorem Raw.drew (h : Raw B w cb go five v K A fr P D) : Raw B w.drew cb go five v K A fr P D := h.other (S := []) (Only.drew' w) (fun k hk => by cases hk)
theorem Raw.drewN (h : Raw B w cb go five v K A fr P D) (m : Nat) : Raw B (w.drewN m) cb go five v K A fr P D := h.other (S := []) (Only.drewN' w m) (fun k hk => by cases hk)
theorem Alone.c5 {x : Nat × Int} (h : Alone w fr x) (hl : (fr x.1).length = 4) : w.cell? ⟨x.1, 5, none⟩ = some (.int .i64 (-1)) := Row.cellAt h 5 (by rw [List.getElem?_append_right (by rw [hl]; omega), hl]; rfl)
theorem Row.has {b : Nat} {E : TypeId} {cs : List Value} (h : Row w b E cs) {k : Nat} (hk : k < cs.length) : ∃ u, w.cell? ⟨b, k, none⟩ = some u := ⟨_, h.cellAt k (List.getElem?_eq_getElem hk)⟩

set_option maxRecDepth 100000 in
set_option maxHeartbeats 4000000 in
theorem pin_rem {g N n cap : Nat} (h : Raw B w cb go five (.slice (some ⟨g, 0, none⟩) N cap) K A fr P D) (hN : N = K.length) (hn : N = n + 1) (i : Nat) (hi : i < N) (hu : Heap.GapInv K N i) (x : Nat × Int) (hx : K.getD i (0, 0) = x) :
    Calls Try.prog 50 #[.pointer (some ⟨cb, 0, none⟩), ptr x.1, .bool true] w fun e w' => e = .returned (.tuple #[]) ∧ ∃ K', K.Perm (x :: K') ∧ Heap.Heap K' K'.length ∧ Raw B w' cb go five (.slice (some ⟨g, 0, none⟩) n cap) K' (x :: A) (upd fr x.1 ((fr x.1).set 3 (.bool true))) P D ∧ Only (ownOf cb (.slice (some ⟨g, 0, none⟩) N cap) K) w w' := by
  have hil : i < K.length := by omega
  have hp := h.q.place hil
  rw [hx] at hp
  have hxo : x.1 ∈ ownOf cb (.slice (some ⟨g, 0, none⟩) N cap) K := own_id (hx ▸ h.q.at hil)
  have q0 := remove_any (S := ownOf cb (.slice (some ⟨g, 0, none⟩) N cap) K) hN hn h.drew.q i hi hu (own_v g rfl) List.mem_cons_self (fun y hy => own_id hy)
  rw [hx] at q0
  have q := Lib.hid q0
  have HH := Lib.hid h.drew
  have HX := Lib.hid hxo
  have i0 : (0 : Int) ≤ (i : Int) := by omega
  clear q0 h hu hx hxo hN hn
  unfold ifq at q
  unfold ptr at *
  go_enter Try.func50, Try.ntmps50
  go_wp2_with fail
  refine wp_region_still_tail 8 (by kernel_rfl) (by kernel_rfl) ?_
  simp only [List.take_succ_cons, List.take_zero, List.drop_succ_cons, List.drop_zero]
  repeat still_step
  refine wpStill_nil ?_
  change wpList _ _ _ _ _ w.drew
  go_wp2_with fail
  refine q.out.mono ?_
  rintro e w2 ⟨rfl, K', hr⟩
  have hw2 := HH.out.rem rfl hr
  have hrow := hw2.al x List.mem_cons_self
  obtain ⟨u, hc3⟩ := Row.has hrow (k := 3) (by simp [hw2.afl x List.mem_cons_self])
  have hf3 := Row.free hrow 3 (by simp [hw2.afl x List.mem_cons_self])
  have HE := Lib.hid (And.intro hr.perm (And.intro hr.heap (And.intro (hw2.cell (x := x) (List.mem_append.2 (.inr List.mem_cons_self)) (k := 3) (by omega) (.bool true)) (((Only.drew' w).trans hr.only).trans (Only.setCell w2 ⟨x.1, 3, none⟩ (.bool true) HX.out)))))
  clear hr hw2 hrow q HH hp
  go_wp2_with fail
  go_end0
  exact ⟨rfl, K', HE.out⟩

set_option maxRecDepth 100000 in
set_option maxHeartbeats 4000000 in
theorem pin_put (x : Nat × Int) (h : Raw B w cb go five v K (x :: A) fr P D) (hl : K.length < 256) (hh : Heap.Heap K K.length) :
    Calls Try.prog 50 #[.pointer (some ⟨cb, 0, none⟩), ptr x.1, .bool false] w fun e w' => e = .returned (.tuple #[]) ∧ ∃ g cap K', K'.Perm (K ++ [x]) ∧ Heap.Heap K' K'.length ∧ Raw B w' cb go five (.slice (some ⟨g, 0, none⟩) K'.length cap) K' A (upd fr x.1 ((fr x.1).set 3 (.bool false))) P D ∧ Only (ownOf cb v (K ++ [x])) w w' ∧ (v.ownBlock = some g ∨ w.heap.size ≤ g) := by
  have hxA : x ∈ x :: A := List.mem_cons_self
  have hxo : x.1 ∈ ownOf cb v (K ++ [x]) := own_id (List.mem_append.2 (.inr (List.mem_singleton.2 rfl)))
  have hc5 := Alone.c5 (h.al x hxA) (h.afl x hxA)
  have hx : Comes B cb w v K x fr := ⟨h.al x hxA, h.afl x hxA, fun y hy => h.nd2 y hy x hxA, (h.aid x hxA).1, (h.aid x hxA).2.1, (h.aid x hxA).2.2, h.akey x hxA⟩
  have q := Lib.hid (hpush_any (S := ownOf cb v (K ++ [x])) h.q hx hl h.base hh List.mem_cons_self hxo (fun y hy => own_id (List.mem_append.2 (.inl hy))) own_v)
  have HH := Lib.hid h
  have HX := Lib.hid hxo
  clear h hx hxo hh
  unfold ifq at q
  unfold ptr at *
  go_enter Try.func50, Try.ntmps50
  go_wp2_with fail
  refine q.out.mono ?_
  rintro e w2 ⟨rfl, g, cap, K', hr⟩
  have hw2 := HH.out.put hr
  have hxK : x ∈ K' := hr.perm.mem_iff.2 (List.mem_append.2 (.inr (List.mem_singleton.2 rfl)))
  obtain ⟨j, hj, hjx⟩ : ∃ j, j < K'.length ∧ K'.getD j (0, 0) = x := by
    obtain ⟨j, hj, e⟩ := List.mem_iff_getElem.1 hxK
    exact ⟨j, hj, by simp [List.getD, hj, e]⟩
  have hrow := hw2.q.buf j hj
  have hfl := hw2.q.frl x hxK
  rw [hjx] at hrow
  obtain ⟨u, hc3⟩ := Row.has hrow (k := 3) (by simp [hfl])
  have hf3 := Row.free hrow 3 (by simp [hfl])
  have HE := Lib.hid (And.intro hr.perm (And.intro hr.heap (And.intro (hw2.cell (x := x) (List.mem_append.2 (.inl hxK)) (k := 3) (by omega) (.bool false)) (And.intro (hr.only.trans (Only.setCell w2 ⟨x.1, 3, none⟩ (.bool false) HX.out)) hr.fresh))))
  clear hr hw2 hrow q HH hfl hxK hj hjx hc5
  go_wp2_with fail
  go_end0
  exact ⟨rfl, g, cap, K', HE.out⟩
set_option maxRecDepth 100000 in
set_option maxHeartbeats 4000000 in
/-- Nothing becomes of the queue: what is pinned stays so, what is not stays in the queue. -/
theorem pin_stay (x : Nat × Int) (h : Raw B w cb go five v K A fr P D) (hx : x ∈ K ++ A) (p : Bool) (hp : p = true → x ∈ A) (hp2 : p = false → x ∈ K) :
    Calls Try.prog 50 #[.pointer (some ⟨cb, 0, none⟩), ptr x.1, .bool p] w fun e w' => e = .returned (.tuple #[]) ∧ Raw B w' cb go five v K A (upd fr x.1 ((fr x.1).set 3 (.bool p))) P D ∧ Only [x.1] w w' := by
  have HE := Lib.hid (And.intro (h.cell hx (k := 3) (by omega) (.bool p)) (Only.setCell (S := [x.1]) w ⟨x.1, 3, none⟩ (.bool p) (List.mem_singleton.2 rfl)))
  cases p with
  | true =>
    have hxA := hp rfl
    have hrow := h.al x hxA
    have hfl := h.afl x hxA
    have hc5 := Alone.c5 hrow hfl
    obtain ⟨u, hc3⟩ := Row.has hrow (k := 3) (by simp [hfl])
    have hf3 := Row.free hrow 3 (by simp [hfl])
    clear h hx hp hp2 hrow hfl hxA
    unfold ptr at *
    go_enter Try.func50, Try.ntmps50
    go_wp2_with fail
    go_end0
    exact ⟨rfl, HE.out⟩
  | false =>
    have hxK := hp2 rfl
    obtain ⟨j, hj, hjx⟩ : ∃ j, j < K.length ∧ K.getD j (0, 0) = x := by
      obtain ⟨j, hj, e⟩ := List.mem_iff_getElem.1 hxK
      exact ⟨j, hj, by simp [List.getD, hj, e]⟩
    have hrow := h.q.buf j hj
    have hfl := h.q.frl x hxK
    have hc5 := h.q.place hj
    rw [hjx] at hrow hc5
    obtain ⟨u, hc3⟩ := Row.has hrow (k := 3) (by simp [hfl])
    have hf3 := Row.free hrow 3 (by simp [hfl])
    have j0 : ¬ (j : Int) < 0 := by omega
    clear h hx hp hp2 hrow hfl hxK hj hjx
    unfold ptr at *
    go_enter Try.func50, Try.ntmps50
    go_wp2_with fail
    go_end0
    exact ⟨rfl, HE.out⟩

end Go.Proofs.Ytlickjaopbcanaa

namespace Go.Proofs.Ytlickjaopbcanaa
open Go Go.RowKit
variable {B cb go : Nat} {w w' : World} {five : List Value} {v : Value} {K A : Heap.KL} {fr : Nat → List Value} {P : List Value} {D : List Nat}

theorem at_of {K : Heap.KL} {x : Nat × Int} (h : x ∈ K) : ∃ j, j < K.length ∧ K.getD j (0, 0) = x := by
  obtain ⟨j, hj, e⟩ := List.mem_iff_getElem.1 h
  exact ⟨j, hj, by simp [List.getD, hj, e]⟩
theorem Raw.clock (h : Raw B w cb go five v K A fr P D) {c : Int} (hc : five[2]? = some (.int .i64 c)) : w.cell? ⟨cb, 2, none⟩ = some (.int .i64 c) ∧ w.frozen? ⟨cb, 2, none⟩ = false := by
  have hl := h.q.fl
  exact ⟨h.q.cells.cellAt 2 (by rw [List.getElem?_append_left (by omega)]; exact hc), h.q.cells.free 2 (by simp; omega)⟩
theorem own_set {cb : Nat} {v : Value} {K : Heap.KL} {i : Nat} {u : Int} (hi : i < K.length) : ownOf cb v (K.set i ((K.getD i (0, 0)).1, u)) = ownOf cb v K := by unfold ownOf; rw [set_ids K i u hi]
set_option maxRecDepth 100000 in
set_option maxHeartbeats 4000000 in
theorem use_rem (h : Raw B w cb go five v K A fr P D) (hh : Heap.Heap K K.length) (i : Nat) (hi : i < K.length) (x : Nat × Int) (hx : K.getD i (0, 0) = x) (c : Int) (hcl : five[2]? = some (.int .i64 c)) (hc0 : 0 ≤ c ∧ c < 1000000000000) :
    Calls Try.prog 46 #[.pointer (some ⟨cb, 0, none⟩), ptr x.1, .bool true] w fun e w' => e = .returned (.tuple #[]) ∧ ∃ v' K', K.Perm (x :: K') ∧ Heap.Heap K' K'.length ∧ Raw B w' cb go (five.set 2 (.int .i64 (c + 1))) v' K' ((x.1, c + 1) :: A) (upd fr x.1 ((fr x.1).set 3 (.bool true))) P D ∧ Only (ownOf cb v K) w w' := by
  obtain ⟨g, cap, hv, _⟩ := h.q.slice (by omega)
  obtain ⟨hc2, hf2⟩ := h.clock hcl
  have n1 : IntKind.i64.wrap (c + 1) = c + 1 := IntWalk.i64_in _ (by omega)
  have hrow := h.q.buf i hi
  have hfl := h.q.frl _ (h.q.at hi)
  obtain ⟨u4, hc4⟩ := Row.has hrow (k := 4) (by rw [List.length_append, hfl]; simp)
  have hf4 := Row.free hrow 4 (by rw [List.length_append, hfl]; simp)
  have hne := (h.q.ids _ (h.q.at hi)).1
  have h1 := ((h.fives (k := 2) (by omega) (.int .i64 (c + 1))).usedK hi (c + 1) (by omega))
  have hxo : x.1 ∈ ownOf cb v K := own_id (hx ▸ h.q.at hi)
  have HS := Lib.hid (Heap.set_perm K i (x.1, c + 1) hi)
  have HO := Lib.hid (own_set (cb := cb) (v := v) (u := c + 1) hi)
  rw [hx] at hc4 hf4 hne h1 HS HO
  have hl : (K.set i (x.1, c + 1)).length = K.length := by simp
  have q0 := pin_rem (i := i) (N := K.length) (n := K.length - 1) (hv ▸ h1) hl.symm (by omega) hi (Heap.gap_set hh (x.1, c + 1) (Nat.le_refl _)) (x.1, c + 1) (by simp [List.getD, hi])
  rw [← hv] at q0
  have q := Lib.hid q0
  have HX := Lib.hid hxo
  have Hx := Lib.hid hx
  unfold ptr at *
  clear q0 h1 h hrow hh hl hxo hx
  go_enter Try.func46, Try.ntmps46
  go_wp2_with fail
  refine q.out.mono ?_
  rintro e w2 ⟨rfl, K', hp, hh, hr, ho⟩
  have hc5 := Alone.c5 (hr.al _ List.mem_cons_self) (hr.afl _ List.mem_cons_self)
  have hp2 : K.Perm (x :: K') := by
    have e1 := HS.out
    exact (List.Perm.cons_inv (e1.symm.trans ((hp.cons x).trans (List.Perm.swap _ _ _)))).symm.symm
  have ho2 : Only (ownOf cb v K) w w2 := by
    have := ho
    rw [HO.out] at this
    exact ((Only.setCell w ⟨cb, 2, none⟩ _ List.mem_cons_self).trans (Only.setCell _ ⟨x.1, 4, none⟩ _ HX.out)).trans this
  have HE := Lib.hid (And.intro hp2 (And.intro hh (And.intro hr ho2)))
  clear hp hp2 hh hr ho ho2 q
  dsimp only at hc5
  go_wp2_with fail
  go_end0
  exact ⟨rfl, _, K', HE.out⟩
set_option maxRecDepth 100000 in
set_option maxHeartbeats 4000000 in
theorem use_stay (x : Nat × Int) (h : Raw B w cb go five v K (x :: A) fr P D) (c : Int) (hcl : five[2]? = some (.int .i64 c)) (hc0 : 0 ≤ c ∧ c < 1000000000000) :
    Calls Try.prog 46 #[.pointer (some ⟨cb, 0, none⟩), ptr x.1, .bool true] w fun e w' => e = .returned (.tuple #[]) ∧ Raw B w' cb go (five.set 2 (.int .i64 (c + 1))) v K ((x.1, c + 1) :: A) (upd fr x.1 ((fr x.1).set 3 (.bool true))) P D ∧ Only [cb, x.1] w w' := by
  obtain ⟨hc2, hf2⟩ := h.clock hcl
  have n1 : IntKind.i64.wrap (c + 1) = c + 1 := IntWalk.i64_in _ (by omega)
  have hrow := h.al x List.mem_cons_self
  have hfl := h.afl x List.mem_cons_self
  obtain ⟨u4, hc4⟩ := Row.has hrow (k := 4) (by rw [List.length_append, hfl]; simp)
  have hf4 := Row.free hrow 4 (by rw [List.length_append, hfl]; simp)
  have hne := (h.aid x List.mem_cons_self).1
  have h1 := ((h.fives (k := 2) (by omega) (.int .i64 (c + 1))).usedA (c + 1) (by omega))
  have q := Lib.hid (pin_stay (x.1, c + 1) h1 (List.mem_append.2 (.inr List.mem_cons_self)) true (fun _ => List.mem_cons_self) (fun e => by cases e))
  unfold ptr at *
  clear h1 h hrow
  go_enter Try.func46, Try.ntmps46
  go_wp2_with fail
  refine q.out.mono ?_
  rintro e w2 ⟨rfl, hr, ho⟩
  have hc5 := Alone.c5 (hr.al _ List.mem_cons_self) (hr.afl _ List.mem_cons_self)
  have ho2 : Only [cb, x.1] w w2 := ((Only.setCell w ⟨cb, 2, none⟩ _ List.mem_cons_self).trans (Only.setCell _ ⟨x.1, 4, none⟩ _ (by simp))).trans (ho.sub (fun k hk => by simp at hk; simp [hk]))
  have HE := Lib.hid (And.intro hr ho2)
  clear hr ho ho2 q
  dsimp only at hc5
  go_wp2_with fail
  go_end0
  exact ⟨rfl, HE.out⟩
set_option maxRecDepth 100000 in
set_option maxHeartbeats 4000000 in
theorem use_fix (h : Raw B w cb go five v K A fr P D) (hh : Heap.Heap K K.length) (i : Nat) (hi : i < K.length) (x : Nat × Int) (hx : K.getD i (0, 0) = x) (c : Int) (hcl : five[2]? = some (.int .i64 c)) (hc0 : 0 ≤ c ∧ c < 1000000000000) :
    Calls Try.prog 46 #[.pointer (some ⟨cb, 0, none⟩), ptr x.1, .bool false] w fun e w' => e = .returned (.tuple #[]) ∧ ∃ K', K'.Perm (K.set i (x.1, c + 1)) ∧ Heap.Heap K' K'.length ∧ Raw B w' cb go (five.set 2 (.int .i64 (c + 1))) v K' A (upd fr x.1 ((fr x.1).set 3 (.bool false))) P D ∧ Only (ownOf cb v K) w w' := by
  obtain ⟨g, cap, hv, _⟩ := h.q.slice (by omega)
  obtain ⟨hc2, hf2⟩ := h.clock hcl
  have n1 : IntKind.i64.wrap (c + 1) = c + 1 := IntWalk.i64_in _ (by omega)
  have hrow := h.q.buf i hi
  have hfl := h.q.frl _ (h.q.at hi)
  obtain ⟨u4, hc4⟩ := Row.has hrow (k := 4) (by rw [List.length_append, hfl]; simp)
  have hf4 := Row.free hrow 4 (by rw [List.length_append, hfl]; simp)
  have hne := (h.q.ids _ (h.q.at hi)).1
  have h1 := ((h.fives (k := 2) (by omega) (.int .i64 (c + 1))).usedK hi (c + 1) (by omega))
  have hxo : x.1 ∈ ownOf cb v K := own_id (hx ▸ h.q.at hi)
  have HO := Lib.hid (own_set (cb := cb) (v := v) (u := c + 1) hi)
  rw [hx] at hc4 hf4 hne h1 HO
  have hl : (K.set i (x.1, c + 1)).length = K.length := by simp
  have hxi : (K.set i (x.1, c + 1)).getD i (0, 0) = (x.1, c + 1) := by simp [List.getD, hi]
  have hmem : (x.1, c + 1) ∈ K.set i (x.1, c + 1) := List.mem_set hi _
  have q := Lib.hid (pin_stay (x.1, c + 1) h1 (List.mem_append.2 (.inl hmem)) false (fun e => by cases e) (fun _ => hmem))
  have HX := Lib.hid hxo
  have HG := Lib.hid (Heap.gap_set (i := i) hh (x.1, c + 1) (Nat.le_refl _))
  have HL := Lib.hid hl
  have HXI := Lib.hid hxi
  have HV := Lib.hid hv
  have i0 : (0 : Int) ≤ (i : Int) := by omega
  unfold ptr at *
  clear h1 h hrow hh hl hxo hx hmem hxi hv
  go_enter Try.func46, Try.ntmps46
  go_wp2_with fail
  refine q.out.mono ?_
  rintro e w2 ⟨rfl, hr, ho⟩
  have hc5 := hr.q.place (i := i) (by rw [HL.out]; exact hi)
  rw [HXI.out] at hc5
  have hd := hr.drew.q
  have q0 := fix_any (S := ownOf cb v (K.set i (x.1, c + 1))) HL.out.symm (HV.out ▸ hd) i hi HG.out (by rw [HV.out]; exact own_v g rfl) (fun y hy => own_id hy)
  rw [← HV.out] at q0
  have q2 := Lib.hid q0
  have HR := Lib.hid hr
  have ho2 : Only (ownOf cb v K) w w2 := ((Only.setCell w ⟨cb, 2, none⟩ _ List.mem_cons_self).trans (Only.setCell _ ⟨x.1, 4, none⟩ _ HX.out)).trans (ho.sub (fun k hk => by rw [List.mem_singleton.1 hk]; exact HX.out))
  have HO2 := Lib.hid ho2
  clear hr ho ho2 q q0 hd
  unfold ifq at q2
  dsimp only at hc5
  go_wp2_with fail
  refine wp_region_still_tail 8 (by kernel_rfl) (by kernel_rfl) ?_
  simp only [List.take_succ_cons, List.take_zero, List.drop_succ_cons, List.drop_zero]
  repeat still_step
  refine wpStill_nil ?_
  change wpList _ _ _ _ _ w2.drew
  go_wp2_with fail
  refine q2.out.mono ?_
  rintro e w3 ⟨rfl, K', hq, hh⟩
  have hl' : K'.length = K.length := by rw [hq.len, HL.out]
  have ho := hq.only
  rw [HO.out] at ho
  have HE := Lib.hid (And.intro hq.perm (And.intro (hl'.symm ▸ hh) (And.intro (HR.out.drew.fix (fun k hk => hk) hq) ((HO2.out.trans (Only.drew' w2)).trans ho))))
  clear hq hh hl' ho q2 HR
  go_wp2_with fail
  go_end0
  exact ⟨rfl, K', HE.out⟩
set_option maxRecDepth 100000 in
set_option maxHeartbeats 4000000 in
theorem use_put (x : Nat × Int) (h : Raw B w cb go five v K (x :: A) fr P D) (hh : Heap.Heap K K.length) (hl : K.length < 256) (c : Int) (hcl : five[2]? = some (.int .i64 c)) (hc0 : 0 ≤ c ∧ c < 1000000000000) :
    Calls Try.prog 46 #[.pointer (some ⟨cb, 0, none⟩), ptr x.1, .bool false] w fun e w' => e = .returned (.tuple #[]) ∧ ∃ v' K', K'.Perm (K ++ [(x.1, c + 1)]) ∧ Heap.Heap K' K'.length ∧ Raw B w' cb go (five.set 2 (.int .i64 (c + 1))) v' K' A (upd fr x.1 ((fr x.1).set 3 (.bool false))) P D ∧ Only (ownOf cb v (K ++ [x])) w w' := by
  obtain ⟨hc2, hf2⟩ := h.clock hcl
  have n1 : IntKind.i64.wrap (c + 1) = c + 1 := IntWalk.i64_in _ (by omega)
  have hrow := h.al x List.mem_cons_self
  have hfl := h.afl x List.mem_cons_self
  obtain ⟨u4, hc4⟩ := Row.has hrow (k := 4) (by rw [List.length_append, hfl]; simp)
  have hf4 := Row.free hrow 4 (by rw [List.length_append, hfl]; simp)
  have hne := (h.aid x List.mem_cons_self).1
  have h1 := ((h.fives (k := 2) (by omega) (.int .i64 (c + 1))).usedA (c + 1) (by omega))
  have q := Lib.hid (pin_put (x.1, c + 1) h1 hl hh)
  have hoo : ownOf cb v (K ++ [(x.1, c + 1)]) = ownOf cb v (K ++ [x]) := by simp [ownOf, ids]
  have HO := Lib.hid hoo
  have hlt := Lib.hid (fun j hj => hj : ∀ j, j < w.heap.size → j < w.heap.size)
  unfold ptr at *
  clear h1 h hrow hh hoo
  go_enter Try.func46, Try.ntmps46
  go_wp2_with fail
  refine q.out.mono ?_
  rintro e w2 ⟨rfl, g, cap, K', hp, hh, hr, ho, hfr⟩
  obtain ⟨j, hj, hjx⟩ := at_of (hp.mem_iff.2 (List.mem_append.2 (.inr (List.mem_singleton.2 rfl))))
  have hc5 := hr.q.place hj
  rw [hjx] at hc5
  have j0 : (0 : Int) ≤ (j : Int) := by omega
  have q2 := Lib.hid (fix_any (S := ownOf cb (.slice (some ⟨g, 0, none⟩) K'.length cap) K') rfl hr.drew.q j hj (Heap.heap_gap hh) (own_v g rfl) (fun y hy => own_id hy))
  have HR := Lib.hid hr
  have HP := Lib.hid hp
  have hxo : x.1 ∈ ownOf cb v (K ++ [x]) := own_id (List.mem_append.2 (.inr (List.mem_singleton.2 rfl)))
  have ho2 : Only (ownOf cb v (K ++ [x])) w w2 := by
    rw [HO.out] at ho
    exact ((Only.setCell w ⟨cb, 2, none⟩ _ List.mem_cons_self).trans (Only.setCell _ ⟨x.1, 4, none⟩ _ hxo)).trans ho
  have hsz : w.heap.size ≤ ((w.setCell ⟨cb, 2, none⟩ (.int .i64 (c + 1))).setCell ⟨x.1, 4, none⟩ (.int .i64 (c + 1))).heap.size := by simp
  have hgs : g ∈ ownOf cb v (K ++ [x]) ∨ w.heap.size ≤ g := hfr.elim (fun h1 => .inl (own_v g h1)) (fun h1 => .inr (Nat.le_trans hsz h1))
  have hsub : ∀ k ∈ ownOf cb (.slice (some ⟨g, 0, none⟩) K'.length cap) K', k ∈ g :: ownOf cb v (K ++ [x]) := fun k hk => by
    rcases List.mem_cons.1 hk with e | hk
    · rw [e]; exact List.mem_cons_of_mem _ List.mem_cons_self
    · rcases List.mem_append.1 hk with hk | hk
      · have e2 : k = g := by simpa [Value.ownBlock] using hk
        rw [e2]; exact List.mem_cons_self
      · obtain ⟨y, hy, e⟩ := mem_ids.1 hk
        rcases List.mem_append.1 (hp.mem_iff.1 hy) with h5 | h5
        · rw [← e]; exact List.mem_cons_of_mem _ (own_id (List.mem_append.2 (.inl h5)))
        · rw [← e, List.mem_singleton.1 h5]; exact List.mem_cons_of_mem _ hxo
  have HO2 := Lib.hid ho2
  have HGS := Lib.hid hgs
  have HSUB := Lib.hid hsub
  clear hr ho ho2 q hp hh hxo hj hjx hgs hsz hsub hfr
  unfold ifq at q2
  dsimp only at hc5
  go_wp2_with fail
  refine wp_region_still_tail 8 (by kernel_rfl) (by kernel_rfl) ?_
  simp only [List.take_succ_cons, List.take_zero, List.drop_succ_cons, List.drop_zero]
  repeat still_step
  refine wpStill_nil ?_
  change wpList _ _ _ _ _ w2.drew
  go_wp2_with fail
  refine q2.out.mono ?_
  rintro e w3 ⟨rfl, K3, hq, hh⟩
  have hl' : K3.length = K'.length := hq.len
  have HE : K3.Perm (K ++ [(x.1, c + 1)]) ∧ Heap.Heap K3 K3.length ∧ Raw B w3 cb go (five.set 2 (.int .i64 (c + 1))) (.slice (some ⟨g, 0, none⟩) K'.length cap) K3 A (upd fr x.1 ((fr x.1).set 3 (.bool false))) P D ∧ Only (ownOf cb v (K ++ [x])) w w3 := ⟨hq.perm.trans HP.out, hl'.symm ▸ hh, HR.out.drew.fix (fun k hk => hk) hq, HO2.out.fresh ((Only.drew' w2).trans (hq.only.sub HSUB.out)) HGS.out⟩
  have HE := Lib.hid HE
  clear hq hh hl' q2 HR
  go_wp2_with fail
  go_end0
  exact ⟨rfl, _, K3, HE.out⟩

end Go.Proofs.Ytlickjaopbcanaa

namespace Go.Proofs.Ytlickjaopbcanaa
open Go Go.RowKit
variable {B cb go : Nat} {w w' : World} {five : List Value} {v : Value} {K A : Heap.KL} {fr : Nat → List Value} {P : List Value} {D : List Nat}

theorem Raw.cellF (h : Raw B w cb go five v K A fr P D) {k : Nat} {u : Value} (hc : five[k]? = some u) : w.cell? ⟨cb, k, none⟩ = some u ∧ w.frozen? ⟨cb, k, none⟩ = false := by
  have hl := h.q.fl
  have hk : k < five.length := by
    rcases Nat.lt_or_ge k five.length with h1 | h1
    · exact h1
    · rw [List.getElem?_eq_none h1] at hc; cases hc
  exact ⟨h.q.cells.cellAt k (by rw [List.getElem?_append_left hk]; exact hc), h.q.cells.free k (by rw [List.length_append]; omega)⟩
/-- A buffer's row, wherever it is. -/
theorem Raw.buffer (h : Raw B w cb go five v K A fr P D) {x : Nat × Int} (hx : x ∈ K ++ A) : ∃ a : Int, Row w x.1 88 (fr x.1 ++ [.int .i64 x.2, .int .i64 a]) ∧ (fr x.1).length = 4 := by
  rcases List.mem_append.1 hx with h1 | h1
  · obtain ⟨j, hj, e⟩ := Go.Proofs.Ytlickjaopbcanaa.at_of h1
    have r := h.q.buf j hj
    rw [e] at r
    exact ⟨_, r, h.q.frl x h1⟩
  · exact ⟨_, h.al x h1, h.afl x h1⟩
theorem Raw.cellB (h : Raw B w cb go five v K A fr P D) {x : Nat × Int} (hx : x ∈ K ++ A) {k : Nat} {u : Value} (hc : (fr x.1)[k]? = some u) : w.cell? ⟨x.1, k, none⟩ = some u ∧ w.frozen? ⟨x.1, k, none⟩ = false := by
  obtain ⟨a, r, hl⟩ := h.buffer hx
  have hk : k < (fr x.1).length := by
    rcases Nat.lt_or_ge k (fr x.1).length with h1 | h1
    · exact h1
    · rw [List.getElem?_eq_none h1] at hc; cases hc
  exact ⟨r.cellAt k (by rw [List.getElem?_append_left hk]; exact hc), r.free k (by rw [List.length_append]; omega)⟩
set_option maxRecDepth 100000 in
set_option maxHeartbeats 4000000 in
theorem drop_rem (h : Raw B w cb go five v K A fr P D) (hh : Heap.Heap K K.length) (i : Nat) (hi : i < K.length) (x : Nat × Int) (hx : K.getD i (0, 0) = x) (b : Nat) (n' cap' : Nat) (m : Int) (hb : (fr x.1)[0]? = some (.int .i64 b)) (hP : b < P.length) (hPn : P.length = n') (_hn4 : n' ≤ 4096) (hf3 : five[3]? = some (.slice (some ⟨go, 0, none⟩) n' cap')) (hf4 : five[4]? = some (.int .i64 m)) (hm : 0 < m ∧ m ≤ 1000000) :
    Calls Try.prog 51 #[.pointer (some ⟨cb, 0, none⟩), ptr x.1] w fun e w' => e = .returned (.tuple #[]) ∧ ∃ v' K', K.Perm (x :: K') ∧ Heap.Heap K' K'.length ∧ Raw B w' cb go (five.set 4 (.int .i64 (m - 1))) v' K' A fr (P.set b (.pointer none)) D ∧ Only (go :: ownOf cb v K) w w' := by
  obtain ⟨g, cap, hv, _⟩ := h.q.slice (by omega)
  have hc5 := h.q.place hi
  have h0 := hv ▸ h.drew
  have q0 := remove_any (S := ownOf cb v K) (N := K.length) (n := K.length - 1) rfl (by omega) h0.q i hi (Heap.heap_gap hh) (by rw [hv]; exact own_v g rfl) List.mem_cons_self (fun y hy => own_id hy)
  rw [hx] at hc5 q0
  have q := Lib.hid q0
  have HH := Lib.hid h.drew
  have HV := Lib.hid hv
  have i0 : (0 : Int) ≤ (i : Int) := by omega
  have m1 : IntKind.i64.wrap (m - 1) = m - 1 := IntWalk.i64_in _ (by omega)
  have b0 : ¬ (b : Int) < 0 := by omega
  have b1 : (b : Int) < (n' : Int) := by omega
  have b2 : b < n' := by omega
  clear q0 h0 h hh hx hv
  unfold ifq at q
  unfold ptr at *
  go_enter Try.func51, Try.ntmps51
  go_wp2_with fail
  refine wp_region_still_tail 8 (by kernel_rfl) (by kernel_rfl) ?_
  simp only [List.take_succ_cons, List.take_zero, List.drop_succ_cons, List.drop_zero]
  repeat still_step
  refine wpStill_nil ?_
  change wpList _ _ _ _ _ w.drew
  go_wp2_with fail
  refine q.out.mono ?_
  rintro e w2 ⟨rfl, K', hr⟩
  have hw2 := HH.out.rem (by rw [HV.out]; rfl) hr
  have hxm : x ∈ K' ++ x :: A := List.mem_append.2 (.inr List.mem_cons_self)
  have c3 := (hw2.cellF hf3).1
  obtain ⟨c4, z4⟩ := hw2.cellF hf4
  have c0 := (hw2.cellB hxm hb).1
  obtain ⟨u, cg⟩ := Row.has hw2.of hP
  have zg := hw2.of.free b hP
  have hR := ((hw2.gone.at_of b (.pointer none)).fives (k := 4) (by omega) (.int .i64 (m - 1)))
  have HE := Lib.hid (And.intro hr.perm (And.intro hr.heap (And.intro hR ((((Only.drew' w).trans hr.only).sub (T := go :: ownOf cb v K) (fun k hk => List.mem_cons_of_mem _ hk)).trans ((Only.setCell w2 ⟨go, b, none⟩ (.pointer none) List.mem_cons_self).trans (Only.setCell _ ⟨cb, 4, none⟩ (.int .i64 (m - 1)) (List.mem_cons_of_mem _ List.mem_cons_self)))))))
  have hgc := hw2.gocb
  clear hr hw2 hxm q HH hR hc5
  go_wp2_with fail
  go_region
  go_wp2_with fail
  go_end0
  exact ⟨rfl, _, K', HE.out.1, HE.out.2.1, HE.out.2.2.1.drew, HE.out.2.2.2.drew⟩
set_option maxRecDepth 100000 in
set_option maxHeartbeats 4000000 in
theorem drop_out (x : Nat × Int) (h : Raw B w cb go five v K (x :: A) fr P D) (b : Nat) (n' cap' : Nat) (m : Int) (hb : (fr x.1)[0]? = some (.int .i64 b)) (hP : b < P.length) (hPn : P.length = n') (_hn4 : n' ≤ 4096) (hf3 : five[3]? = some (.slice (some ⟨go, 0, none⟩) n' cap')) (hf4 : five[4]? = some (.int .i64 m)) (hm : 0 < m ∧ m ≤ 1000000) :
    Calls Try.prog 51 #[.pointer (some ⟨cb, 0, none⟩), ptr x.1] w fun e w' => e = .returned (.tuple #[]) ∧ Raw B w' cb go (five.set 4 (.int .i64 (m - 1))) v K A fr (P.set b (.pointer none)) D ∧ Only [cb, go] w w' := by
  have hc5 := Alone.c5 (h.al x List.mem_cons_self) (h.afl x List.mem_cons_self)
  have hxm : x ∈ K ++ x :: A := List.mem_append.2 (.inr List.mem_cons_self)
  have c3 := (h.cellF hf3).1
  obtain ⟨c4, z4⟩ := h.cellF hf4
  have c0 := (h.cellB hxm hb).1
  obtain ⟨u, cg⟩ := Row.has h.of hP
  have zg := h.of.free b hP
  have hR := ((h.gone.at_of b (.pointer none)).fives (k := 4) (by omega) (.int .i64 (m - 1)))
  have HE := Lib.hid (And.intro hR ((Only.setCell (S := [cb, go]) w ⟨go, b, none⟩ (.pointer none) (by simp)).trans (Only.setCell _ ⟨cb, 4, none⟩ (.int .i64 (m - 1)) (by simp))))
  have hgc := h.gocb
  have m1 : IntKind.i64.wrap (m - 1) = m - 1 := IntWalk.i64_in _ (by omega)
  have b0 : ¬ (b : Int) < 0 := by omega
  have b1 : (b : Int) < (n' : Int) := by omega
  have b2 : b < n' := by omega
  clear h hR hxm
  unfold ptr at *
  go_enter Try.func51, Try.ntmps51
  go_wp2_with fail
  go_region
  go_wp2_with fail
  go_end0
  exact ⟨rfl, HE.out.1.drew, HE.out.2.drew⟩

end Go.Proofs.Ytlickjaopbcanaa
