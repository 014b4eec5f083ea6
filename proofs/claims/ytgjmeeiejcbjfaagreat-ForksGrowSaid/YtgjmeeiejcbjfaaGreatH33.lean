/- Forks: Lead's changes, by block. -/
import Derived.Test.YtgjmeeiejcbjfaaGreatH32
import Derived.Test.YtgjmeeiejcbjfaaGreatH11
import Derived.Test.YtgjmeeiejcbjfaaGreatH21
set_option linter.unusedSimpArgs false
set_option linter.unusedVariables false
namespace Go.Proofs.YtgjmeeiejcbjfaaGreat
open Go Go.Shelf Go.RowKit Go.Lib Go.Sort
abbrev FC := Fin 4096 × ByteArray
instance : Inhabited FC := ⟨(0, ⟨#[]⟩)⟩
def encC (x : FC) : List Value := [.int .i64 (x.1.val : Int), .string x.2]
def toC (l : List FC) : CL := l.map fun x => ((x.1.val : Int), x.2)
theorem toC_len (l : List FC) : (toC l).length = l.length := by simp [toC]
set_option maxHeartbeats 1000000 in
theorem closureC_any (x y : FC) (W : World) : Calls Tryz.prog 70 #[.agg #[.int .i64 (x.1.val : Int), .string x.2], .agg #[.int .i64 (y.1.val : Int), .string y.2]] W fun e w' => e = .returned (.int .i64 ((x.1.val : Int) - (y.1.val : Int))) ∧ ∃ q os', w' = grow (W.drewN q) os' := by
 have hx := x.1.isLt
 have hy := y.1.isLt
 have hsub : IntKind.i64.wrap ((x.1.val : Int) - (y.1.val : Int)) = (x.1.val : Int) - (y.1.val : Int) := IntWalk.i64_in _ (by omega)
 generalize x.1.val = a at *
 generalize y.1.val = b at *
 have x0 : ((W.alloc (.cells #[.int .i64 (a : Int), .string x.2] 72)).alloc (.cells #[.int .i64 (b : Int), .string y.2] 72)).cell? ⟨W.heap.size, 0, none⟩ = some (.int .i64 (a : Int)) := Lib.cell?_alloc_some _ (box_cell _ _ _ _)
 clear hx hy
 go_enter Tryz.func70, Tryz.ntmps70
 go_wp2_with fail
 go_ret
 exact ⟨rfl, 0, _, by rw [alloc_eq_grow, alloc_eq_grow, grow_grow]; rfl⟩
def cmpC (x y : FC) : Int := (x.1.val : Int) - (y.1.val : Int)
theorem ltC (x y : FC) : ltOf cmpC x y = decide (x.1.val < y.1.val) := by
 unfold ltOf cmpC
 by_cases h1 : x.1.val < y.1.val
 ·simp [h1]; omega
 ·simp [h1]; omega
theorem swoC : SWO (ltOf cmpC) where
 irrefl x := by rw [ltC]; simp
 trans x y z h1 h2 := by rw [ltC] at *; simp at *; omega
 ntrans x y z h1 h2 := by rw [ltC] at *; simp at *; omega
theorem sortC_any (blk off cap : Nat) (d : Array FC) (w : World) (hH : HoldsK encC 2 w blk off d) (hblk : blk < w.heap.size) (hsz : d.size < 4611686018427387904) :
  Calls Tryz.prog 69 #[.slice (some ⟨blk, off, none⟩) d.size cap, .func (.func 70) #[] #[]] w fun e w' => e = .returned (.tuple #[]) ∧ ∃ d' n os, PermIn 0 d.size d d' ∧ SortedIn (ltOf cmpC) 0 d.size d' ∧ w' = sortWorldK encC 2 w blk off n d' os := by
 have eg : ∀ args w, (callFunc 70 args).run Tryz.prog w = .ok (.enter 70 args) w := enters_of Tryz.func70 (by kernel_rfl) rfl
 exact AnyQ.slices_SortFunc Tryz.sortChange 2 Tryz.isAgg72 Tryz.sizeOf72 encC (fun _ => rfl) (fun x v hv => by simp [encC] at hv; rcases hv with rfl | rfl <;> rfl) cmpC swoC 70 #[] blk off cap d w eg (fun _ _ _ _ x y => closureC_any x y _) hH hblk hsz
theorem ccells_fc (l : List FC) (i : Nat) (h : i < l.length) : (ccells (toC l))[i * 2]? = some (.int .i64 ((l.getD i default).1.val : Int)) ∧ (ccells (toC l))[i * 2 + 1]? = some (.string (l.getD i default).2) := by
 have := ccells_at (toC l) i (by rw [toC_len]; exact h)
 have e : (toC l).getD i (0, ⟨#[]⟩) = (((l.getD i default).1.val : Int), (l.getD i default).2) := by simp [toC, List.getD, h]
 rw [e] at this
 exact this
theorem flat_ccells (l : List FC) : flatK encC 2 l.toArray = (ccells (toC l)).toArray := by
 apply Array.ext
 ·simp [ccells_length, toC_len]
 ·intro t h1 h2
  have ht : t < l.length * 2 := by simpa using h1
  have e := get_flatK encC 2 l.toArray t (by simpa using ht)
  rw [getElem!_pos _ t h1] at e
  rw [e]
  have hk : t / 2 < l.length := by omega
  have hr := ccells_fc l (t / 2) hk
  have hd : l.toArray[t / 2]! = l.getD (t / 2) default := by simp [List.getD, hk, getElem!_pos]
  rw [hd]
  have h3 : t < (ccells (toC l)).length := by rw [ccells_length, toC_len]; exact ht
  show _ = (ccells (toC l))[t]
  rcases Nat.mod_two_eq_zero_or_one t with h | h
  ·have : t / 2 * 2 = t := by omega
   rw [this, List.getElem?_eq_getElem h3] at hr
   rw [h, Option.some.inj hr.1]
   rfl
  ·have : t / 2 * 2 + 1 = t := by omega
   rw [this, List.getElem?_eq_getElem h3] at hr
   rw [h, Option.some.inj hr.2]
   rfl
theorem ownC_cell {B g cap : Nat} {w : World} {l : CL} (h : OwnChgs B w (.slice (some ⟨g, 0, none⟩) l.length cap) l) {j : Nat} {u : Value} (hu : (ccells l)[j]? = some u) : w.cell? ⟨g, j, none⟩ = some u := own_cellK (show w.ownsRow B 72 2 _ l.length (ccells l) from h) hu
theorem ownC_holds {B g cap : Nat} {w : World} {l : List FC} (h : OwnChgs B w (.slice (some ⟨g, 0, none⟩) (toC l).length cap) (toC l)) : HoldsK encC 2 w g 0 l.toArray := by
 unfold HoldsK
 rw [flat_ccells]
 intro j hj
 have hj' : j < (ccells (toC l)).length := by simpa using hj
 refine ⟨?_, ?_⟩
 ·rw [Nat.zero_add, ownC_cell h (List.getElem?_eq_getElem hj')]
  simp [getElem!_pos, hj']
 ·exact own_freeK (show w.ownsRow B 72 2 _ (toC l).length (ccells (toC l)) from h) _
theorem ownC_sorted {B g cap q : Nat} {w : World} {l s : List FC} {os : Array Obj} (h : OwnChgs B w (.slice (some ⟨g, 0, none⟩) (toC l).length cap) (toC l)) (hs : s.length = l.length) : OwnChgs B (sortWorldK encC 2 w g 0 q s.toArray os) (.slice (some ⟨g, 0, none⟩) (toC l).length cap) (toC s) := by
 unfold OwnChgs at h ⊢
 unfold sortWorldK putRowK
 have hl : (toC s).length = (toC l).length := by rw [toC_len, toC_len, hs]
 rw [flat_ccells, hl]
 refine ⟨by rw [ccells_length, hl], ?_⟩
 rcases h.2 with ⟨e0, _⟩ | ⟨g', cap', cur, e0, hb, hg, hn, hm, hsz, ht⟩
 ·cases e0
 ·cases e0
  have hlt : g < w.heap.size := lt_of_block hg
  refine .inr ⟨g, cap, putCells id 0 (ccells (toC s)).toArray cur, rfl, hb, ?_, by omega, hm, by simpa [putCells] using hsz, ?_⟩
  ·have e1 : (putRow id (Sort.ahead w q) g 0 (ccells (toC s)).toArray).heap[g]? = some (.cells (putCells id 0 (ccells (toC s)).toArray cur) 72 (0, 0)) := by
    simp [putRow, mapBlock, Sort.ahead, Array.getElem?_modify, hg, onCells]
   show (_ ++ os)[g]? = _
   rw [Array.getElem?_append_left (lt_of_block e1)]
   exact e1
  ·have hl2 : (ccells (toC s)).length = (toC l).length * 2 := by rw [ccells_length, hl]
   have hcur : (toC l).length * 2 ≤ cur.size := by omega
   apply List.ext_getElem?
   intro j
   rw [List.getElem?_take, Array.getElem?_toList]
   by_cases hj : j < (toC l).length * 2
   ·have hjc : j < cur.size := by omega
    simp only [if_pos hj, putCells, Array.getElem?_mapIdx, Array.getElem?_eq_getElem hjc, Option.map_some]
    rw [if_pos (by simp; omega), List.getElem?_eq_getElem (by omega)]
    simp [getElem!_pos, show j < (ccells (toC s)).length by omega]
   ·rw [if_neg hj, List.getElem?_eq_none (by omega)]
theorem sorted_keep {w : World} {g q : Nat} {cur : Array Value} {T S : TypeId} {fr : Nat × Nat} {d : Array FC} {os : Array Obj} (hg : w.heap[g]? = some (.cells cur S fr)) (hT : T ≠ S) : KeepT T w (sortWorldK encC 2 w g 0 q d os) := by
 intro b cs fr' hb
 have hne : b ≠ g := fun e => by subst e; rw [hg] at hb; cases hb; exact hT rfl
 have h := below_putRow (enc := id) (q := q) (d := flatK encC 2 d) (Go.RowKit.Below.refl 0 w) (Nat.zero_le g)
 show ((putRow id (Sort.ahead w q) g 0 (flatK encC 2 d)).heap ++ os)[b]? = _
 have e : (putRow id (Sort.ahead w q) g 0 (flatK encC 2 d)).heap[b]? = w.heap[b]? := by
  simp [putRow, mapBlock, Sort.ahead, Array.getElem?_modify, Ne.symm hne]
 rw [Array.getElem?_append_left (lt_of_block (e.trans hb)), e]
 exact hb
theorem below_sortedC {B : Nat} {w : World} {g q : Nat} {d : Array FC} {os : Array Obj} (hg : B ≤ g) (hB : B ≤ w.heap.size) : Go.RowKit.Below B w (sortWorldK encC 2 w g 0 q d os) := by
 have h := below_putRow (enc := id) (q := q) (d := flatK encC 2 d) (Go.RowKit.Below.refl B w) hg
 refine ⟨h.os, h.tape, h.output, Nat.le_trans h.size (by simp [sortWorldK, grow, putRowK]), fun k hk => ?_⟩
 rw [← h.block k hk]
 show ((putRow id (Sort.ahead w q) g 0 (flatK encC 2 d)).heap ++ os)[k]? = _
 rw [Array.getElem?_append_left (Nat.lt_of_lt_of_le (Nat.lt_of_lt_of_le hk hB) h.size)]
theorem sortC_own (B : Nat) (g cap : Nat) (l : List FC) (w : World) (h : OwnChgs B w (.slice (some ⟨g, 0, none⟩) (toC l).length cap) (toC l)) (hl : l.length ≤ 1000000000) (hB : B ≤ w.heap.size) :
  Calls Tryz.prog 69 #[.slice (some ⟨g, 0, none⟩) (toC l).length cap, .func (.func 70) #[] #[]] w fun e w' => e = .returned (.tuple #[]) ∧ ∃ s : List FC, s.Perm l ∧ s.Pairwise (fun x y => x.1.val ≤ y.1.val) ∧ OwnChgs B w' (.slice (some ⟨g, 0, none⟩) (toC l).length cap) (toC s) ∧ Go.RowKit.Below B w w' ∧ ∀ T, T ≠ 72 → KeepT T w w' := by
 obtain ⟨cur0, hgb, hgl⟩ : ∃ cur0, w.heap[g]? = some (.cells cur0 72 (0, 0)) ∧ B ≤ g := by
  rcases h.2 with ⟨e0, _⟩ | ⟨g', cap', cur, e0, hb, hg, _⟩
  ·cases e0
  ·cases e0; exact ⟨_, hg, hb⟩
 have hq := sortC_any g 0 cap l.toArray w (ownC_holds h) (lt_of_block hgb) (by simp; omega)
 have e9 : l.toArray.size = (toC l).length := by rw [toC_len]; simp
 rw [e9] at hq
 refine hq.mono ?_
 rintro e w' ⟨rfl, d', n, os, hp, hs, rfl⟩
 obtain ⟨p1, p2, p3⟩ := hp
 have hsz : d'.size = l.length := by simpa using p1
 have hperm : d'.toList.Perm l := by
  have e1 : (d'.extract 0 (toC l).length) = d' := by rw [toC_len]; simp [← hsz]
  have e2 : (l.toArray.extract 0 (toC l).length) = l.toArray := by rw [toC_len]; simp
  rw [e1, e2] at p3
  exact p3
 refine ⟨rfl, d'.toList, hperm, ?_, ?_, below_sortedC hgl hB, fun T hT => sorted_keep hgb hT⟩
 ·rw [List.pairwise_iff_getElem]
  intro i j hi hj hij
  have := hs i j (Nat.zero_le _) hij (by rw [toC_len]; simp at hj ⊢; omega)
  rw [ltC] at this
  simp at hi hj
  rw [getElem!_pos d' i hi, getElem!_pos d' j hj] at this
  simp at this
  simpa using this
 ·have := ownC_sorted (q := n) (os := os) h (s := d'.toList) (by simpa using hsz)
  simpa using this
def Forks.leadSort (c : CL) (x : Int × ByteArray) : CL := match c with
 | [] => [x]
 | a :: _ => if a.1 < x.1 then [a, x] else [x, a]
theorem leadSort_len (c : CL) (h : c.length ≤ 1) (x : Int × ByteArray) : (Forks.leadSort c x).length = c.length + 1 := by
 match c, h with
 | [], _ => rfl
 | [a], _ =>
  show (if a.1 < x.1 then [a, x] else [x, a]).length = 2
  split <;> rfl
theorem lead_sorted (c : List FC) (x : FC) (hc : c.length ≤ 1) (hne : ∀ a ∈ c, a.1.val ≠ x.1.val) (s : List FC) (hp : s.Perm (c ++ [x])) (hs : s.Pairwise (fun x y => x.1.val ≤ y.1.val)) : toC s = Forks.leadSort (toC c) ((x.1.val : Int), x.2) := by
 match c, hc with
 | [], _ =>
  have : s = [x] := List.perm_singleton.1 hp
  rw [this]
  rfl
 | [a], _ =>
  have hx := hne a (by simp)
  have hl : s.length = 2 := hp.length_eq
  match s, hl with
  | [p, q], _ =>
   have hpq : p.1.val ≤ q.1.val := by simpa using hs
   have hcase : (p = a ∧ q = x) ∨ (p = x ∧ q = a) := by
    have h1 : p ∈ [a] ++ [x] := hp.subset (by simp)
    simp at h1
    rcases h1 with rfl | rfl
    ·left
     have := (List.perm_cons _).1 hp
     exact ⟨rfl, by simpa using this⟩
    ·right
     have h2 : [p, q].Perm [p, a] := hp.trans (List.Perm.swap _ _ _)
     have := (List.perm_cons _).1 h2
     exact ⟨rfl, by simpa using this⟩
   rcases hcase with ⟨rfl, rfl⟩ | ⟨rfl, rfl⟩
   ·show _ = if ((p.1.val : Int)) < (q.1.val : Int) then _ else _
    rw [if_pos (by omega)]
    rfl
   ·show _ = if ((q.1.val : Int)) < (p.1.val : Int) then _ else _
    rw [if_neg (by omega)]
    rfl
end Go.Proofs.YtgjmeeiejcbjfaaGreat
