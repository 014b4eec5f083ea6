/- Lists of runs: slices.SortFunc by where they begin. -/
import Derived.Test.YtgjmeeiejcbjfaaGreatH11
import Derived.Test.YtgjmeeiejcbjfaaGreatH04
import Derived.Lib.OwnBridge
import Derived.Shelf.SlSortCmp.NoneTotal
set_option linter.unusedSimpArgs false
set_option linter.unusedVariables false
namespace Go.Proofs.YtgjmeeiejcbjfaaGreat
open Go Go.Shelf Go.RowKit Go.Lib Go.Sort
def encR (x : Int × Int) : List Value := [.int .i64 x.1, .int .i64 x.2]
set_option maxHeartbeats 1000000 in
theorem closure_any (x y : Int × Int) (W : World) : Calls Tryz.prog 164 #[.agg #[.int .i64 x.1, .int .i64 x.2], .agg #[.int .i64 y.1, .int .i64 y.2]] W fun e w' => e = .returned (.int .i64 (Lib.compareInt x.1 y.1)) ∧ ∃ q os', w' = grow (W.drewN q) os' := by
 have hcon := fun W' => Tryz.cmp_Compare_int x.1 y.1 W'
 generalize Lib.compareInt x.1 y.1 = r at hcon ⊢
 go_enter Tryz.func164, Tryz.ntmps164
 go_wp2_with (go_at_call 165; refine (hcon _).mono ?_; rintro e w' ⟨rfl, rfl⟩)
 go_ret
 exact ⟨rfl, 0, _, by rw [alloc_eq_grow, alloc_eq_grow, grow_grow]; rfl⟩
theorem ltAt (x y : Int × Int) : ltOf (fun x y : Int × Int => Lib.compareInt x.1 y.1) x y = decide (x.1 < y.1) := by
 unfold ltOf Lib.compareInt
 by_cases h1 : x.1 < y.1
 ·simp [h1]
 ·by_cases h2 : y.1 < x.1 <;> simp [h1, h2]
theorem swoAt : SWO (ltOf fun x y : Int × Int => Lib.compareInt x.1 y.1) where
 irrefl x := by rw [ltAt]; simp
 trans x y z h1 h2 := by rw [ltAt] at *; simp at *; omega
 ntrans x y z h1 h2 := by rw [ltAt] at *; simp at *; omega
theorem sort_any (blk off cap : Nat) (d : Array (Int × Int)) (w : World) (hH : HoldsK encR 2 w blk off d) (hblk : blk < w.heap.size) (hsz : d.size < 4611686018427387904) :
  Calls Tryz.prog 163 #[.slice (some ⟨blk, off, none⟩) d.size cap, .func (.func 164) #[] #[]] w fun e w' => e = .returned (.tuple #[]) ∧ ∃ d' n os, PermIn 0 d.size d d' ∧ SortedIn (ltOf fun x y : Int × Int => Lib.compareInt x.1 y.1) 0 d.size d' ∧ w' = sortWorldK encR 2 w blk off n d' os := by
 have eg : ∀ args w, (callFunc 164 args).run Tryz.prog w = .ok (.enter 164 args) w := enters_of Tryz.func164 (by kernel_rfl) rfl
 exact AnyQ.slices_SortFunc Tryz.sortRun 2 Tryz.isAgg223 Tryz.sizeOf223 encR (fun _ => rfl) (fun x v hv => by simp [encR] at hv; rcases hv with rfl | rfl <;> rfl) (fun x y => Lib.compareInt x.1 y.1) swoAt 164 #[] blk off cap d w eg (fun _ _ _ _ x y => closure_any x y _) hH hblk hsz
theorem sortNone_any (ad : Option Addr) (cap : Nat) (f : Value) (w : World) : Calls Tryz.prog 163 #[.slice ad 0 cap, f] w fun e w' => e = .returned (.tuple #[]) ∧ w' = w := AnyF.slices_SortFunc_none Tryz.sortRun ad cap f w
theorem flat_rcells (l : RL) : flatK encR 2 l.toArray = (rcells l).toArray := by
 apply Array.ext
 ·simp [rcells_length]
 ·intro t h1 h2
  have ht : t < l.length * 2 := by simpa using h1
  have e := get_flatK encR 2 l.toArray t (by simpa using ht)
  rw [getElem!_pos _ t h1] at e
  rw [e]
  have hk : t / 2 < l.length := by omega
  have hr := rcells_at l (t / 2) hk
  have hd : l.toArray[t / 2]! = l.getD (t / 2) (0, 0) := by simp [List.getD, hk, getElem!_pos]
  rw [hd]
  have h3 : t < (rcells l).length := by rw [rcells_length]; exact ht
  show _ = (rcells l)[t]
  rcases Nat.mod_two_eq_zero_or_one t with h | h
  ·have : t / 2 * 2 = t := by omega
   rw [this, List.getElem?_eq_getElem h3] at hr
   rw [h, Option.some.inj hr.1]
   rfl
  ·have : t / 2 * 2 + 1 = t := by omega
   rw [this, List.getElem?_eq_getElem h3] at hr
   rw [h, Option.some.inj hr.2]
   rfl
theorem own_holds {B g cap : Nat} {w : World} {l : RL} (h : OwnRuns B w (.slice (some ⟨g, 0, none⟩) l.length cap) l) : HoldsK encR 2 w g 0 l.toArray := by
 unfold HoldsK
 rw [flat_rcells]
 intro j hj
 have hj' : j < (rcells l).length := by simpa using hj
 refine ⟨?_, ?_⟩
 ·rw [Nat.zero_add, own_cellAt2 h (List.getElem?_eq_getElem hj')]
  simp [getElem!_pos, hj']
 ·exact own_free2 h _
theorem own_sorted {B g cap q : Nat} {w : World} {l s : RL} {os : Array Obj} (h : OwnRuns B w (.slice (some ⟨g, 0, none⟩) l.length cap) l) (hs : s.length = l.length) : OwnRuns B (sortWorldK encR 2 w g 0 q s.toArray os) (.slice (some ⟨g, 0, none⟩) l.length cap) s := by
 unfold OwnRuns at h ⊢
 unfold sortWorldK putRowK
 rw [flat_rcells, hs]
 refine ⟨by rw [rcells_length, hs], ?_⟩
 rcases h.2 with ⟨e0, _⟩ | ⟨g', cap', cur, e0, hb, hg, hn, hm, hsz, ht⟩
 ·cases e0
 ·cases e0
  have hlt : g < w.heap.size := lt_of_block hg
  refine .inr ⟨g, cap, putCells id 0 (rcells s).toArray cur, rfl, hb, ?_, by omega, hm, by simpa [putCells] using hsz, ?_⟩
  ·have e1 : (putRow id (Sort.ahead w q) g 0 (rcells s).toArray).heap[g]? = some (.cells (putCells id 0 (rcells s).toArray cur) 223 (0, 0)) := by
    simp [putRow, mapBlock, Sort.ahead, Array.getElem?_modify, hg, onCells]
   show (_ ++ os)[g]? = _
   rw [Array.getElem?_append_left (lt_of_block e1)]
   exact e1
  ·have hl2 : (rcells s).length = l.length * 2 := by rw [rcells_length, hs]
   have hcur : l.length * 2 ≤ cur.size := by omega
   apply List.ext_getElem?
   intro j
   rw [List.getElem?_take, Array.getElem?_toList]
   by_cases hj : j < l.length * 2
   ·have hjc : j < cur.size := by omega
    simp only [if_pos hj, putCells, Array.getElem?_mapIdx, Array.getElem?_eq_getElem hjc, Option.map_some]
    rw [if_pos (by simp; omega), List.getElem?_eq_getElem (by omega)]
    simp [getElem!_pos, show j < (rcells s).length by omega]
   ·rw [if_neg hj, List.getElem?_eq_none (by omega)]
theorem below_sorted {B : Nat} {w : World} {g q : Nat} {d : Array (Int × Int)} {os : Array Obj} (hg : B ≤ g) (hB : B ≤ w.heap.size) : Go.RowKit.Below B w (sortWorldK encR 2 w g 0 q d os) := by
 have h := below_putRow (enc := id) (q := q) (d := flatK encR 2 d) (Go.RowKit.Below.refl B w) hg
 refine ⟨h.os, h.tape, h.output, Nat.le_trans h.size (by simp [sortWorldK, grow, putRowK]), fun k hk => ?_⟩
 rw [← h.block k hk]
 show ((putRow id (Sort.ahead w q) g 0 (flatK encR 2 d)).heap ++ os)[k]? = _
 rw [Array.getElem?_append_left (Nat.lt_of_lt_of_le (Nat.lt_of_lt_of_le hk hB) h.size)]
theorem sort_own (B : Nat) (g cap : Nat) (l : RL) (w : World) (h : OwnRuns B w (.slice (some ⟨g, 0, none⟩) l.length cap) l) (hl : l.length ≤ 1000000000) (hB : B ≤ w.heap.size) :
  Calls Tryz.prog 163 #[.slice (some ⟨g, 0, none⟩) l.length cap, .func (.func 164) #[] #[]] w fun e w' => e = .returned (.tuple #[]) ∧ ∃ s : RL, s.Perm l ∧ s.Pairwise (fun x y => x.1 ≤ y.1) ∧ OwnRuns B w' (.slice (some ⟨g, 0, none⟩) l.length cap) s ∧ Go.RowKit.Below B w w' := by
 have hgl : B ≤ g ∧ g < w.heap.size := by
  rcases h.2 with ⟨e0, _⟩ | ⟨g', cap', cur, e0, hb, hg, _⟩
  ·cases e0
  ·cases e0; exact ⟨hb, lt_of_block hg⟩
 refine (sort_any g 0 cap l.toArray w (own_holds h) hgl.2 (by simp; omega)).mono ?_
 rintro e w' ⟨rfl, d', n, os, hp, hs, rfl⟩
 obtain ⟨p1, p2, p3⟩ := hp
 have hsz : d'.size = l.length := by simpa using p1
 have hperm : d'.toList.Perm l := by
  have e1 : (d'.extract 0 l.toArray.size) = d' := by simp [← hsz]
  have e2 : (l.toArray.extract 0 l.toArray.size) = l.toArray := by simp
  rw [e1, e2] at p3
  exact p3
 refine ⟨rfl, d'.toList, hperm, ?_, ?_, below_sorted hgl.1 hB⟩
 ·rw [List.pairwise_iff_getElem]
  intro i j hi hj hij
  have := hs i j (Nat.zero_le _) hij (by simp at hj ⊢; omega)
  rw [ltAt] at this
  simp at hi hj
  rw [getElem!_pos d' i hi, getElem!_pos d' j hj] at this
  simp at this
  simpa using this
 ·have := own_sorted (q := n) (os := os) h (s := d'.toList) (by simpa using hsz)
  simpa using this
end Go.Proofs.YtgjmeeiejcbjfaaGreat
