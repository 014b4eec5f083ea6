/- Rows of exts: what the outright laws say, in plain lists. No program. -/
import Derived.Test.YtgpjldmndibalaaExtsAlive
import Derived.Test.YtgpjldmndibalaaRunsSets
namespace Go.Proofs.Ytgpjldmndibalaa
open Go Go.RowKit

theorem row_nil {r : RL} (hr : Runs.Row r) (h : ∀ i, ¬ Runs.mem r i) : r = [] :=
  Runs.row_eq _ _ hr trivial fun i => ⟨fun hi => absurd hi (h i), fun hi => absurd hi (Runs.mem_nil i)⟩
theorem meet_minus (a b : RL) : Runs.meetR b (Runs.minusR a b) = [] := by
  refine row_nil (meet_row _ _) (fun i hi => ?_)
  have := (meet_mem _ _ i).1 hi
  exact ((minus_mem _ _ i).1 this.2).2 this.1
/-- What stays and what is freed are what there was. -/
theorem union_freed {l out : EL} (hl : Exts.Row l) (ho : Exts.Row out) (hs : ∀ i, Exts.has out i → Exts.has l i) : unionR (Exts.blocksR out) (freedR l out) = Exts.blocksR l := by
  refine Runs.row_eq _ _ (union_row _ _) (Exts.blocks_row _) fun i => ?_
  unfold freedR
  rw [union_mem, minus_mem, Exts.blocks_mem hl, Exts.blocks_mem ho]
  constructor
  · rintro (h | h)
    · exact hs i h
    · exact h.1
  · intro h
    by_cases k : Exts.has out i
    · exact .inl k
    · exact .inr ⟨h, k⟩
theorem union_put {l : EL} (hl : Exts.Row l) {x : Exts.E} (hx : Exts.may x) :
    unionR (Exts.blocksR (Exts.changeR l x.1 (Exts.fin x) [x])) (freedR l (Exts.changeR l x.1 (Exts.fin x) [x])) = unionR (Exts.blocksR l) [(x.2.1, x.2.2)] := by
  refine Runs.row_eq _ _ (union_row _ _) (union_row _ _) fun i => ?_
  unfold freedR
  rw [union_mem, union_mem, minus_mem, Exts.blocks_mem hl, Exts.blocks_mem (Exts.put_row hl hx)]
  have hone : Runs.mem [(x.2.1, x.2.2)] i ↔ (x.2.1 ≤ i ∧ i < x.2.1 + x.2.2) := by
    rw [Runs.mem_cons]
    unfold Exts.may at hx
    simp only [Runs.mem_nil, or_false]
    unfold Runs.isIn Runs.may Runs.fin Runs.top
    dsimp only
    omega
  rw [hone]
  constructor
  · rintro (h | h)
    · rcases Exts.has_change h with h | ⟨y, hy, h'⟩
      · exact .inl h
      · obtain rfl := List.mem_singleton.1 hy
        exact .inr h'
    · exact .inl h.1
  · rintro (h | h)
    · by_cases k : Exts.has (Exts.changeR l x.1 (Exts.fin x) [x]) i
      · exact .inl k
      · exact .inr ⟨h, k⟩
    · exact .inl (Exts.has_put h)
theorem has_punch {l : EL} {a n i : Int} (h : Exts.has (Exts.punchR l a n) i) : Exts.has l i := by
  unfold Exts.punchR at h
  split at h
  · exact h
  · rcases Exts.has_change h with h | ⟨y, hy, _⟩
    · exact h
    · cases hy
theorem has_cut {l : EL} {a i : Int} (h : Exts.has (Exts.cutR l a) i) : Exts.has l i := by
  unfold Exts.cutR at h
  rcases Exts.has_change h with h | ⟨y, hy, _⟩
  · exact h
  · cases hy
theorem punch_row {l : EL} (hl : Exts.Row l) {a n : Int} (h : 0 ≤ a ∧ 0 ≤ n) : Exts.Row (Exts.punchR l a n) := by
  unfold Exts.punchR
  split
  · exact hl
  · exact Exts.gone_row hl _ _ h.1 (by omega)
theorem cut_row {l : EL} (hl : Exts.Row l) {a : Int} (h : 0 ≤ a) : Exts.Row (Exts.cutR l a) := Exts.gone_row hl _ _ (by omega) (by omega)
theorem blk_punch {l : EL} (hl : Exts.Row l) {a n : Int} (h : 0 ≤ n) (t : Int) : Exts.blk (Exts.punchR l a n) t = if a ≤ t ∧ t < a + n then none else Exts.blk l t := by
  unfold Exts.punchR
  split
  · rename_i h0
    rw [if_neg (by omega)]
  · rw [Exts.blk_change hl [] a (a + n) t (by omega) (fun y hy => by cases hy)]
    rfl
theorem blk_cut {l : EL} (hl : Exts.Row l) {a : Int} (h : 0 ≤ a) (t : Int) : Exts.blk (Exts.cutR l a) t = if a ≤ t then none else Exts.blk l t := by
  unfold Exts.cutR
  rw [Exts.blk_change hl [] _ _ t (by omega) (fun y hy => by cases hy)]
  by_cases h1 : a ≤ t
  · rw [if_pos h1]
    split
    · rfl
    · rename_i h2
      exact Exts.blk_low hl t (by omega)
  · rw [if_neg h1, if_neg (by omega)]
theorem find_blk {l : EL} (hl : Exts.Row l) (t : Int) : ∃ n, Exts.findR l t = ((Exts.blk l t).getD 0, n, (Exts.blk l t).isSome) := by
  unfold Exts.blk
  cases h : Exts.at_ l t with
  | none => exact ⟨0, Exts.findR_none (Exts.check_row.2 hl) h⟩
  | some r => exact ⟨r.2, Exts.findR_some (Exts.check_row.2 hl) (h.trans rfl)⟩
theorem put_yes {l : EL} {x : Exts.E} (h1 : Exts.okTo l l.length = true) (h2 : Exts.may x) : Exts.putOut l x = Exts.changeR l x.1 (Exts.fin x) [x] ∧ Exts.putFr l x = freedR l (Exts.changeR l x.1 (Exts.fin x) [x]) ∧ Exts.putE l x = 0 := by
  have e : Exts.puts l x = true := by unfold Exts.puts; rw [h1, decide_eq_true h2]; rfl
  unfold Exts.putOut Exts.putFr Exts.putE
  rw [e]
  exact ⟨rfl, rfl, rfl⟩
theorem put_no {l : EL} {x : Exts.E} (h : ¬ (Exts.okTo l l.length = true ∧ Exts.may x)) : Exts.putOut l x = [] ∧ Exts.putFr l x = [] ∧ Exts.putE l x = 2 := by
  have e : Exts.puts l x = false := by
    unfold Exts.puts
    cases h1 : Exts.okTo l l.length
    · rfl
    · rw [decide_eq_false (fun h2 => h ⟨h1, h2⟩)]; rfl
  unfold Exts.putOut Exts.putFr Exts.putE
  rw [e]
  exact ⟨rfl, rfl, rfl⟩
theorem punch_yes {l : EL} {a n : Int} (h1 : Exts.okTo l l.length = true) (h2 : 0 ≤ a ∧ 0 ≤ n ∧ a ≤ 2048 ∧ n ≤ 2048 - a) : Exts.punchOut l a n = Exts.punchR l a n ∧ Exts.punchFr l a n = freedR l (Exts.punchR l a n) ∧ Exts.punchE l a n = 0 := by
  have e : Exts.punches l a n = true := by unfold Exts.punches; rw [h1, decide_eq_true h2]; rfl
  unfold Exts.punchOut Exts.punchFr Exts.punchE
  rw [e]
  exact ⟨rfl, rfl, rfl⟩
theorem punch_no {l : EL} {a n : Int} (h : ¬ (Exts.okTo l l.length = true ∧ (0 ≤ a ∧ 0 ≤ n ∧ a ≤ 2048 ∧ n ≤ 2048 - a))) : Exts.punchOut l a n = [] ∧ Exts.punchFr l a n = [] ∧ Exts.punchE l a n = 2 := by
  have e : Exts.punches l a n = false := by
    unfold Exts.punches
    cases h1 : Exts.okTo l l.length
    · rfl
    · rw [decide_eq_false (fun h2 => h ⟨h1, h2⟩)]; rfl
  unfold Exts.punchOut Exts.punchFr Exts.punchE
  rw [e]
  exact ⟨rfl, rfl, rfl⟩
theorem cut_yes {l : EL} {a : Int} (h1 : Exts.okTo l l.length = true) (h2 : 0 ≤ a) : Exts.cutOut l a = Exts.cutR l a ∧ Exts.cutFr l a = freedR l (Exts.cutR l a) ∧ Exts.cutE l a = 0 := by
  have e : Exts.cuts l a = true := by unfold Exts.cuts; rw [h1, decide_eq_true h2]; rfl
  unfold Exts.cutOut Exts.cutFr Exts.cutE
  rw [e]
  exact ⟨rfl, rfl, rfl⟩
theorem cut_no {l : EL} {a : Int} (h : ¬ (Exts.okTo l l.length = true ∧ 0 ≤ a)) : Exts.cutOut l a = [] ∧ Exts.cutFr l a = [] ∧ Exts.cutE l a = 2 := by
  have e : Exts.cuts l a = false := by
    unfold Exts.cuts
    cases h1 : Exts.okTo l l.length
    · rfl
    · rw [decide_eq_false (fun h2 => h ⟨h1, h2⟩)]; rfl
  unfold Exts.cutOut Exts.cutFr Exts.cutE
  rw [e]
  exact ⟨rfl, rfl, rfl⟩
theorem okTo_one (x : Exts.E) : Exts.okTo [x] [x].length = decide (Exts.may x) := by
  show (Exts.okTo [x] 0 && decide (Exts.may ([x].getD 0 (0, 0, 0))) && (0 == 0 || _)) = _
  simp [Exts.okTo]
theorem punch_len (l : EL) (a n : Int) : (Exts.punchR l a n).length ≤ 2 * l.length := by
  unfold Exts.punchR
  split
  · omega
  · have := change_len l a (a + n) []; simpa using this
theorem cut_len (l : EL) (a : Int) : (Exts.cutR l a).length ≤ 2 * l.length := by
  have := change_len l (min a 2048) 2048 []
  unfold Exts.cutR
  simpa using this
theorem freed_len (l out : EL) : (freedR l out).length ≤ l.length + out.length + 1 := by
  unfold freedR
  have := minus_len (Exts.blocksR l) (Exts.blocksR out)
  have := eblocks_len l
  have := eblocks_len out
  omega
theorem freed_small (l out : EL) : Smalls (freedR l out) := Smalls.row (minus_row _ _)
theorem blocks_small (l : EL) : Smalls (Exts.blocksR l) := Smalls.row (Exts.blocks_row l)
theorem below_next {A B C : World} (h : Below A.heap.size A B) (h2 : Below B.heap.size B C) : Below A.heap.size A C := h.trans (h2.mono h.size)

end Go.Proofs.Ytgpjldmndibalaa
