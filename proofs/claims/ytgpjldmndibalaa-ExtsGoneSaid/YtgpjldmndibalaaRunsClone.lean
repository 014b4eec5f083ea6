/- Lists of runs: Clone, DeleteFunc. -/
import Derived.Test.YtgpjldmndibalaaRunsSmall
import Derived.Lib.SliceRun
namespace Go.Proofs.Ytgpjldmndibalaa
set_option linter.unusedVariables false
open Go Go.RowKit

theorem info_run : (Try.prog.info? 32).map (fun i => (i.zero, i.size, i.bytes)) = some (some (.agg #[.int .i64 0, .int .i64 0]), 2, 16) := by kernel_rfl
theorem rcells_one (l : RL) : ∀ u ∈ rcells l, u.oneCell' = true := by
  intro u hu
  simp only [rcells, List.mem_flatMap] at hu
  obtain ⟨x, _, hx⟩ := hu
  simp at hx
  rcases hx with rfl | rfl <;> rfl

/-- A new row of the call's own: its elements are the list's. -/
def OwnRuns (B : Nat) (w : World) (v : Value) (l : RL) : Prop := w.ownsRow B 32 2 v l.length (rcells l)
theorem OwnRuns.at {B : Nat} {w : World} {v : Value} {l : RL} (h : OwnRuns B w v l) : RunsAt w v l := RunsAt.own h

set_option maxHeartbeats 1000000 in
theorem clone_any (v : Value) (l : RL) (w : World) (h : RunsAt w v l) (hl : l.length ≤ 1000000000) : Calls Try.prog 50 #[v] w fun e w' => ∃ v', e = .returned v' ∧ OwnRuns w.heap.size w' v' l ∧ Below w.heap.size w w' := by
  obtain ⟨i0, hi0, hz0, hz1, hz2⟩ := info_parts info_run
  rcases h with ⟨rfl, rfl⟩ | ⟨b, off, cap, rfl, hc⟩
  · have hnil : ∀ w : World, (binOp .eql 26 (.slice none 0 0) (.slice none 0 0)).run Try.prog w = .ok (.bool true) w := fun w => Lib.run_eql_slice_nil (P := Try.prog) w 26 32 none 0 0 0 0 Try.underlying26
    go_enter Try.func50, Try.ntmps50
    go_wp2_with fail
    go_ret
    exact ⟨_, rfl, World.ownsRow_nil _ _ _ _, Below.refl _ _⟩
  · have hnil : ∀ w : World, (binOp .eql 26 (.slice (some ⟨b, off, none⟩) l.length cap) (.slice none 0 0)).run Try.prog w = .ok (.bool false) w := fun w => Lib.run_eql_slice_nil (P := Try.prog) w 26 32 (some ⟨b, off, none⟩) l.length cap 0 0 Try.underlying26
    have hnews : ∀ j u, (rcells l)[j]? = some u → (w.alloc (.cells #[] 32)).cell? ((⟨b, off, none⟩ : Addr).add j) = some u := fun j u hu => by
      have e1 : (⟨b, off, none⟩ : Addr).add j = ⟨b, off + j, none⟩ := by unfold Addr.add; split <;> simp_all
      rw [e1]
      have := hc j u hu
      exact Lib.cell?_alloc_some _ this
    have hown : (w.alloc (.cells #[] 32)).ownsRow w.heap.size 32 2 (.slice (some ⟨w.heap.size, 0, none⟩) 0 0) 0 [] := World.ownsRow_lit w #[] 0 (Nat.le_refl _) (Nat.zero_le _) rfl
    have hone := rcells_one l
    have hrl := rcells_length l
    have HH := Lib.hid hl
    clear hc
    go_enter Try.func50, Try.ntmps50
    go_wp2_with (first
      | (at_builtin; refine wpList_append_own _ rfl _ _ 26 rfl w.heap.size 32 i0 (.agg #[.int .i64 0, .int .i64 0]) 2 16 Try.underlying26 hi0 hz0 hz1 hz2 rfl (by decide) _ 0 _ rfl hown ⟨b, off, none⟩ l.length cap (rcells l) rfl hrl hnews hone (by have := HH.out; unfold maxLen; omega) (by have := HH.out; omega) (by simp) ?_))
    intro v' w1 hown1 hgrow _
    have hW : Hid (Below w.heap.size w w1) := Lib.hid (((Below.refl _ _).alloc (Nat.le_refl _) (.cells #[] 32)).grown hgrow (by simp) (fun k hk => by have := (hown.lt k hk).1; exact this))
    have hG : Hid (OwnRuns w.heap.size w1 v' l) := Lib.hid (by
      exact hown1)
    clear hown1 hgrow hown hnews
    go_wp2_with fail
    go_ret
    exact ⟨_, rfl, hG.out, hW.out⟩

/-- 'clear' of runs: the cells hold zeros. -/
theorem run_clear_runs {P : Program} (w : World) (t e ty : TypeId) (ht : P.underlying t = some (.slice e)) (hv : ∀ w, (zeroValue e).run P w = .ok (.agg #[.int .i64 0, .int .i64 0]) w) (b o n c : Nat) (hn : 0 < n)
    (hc : ∀ j, j < n * 2 → (w.cell? ⟨b, o + j, none⟩).isSome = true) (hf : ∀ j, j < n * 2 → w.frozen? ⟨b, o + j, none⟩ = false) :
    (Builtin.clear_ #[t] ty #[.slice (some ⟨b, o, none⟩) n c]).run P w = .ok (.tuple #[]) (w.setCells b o (List.replicate (n * 2) (.int .i64 0))) := by
  have hzc : (Builtin.zeroCells (Value.agg #[.int .i64 0, .int .i64 0]).cells n).toList = List.replicate (n * 2) (.int .i64 0) := by
    show (Builtin.zeroCells #[.int .i64 0, .int .i64 0] n).toList = _
    simp [Builtin.zeroCells]
    apply List.ext_getElem
    · simp
    · intro i h1 h2
      rcases Nat.mod_two_eq_zero_or_one i with h | h <;> simp [h]
  have hst := run_storeCells_cells (P := P) b o (List.replicate (n * 2) (.int .i64 0)) 0 w (by simpa using hc) (by simpa using hf) (by intro v hv'; rw [List.eq_of_mem_replicate hv']; rfl)
  simp only [Nat.add_zero] at hst
  obtain ⟨m, rfl⟩ : ∃ m, n = m + 1 := ⟨n - 1, by omega⟩
  simp [Builtin.clear_, run_underlying ht, hv, hzc, hst]

theorem rcells_set (l : RL) (i : Nat) (x : Int × Int) (h : i < l.length) : ((rcells l).set (i * 2) (.int .i64 x.1)).set (i * 2 + 1) (.int .i64 x.2) = rcells (l.set i x) := by
  induction l generalizing i with
  | nil => simp at h
  | cons r l ih =>
    have e : ∀ (r : Int × Int) (l : RL), rcells (r :: l) = .int .i64 r.1 :: .int .i64 r.2 :: rcells l := fun r l => by simp [rcells]
    cases i with
    | zero => rw [e]; simp [e]
    | succ i =>
      rw [e, show (i + 1) * 2 = i * 2 + 1 + 1 by omega]
      simp only [List.set_cons_succ]
      rw [ih i (by simpa using h), ← e]

/-- The list as the deleting goes on. -/
structure Del (p : Int × Int → Bool) (l R : RL) (i j : Nat) : Prop where
  len : R.length = l.length
  head : R.take i = (l.take j).filter p
  tail : R.drop j = l.drop j
  le : i ≤ j
theorem Del.skip {p : Int × Int → Bool} {l R : RL} {i j : Nat} (h : Del p l R i j) (hj : j < l.length) (hp : p (l.getD j (0, 0)) = false) : Del p l R i (j + 1) := by
  have e : l.getD j (0, 0) = l[j] := by simp [List.getD, hj]
  rw [e] at hp
  refine ⟨h.len, ?_, ?_, by have := h.le; omega⟩
  · rw [h.head, List.take_succ_eq_append_getElem hj, List.filter_append]
    simp [hp]
  · have := congrArg (List.drop 1) h.tail
    simpa [List.drop_drop] using this
theorem Del.keep {p : Int × Int → Bool} {l R : RL} {i j : Nat} (h : Del p l R i j) (hj : j < l.length) (hp : p (l.getD j (0, 0)) = true) : Del p l (R.set i (l.getD j (0, 0))) (i + 1) (j + 1) := by
  have e : l.getD j (0, 0) = l[j] := by simp [List.getD, hj]
  rw [e] at hp ⊢
  have hiR : i < R.length := by rw [h.len]; have := h.le; omega
  refine ⟨by rw [List.length_set]; exact h.len, ?_, ?_, by have := h.le; omega⟩
  · rw [List.take_succ_eq_append_getElem (by simpa using hiR), List.take_set_of_le (Nat.le_refl _), h.head, List.take_succ_eq_append_getElem hj, List.filter_append]
    simp [hp]
  · rw [List.drop_set_of_lt (by have := h.le; omega)]
    have := congrArg (List.drop 1) h.tail
    simpa [List.drop_drop] using this
theorem Del.at {p : Int × Int → Bool} {l R : RL} {i j : Nat} (h : Del p l R i j) (hj : j < l.length) : R.getD j (0, 0) = l.getD j (0, 0) := by
  have := congrArg (fun (x : RL) => x[0]?) h.tail
  simp only [List.getElem?_drop, Nat.add_zero] at this
  simp only [List.getD, this]

end Go.Proofs.Ytgpjldmndibalaa
