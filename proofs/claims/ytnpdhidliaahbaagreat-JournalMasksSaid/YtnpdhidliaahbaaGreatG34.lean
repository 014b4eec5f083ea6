/- Arrays inside a block: loaded and stored whole, wherever in it they lie. No program. -/
import Derived.Test.YtnpdhidliaahbaaGreatG02
set_option linter.unusedSimpArgs false
set_option linter.unusedVariables false
namespace Go.Proofs.YtnpdhidliaahbaaGreat
open Go Go.RowKit
section
variable {P : Program}
theorem run_loadVar_seg (w : World) (g off : Nat) (ty : TypeId) (cs : List Value) (d : TypeDesc) (h : ∀ j v, cs[j]? = some v → w.cell? ⟨g, off + j, none⟩ = some v)
    (hu : P.underlying ty = some d) (hd : (match d with | .struct _ | .array _ _ => true | _ => false) = true) (hi : (P.info? ty).map (·.size) = some cs.length) :
    (loadVar ty ⟨g, off, none⟩).run P w = .ok (.agg cs.toArray) w := by
  have hl : (loadCells ⟨g, off, none⟩ cs.length).run P w = .ok cs.toArray w :=
    run_loadCells_list (P := P) w ⟨g, off, none⟩ cs (fun j v hv => by
      have hadd : (⟨g, off, none⟩ : Addr).add j = ⟨g, off + j, none⟩ := by unfold Addr.add; split <;> simp_all
      rw [hadd]; exact h j v hv)
  cases hq : P.info? ty with
  | none => simp [hq] at hi
  | some i =>
    have hs : i.size = cs.length := by simpa [hq] using hi
    have hagg : (isAgg ty).run P w = .ok true w := by
      unfold isAgg
      rw [Sem.run_bind, run_underlying hu w]
      cases d <;> simp_all
    simp [loadVar, Sem.run_bind, hagg, sizeOf, typeInfo, hq, hs, hl]
theorem wp_load_seg {o : Oper} {a : Act} {w : World} {K : Act → World → Prop} {Q : Exit → Act → World → Prop} (ty : TypeId) (x : Operand) (ho : o.op = .load ty x)
    (g off : Nat) (hx : a.eval x = .pointer (some ⟨g, off, none⟩)) (cs : List Value) (d : TypeDesc) (hg : ∀ j v, cs[j]? = some v → w.cell? ⟨g, off + j, none⟩ = some v)
    (hu : P.underlying ty = some d) (hd : (match d with | .struct _ | .array _ _ => true | _ => false) = true) (hi : (P.info? ty).map (·.size) = some cs.length)
    (h : K (a.put o.dst (.agg cs.toArray)) w) : o.wp P a w K Q := by
  unfold Oper.wp execOp
  simp only [ho, hx, Instr.loadAt, Instr.sureAddr, Sem.run_bind, Sem.run_pure, Result.andThen_ok, run_loadVar_seg w g off ty cs d hg hu hd hi]
  exact h
theorem wpList_load_seg {ops : Array Oper} {rest : List Oper} {o : Oper} {a : Act} {w : World} {Q : Exit → Act → World → Prop} (hgd : o.guard = none) (ty : TypeId) (x : Operand) (ho : o.op = .load ty x)
    (g off : Nat) (hx : a.eval x = .pointer (some ⟨g, off, none⟩)) (cs : List Value) (d : TypeDesc) (hg : ∀ j v, cs[j]? = some v → w.cell? ⟨g, off + j, none⟩ = some v)
    (hu : P.underlying ty = some d) (hd : (match d with | .struct _ | .array _ _ => true | _ => false) = true) (hi : (P.info? ty).map (·.size) = some cs.length)
    (h : wpList P ops Q rest (a.put o.dst (.agg cs.toArray)) w) : wpList P ops Q (o :: rest) a w :=
  wpList_plain hgd fun _ hK => wp_load_seg ty x ho g off hx cs d hg hu hd hi (hK _ _ h)
theorem step_load_seg {ops : Array Oper} {o : Oper} {a : Act} {w : World} {K : Act → World → Prop} {Q : Exit → Act → World → Prop} {E : Prop} (hgd : o.guard = none) (ty : TypeId) (x : Operand) (ho : o.op = .load ty x)
    (g off : Nat) (hx : a.eval x = .pointer (some ⟨g, off, none⟩)) (cs : List Value) (d : TypeDesc) (hg : ∀ j v, cs[j]? = some v → w.cell? ⟨g, off + j, none⟩ = some v)
    (hu : P.underlying ty = some d) (hd : (match d with | .struct _ | .array _ _ => true | _ => false) = true) (hi : (P.info? ty).map (·.size) = some cs.length)
    (h : K (a.put o.dst (.agg cs.toArray)) w) : if Region.wanted o (yielded ops a.tmps) = true then Oper.wp P o a w K Q else E := by
  have hw : Region.wanted o (yielded ops a.tmps) = true := by simp [Region.wanted, hgd]
  rw [if_pos hw]
  exact wp_load_seg ty x ho g off hx cs d hg hu hd hi h
theorem exec_load_seg {o : Oper} {a : Act} {w : World} (ty : TypeId) (x : Operand) (ho : o.op = .load ty x)
    (g off : Nat) (hx : a.eval x = .pointer (some ⟨g, off, none⟩)) (cs : List Value) (d : TypeDesc) (hg : ∀ j v, cs[j]? = some v → w.cell? ⟨g, off + j, none⟩ = some v)
    (hu : P.underlying ty = some d) (hd : (match d with | .struct _ | .array _ _ => true | _ => false) = true) (hi : (P.info? ty).map (·.size) = some cs.length) :
    (execOp a.eval o).run P w = .ok (.value (.agg cs.toArray)) w := by
  unfold execOp
  simp only [ho, hx, Instr.loadAt, Instr.sureAddr, Sem.run_bind, Sem.run_pure, Result.andThen_ok, run_loadVar_seg w g off ty cs d hg hu hd hi]
theorem run_storeVar_seg (w : World) (g off : Nat) (ty : TypeId) (cs : List Value) (hi : (P.info? ty).map (·.size) = some cs.length) (hc : ∀ j, j < cs.length → (w.cell? ⟨g, off + j, none⟩).isSome = true)
    (hf : ∀ j, j < cs.length → w.frozen? ⟨g, off + j, none⟩ = false) (h1 : ∀ v ∈ cs, v.oneCell' = true) :
    (storeVar ty ⟨g, off, none⟩ (.agg cs.toArray)).run P w = .ok () (w.setCells g off cs) := by
  have := run_storeCells_cells (P := P) g off cs 0 w hc hf h1
  cases hq : P.info? ty with
  | none => simp [hq] at hi
  | some i =>
    have hs : cs.length = i.size := by simp [hq] at hi; omega
    simp [storeVar, sizeOf, typeInfo, hq, Value.cells, hs, this]
theorem wp_store_seg {o : Oper} {a : Act} {w : World} {K : Act → World → Prop} {Q : Exit → Act → World → Prop} (ty : TypeId) (x y : Operand) (ho : o.op = .store ty x y)
    (g off : Nat) (cs : List Value) (hx : a.eval x = .pointer (some ⟨g, off, none⟩)) (hy : a.eval y = .agg cs.toArray) (hi : (P.info? ty).map (·.size) = some cs.length) (hc : ∀ j, j < cs.length → (w.cell? ⟨g, off + j, none⟩).isSome = true)
    (hf : ∀ j, j < cs.length → w.frozen? ⟨g, off + j, none⟩ = false) (h1 : ∀ v ∈ cs, v.oneCell' = true)
    (h : K (a.put o.dst undef) (w.setCells g off cs)) : o.wp P a w K Q := by
  unfold Oper.wp execOp
  simp only [ho, hx, hy, Instr.storeAt, Instr.sureAddr, Sem.run_bind, Sem.run_pure, Result.andThen_ok, run_storeVar_seg w g off ty cs hi hc hf h1]
  exact h
theorem wpList_store_seg {ops : Array Oper} {rest : List Oper} {o : Oper} {a : Act} {w : World} {Q : Exit → Act → World → Prop} (hgd : o.guard = none) (ty : TypeId) (x y : Operand) (ho : o.op = .store ty x y)
    (g off : Nat) (cs : List Value) (hx : a.eval x = .pointer (some ⟨g, off, none⟩)) (hy : a.eval y = .agg cs.toArray) (hi : (P.info? ty).map (·.size) = some cs.length) (hc : ∀ j, j < cs.length → (w.cell? ⟨g, off + j, none⟩).isSome = true)
    (hf : ∀ j, j < cs.length → w.frozen? ⟨g, off + j, none⟩ = false) (h1 : ∀ v ∈ cs, v.oneCell' = true)
    (h : wpList P ops Q rest (a.put o.dst undef) (w.setCells g off cs)) : wpList P ops Q (o :: rest) a w :=
  wpList_plain hgd fun _ hK => wp_store_seg ty x y ho g off cs hx hy hi hc hf h1 (hK _ _ h)
theorem step_store_seg {ops : Array Oper} {o : Oper} {a : Act} {w : World} {K : Act → World → Prop} {Q : Exit → Act → World → Prop} {E : Prop} (hgd : o.guard = none) (ty : TypeId) (x y : Operand) (ho : o.op = .store ty x y)
    (g off : Nat) (cs : List Value) (hx : a.eval x = .pointer (some ⟨g, off, none⟩)) (hy : a.eval y = .agg cs.toArray) (hi : (P.info? ty).map (·.size) = some cs.length) (hc : ∀ j, j < cs.length → (w.cell? ⟨g, off + j, none⟩).isSome = true)
    (hf : ∀ j, j < cs.length → w.frozen? ⟨g, off + j, none⟩ = false) (h1 : ∀ v ∈ cs, v.oneCell' = true)
    (h : K (a.put o.dst undef) (w.setCells g off cs)) : if Region.wanted o (yielded ops a.tmps) = true then Oper.wp P o a w K Q else E := by
  have hw : Region.wanted o (yielded ops a.tmps) = true := by simp [Region.wanted, hgd]
  rw [if_pos hw]
  exact wp_store_seg ty x y ho g off cs hx hy hi hc hf h1 h
end
def setMany {α : Type} : List α → Nat → List α → List α
  | l, _, [] => l
  | l, o, v :: r => setMany (l.set o v) (o + 1) r
theorem setMany_length {α : Type} : ∀ (vs l : List α) (o : Nat), (setMany l o vs).length = l.length
  | [], _, _ => rfl
  | v :: r, l, o => by unfold setMany; rw [setMany_length r, List.length_set]
theorem setMany_mid {α : Type} : ∀ (vs old a c : List α), old.length = vs.length → setMany (a ++ (old ++ c)) a.length vs = a ++ (vs ++ c)
  | [], old, a, c, h => by
    obtain rfl : old = [] := List.length_eq_zero_iff.1 h
    rfl
  | v :: r, [], a, c, h => by cases h
  | v :: r, u :: old, a, c, h => by
    unfold setMany
    have e : (a ++ (u :: old ++ c)).set a.length v = (a ++ [v]) ++ (old ++ c) := by
      rw [List.set_append_right _ _ (Nat.le_refl _), Nat.sub_self]
      simp
    rw [e]
    have := setMany_mid r old (a ++ [v]) c (by simpa using h)
    rw [List.length_append] at this
    rw [show a.length + 1 = a.length + [v].length from rfl, this]
    simp
theorem Row.setCells {b : Nat} {E : TypeId} : ∀ (vs : List Value) (o : Nat) {w : World} {cs : List Value}, Row w b E cs → Row (w.setCells b o vs) b E (setMany cs o vs)
  | [], _, _, _, h => h
  | v :: r, o, w, cs, h => by
    unfold World.setCells setMany
    exact Row.setCells r (o + 1) (h.set o v)
theorem Row.setCellsOther {b g : Nat} {E : TypeId} (hg : g ≠ b) : ∀ (vs : List Value) (o : Nat) {w : World} {cs : List Value}, Row w b E cs → Row (w.setCells g o vs) b E cs
  | [], _, _, _, h => h
  | v :: r, o, w, cs, h => by
    unfold World.setCells
    exact Row.setCellsOther hg r (o + 1) (h.other hg v)
theorem Only.setCells {S : List Nat} {g : Nat} (hg : g ∈ S) : ∀ (vs : List Value) (o : Nat) (w : World), Only S w (w.setCells g o vs)
  | [], _, w => Only.refl S w
  | v :: r, o, w => by
    unfold World.setCells
    exact (Only.setCell w ⟨g, o, none⟩ v hg).trans (Only.setCells hg r (o + 1) _)
theorem setCells_size (g : Nat) : ∀ (vs : List Value) (o : Nat) (w : World), (w.setCells g o vs).heap.size = w.heap.size
  | [], _, w => rfl
  | v :: r, o, w => by
    unfold World.setCells
    rw [setCells_size g r]
    simp
/-- What lies in a block from a place on. -/
theorem Row.seg {w : World} {b : Nat} {E : TypeId} {a cs c : List Value} (h : Row w b E (a ++ (cs ++ c))) {off : Nat} (ho : off = a.length) : ∀ j v, cs[j]? = some v → w.cell? ⟨b, off + j, none⟩ = some v := by
  intro j v hv
  refine h.cellAt (off + j) ?_
  subst ho
  have hj := (List.getElem?_eq_some_iff.1 hv).1
  rw [List.getElem?_append_right (by omega), Nat.add_sub_cancel_left, List.getElem?_append_left hj]
  exact hv
theorem Row.segSome {w : World} {b : Nat} {E : TypeId} {cs : List Value} (h : Row w b E cs) {off n : Nat} (hn : off + n ≤ cs.length) : ∀ j, j < n → (w.cell? ⟨b, off + j, none⟩).isSome = true := by
  intro j hj
  rw [h.cell]
  simp
  omega
theorem Row.segFree {w : World} {b : Nat} {E : TypeId} {cs : List Value} (h : Row w b E cs) {off n : Nat} (hn : off + n ≤ cs.length) : ∀ j, j < n → w.frozen? ⟨b, off + j, none⟩ = false :=
  fun j hj => h.free (off + j) (by omega)
theorem bcells_one (l : List UInt8) : ∀ v ∈ bcells l, v.oneCell' = true := by
  intro v hv
  obtain ⟨x, _, rfl⟩ := List.mem_map.1 hv
  rfl
end Go.Proofs.YtnpdhidliaahbaaGreat
