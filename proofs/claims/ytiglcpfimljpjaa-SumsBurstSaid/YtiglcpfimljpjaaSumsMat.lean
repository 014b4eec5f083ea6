/- The sums' matrices: times and after. -/
import Derived.Test.YtiglcpfimljpjaaSumsWalks
import Derived.Deep.RegionHeld3
import Derived.Laws.CopyOwn
namespace Go.Proofs.Ytiglcpfimljpjaa
open Go Go.RowKit

/-! ### Matrices -/
/-- A matrix, as the model has it. -/
def mval (m : List W32) : Array Value := (m.map fun x => Value.int .u32 (u32 x)).toArray

theorem size_mval (m : List W32) : (mval m).size = m.length := by simp [mval]
theorem mval_at (m : List W32) (k : Nat) (h : k < m.length) : (mval m)[k]? = some (.int .u32 (u32 (m.getD k 0#32))) := by
  simp [mval, List.getD, h]

theorem bit_at (x : W32) (k : Nat) : bit0 (x >>> k) = x.getLsbD k := by
  unfold bit0; simp

set_option maxHeartbeats 400000 in
theorem times_any (m : List W32) (hm : m.length = 32) (x : W32) (w : World) :
    Calls Try.prog 20 #[.agg (mval m), .int .u32 (u32 x)] w fun e w' => e = .returned (.int .u32 (u32 (times m x))) ∧ Below w.heap.size w w' := by
  go_enter Try.func20, Try.ntmps20
  go_wp2
  go_loop [5, 7] (fun r i => ∃ k : Nat, k ≤ 32 ∧ i = .int .i64 k ∧ r = .int .u32 (u32 (timesTo m x k))) (fun _ i => 32 - (intOf i).toNat)
  case atStart => exact ⟨0, by omega, rfl, rfl⟩
  case round =>
    obtain ⟨k, hk, rfl, rfl⟩ := hrel
    by_cases hlt : k < 32
    · have hcell := mval_at m k (by omega)
      have hstep : Hid (timesTo m x (k + 1) = timesTo m x k ^^^ (if x.getLsbD k then m.getD k 0#32 else 0#32)) := rfl
      have hbit := bit_at x k
      generalize m.getD k 0#32 = c at *
      generalize timesTo m x k = y at *
      cases hx : x.getLsbD k
      all_goals
        rw [hx] at hbit hstep
        go_wp2
        go_round
        case rel => exact ⟨k + 1, by omega, by go_num, u32v (by rw [hstep.out]; simp)⟩
        case measure => simp [intOf]; omega
    · obtain rfl : k = 32 := by omega
      go_wp2
      go_ret
      exact ⟨rfl, (Below.refl _ _).alloc (Nat.le_refl _) _⟩

/-- A matrix behind another. -/
def after (m f : List W32) : List W32 := f.map (times m)
theorem after_length (m f : List W32) : (after m f).length = f.length := by simp [after]

def mlist (m : List W32) : List Value := m.map fun x => Value.int .u32 (u32 x)
/-- What 'after' has made of the first k. -/
def afterTo (m f : List W32) (k : Nat) : List W32 := (f.take k).map (times m) ++ List.replicate (32 - k) 0#32
theorem afterTo_length (m f : List W32) (k : Nat) (hf : f.length = 32) (hk : k ≤ 32) : (afterTo m f k).length = 32 := by
  simp [afterTo, hf]; omega
theorem afterTo_set (m f : List W32) (k : Nat) (hf : f.length = 32) (hk : k < 32) : (afterTo m f k).set k (times m (f.getD k 0#32)) = afterTo m f (k + 1) := by
  unfold afterTo
  have hl : ((f.take k).map (times m)).length = k := by simp; omega
  rw [List.set_append_right _ _ (by omega), hl, Nat.sub_self]
  have hr : List.replicate (32 - k) (0#32) = 0#32 :: List.replicate (32 - (k + 1)) (0#32) := by
    rw [← List.replicate_succ]; congr 1; omega
  rw [hr, List.set_cons_zero]
  have ht : f.take (k + 1) = f.take k ++ [f.getD k 0#32] := by
    rw [List.take_succ_eq_append_getElem (by omega)]; simp [List.getD, show k < f.length by omega]
  rw [ht]; simp

theorem afterTo_all (m f : List W32) (hf : f.length = 32) : afterTo m f 32 = after m f := by
  unfold afterTo after; rw [List.take_of_length_le (by omega)]; simp
/-- A block that holds a matrix. -/
def Holds (w : World) (b : Nat) (m : List W32) : Prop := w.heap[b]? = some (.cells (mval m) 41 (0, 0))
theorem Holds.range {w : World} {b : Nat} {m : List W32} (h : Holds w b m) : w.rangeAt b 0 (mlist m) := fun j v hv => by
  rw [cell_of_row w b (0 + j) _ _ _ h, Nat.zero_add]
  simpa [mval, mlist] using hv
theorem Holds.cell {w : World} {b : Nat} {m : List W32} (h : Holds w b m) (k : Nat) (hk : k < m.length) : w.cell? ⟨b, k, none⟩ = some (.int .u32 (u32 (m.getD k 0#32))) := by
  rw [cell_of_row w b k _ _ _ h, mval_at m k hk]
theorem Holds.free {w : World} {b : Nat} {m : List W32} (h : Holds w b m) (k : Nat) : w.frozen? ⟨b, k, none⟩ = false := by
  unfold Holds at h; simp [World.frozen?, h]
theorem Holds.set {w : World} {b : Nat} {m : List W32} (h : Holds w b m) (k : Nat) (x : W32) : Holds (w.setCell ⟨b, k, none⟩ (.int .u32 (u32 x))) b (m.set k x) := by
  unfold Holds at *
  have hlt := lt_of_block h
  have h' : w.heap[b] = .cells (mval m) 41 (0, 0) := by simpa [Array.getElem?_eq_getElem hlt] using h
  show (w.heap.modify b _)[b]? = _
  rw [Array.getElem?_eq_getElem (by simpa using hlt), Array.getElem_modify_self, h']
  simp [mval, List.map_set]
theorem Holds.other {w : World} {b : Nat} {m : List W32} (h : Holds w b m) {a : Addr} (ha : a.block ≠ b) (v : Value) : Holds (w.setCell a v) b m := by
  unfold Holds at *; rw [Below.heap_setCell _ _ _ _ (Ne.symm ha)]; exact h
theorem Holds.below {w w' : World} {b B : Nat} {m : List W32} (h : Holds w b m) (hb : Below B w w') (hB : b < B) : Holds w' b m := by
  unfold Holds at *; rw [hb.block b hB]; exact h
theorem Holds.drew {w : World} {b : Nat} {m : List W32} (h : Holds w b m) : Holds w.drew b m := h

theorem Holds.new (w : World) (m : List W32) : Holds (w.alloc (.cells (mval m) 41)) w.heap.size m := heap_alloc_new w _
theorem Holds.new' (w : World) (m : List W32) {b : Nat} (hb : b = w.heap.size) : Holds (w.alloc (.cells (mval m) 41)) b m := by subst hb; exact heap_alloc_new w _
theorem Holds.alloc {w : World} {b : Nat} {m : List W32} (h : Holds w b m) (o : Obj) : Holds (w.alloc o) b m := by
  unfold Holds at *; rw [Below.heap_alloc _ _ _ (lt_of_block h)]; exact h
def zeros : List W32 := List.replicate 32 0#32
theorem afterTo_zero (m f : List W32) : afterTo m f 0 = zeros := rfl
theorem mval_one (m : List W32) : (mval m).all (·.oneCell') = true := by
  simp [mval, Value.oneCell']

set_option maxHeartbeats 1000000 in
theorem after_any (m f : List W32) (hm : m.length = 32) (hf : f.length = 32) (w : World) :
    Calls Try.prog 19 #[.agg (mval m), .agg (mval f)] w fun e w' => e = .returned (.agg (mval (after m f))) ∧ Below w.heap.size w w' := by
  have hu := Try.underlying41
  have hi : (Try.prog.info? 41).map (·.size) = some (mlist m).length := by
    rw [show (mlist m).length = 32 from by simp [mlist, hm]]; kernel_rfl
  go_enter Try.func19, Try.ntmps19
  go_wp2
  go_loopw [7] (fun i wr => ∃ k : Nat, k ≤ 32 ∧ i = .int .i64 k ∧ Holds wr w.heap.size m ∧ Holds wr (w.heap.size + 1) f ∧ Holds wr (w.heap.size + 1 + 1 + 1) (afterTo m f k) ∧ (∃ z, z.length = 32 ∧ Holds wr (w.heap.size + 1 + 1) z) ∧ w.heap.size + 1 + 1 + 1 < wr.heap.size ∧ Below w.heap.size w wr) (fun i _ => 32 - (intOf i).toNat)
  case atStart =>
    exact ⟨0, by omega, rfl, (((Holds.new w m).alloc _).alloc _).alloc _, ((Holds.new' _ f (by simp)).alloc _).alloc _, by rw [afterTo_zero]; exact Holds.new' _ zeros (by simp),
      ⟨zeros, rfl, (Holds.new' _ zeros (by simp)).alloc _⟩, by simp, ((((Below.refl _ _).alloc (Nat.le_refl _) _).alloc (by simp) _).alloc (by simp; omega) _).alloc (by simp; omega) _⟩
  case round =>
    obtain ⟨k, hk, rfl, h0, h1, h3, ⟨z, hz, h2⟩, hsz, hbw⟩ := hrel
    by_cases hlt : k < 32
    · have c1 := h1.cell k (by omega)
      have r0 := h0.range
      have ck := h3.cell k (by rw [afterTo_length m f k hf hk]; exact hlt)
      have fk := h3.free k
      have hc : f.getD k 0#32 = f.getD k 0#32 := rfl
      generalize hcc : f.getD k 0#32 = c at c1
      have HC := Lib.hid hcc
      clear hcc hc
      have i0 : (0 : Int) ≤ (k : Int) := by omega
      have i1 : (k : Int) < 32 := by omega
      go_wp2_with fail
      have e0 : w.heap.size < wr.drew.heap.size := by simp; omega
      have e1 : w.heap.size + 1 < wr.drew.heap.size := by simp; omega
      have e2 : w.heap.size + 1 + 1 < wr.drew.heap.size := by simp; omega
      have e3 : w.heap.size + 1 + 1 + 1 < wr.drew.heap.size := by simp; omega
      go_region_held3 (fun w' => w'.rangeAt w.heap.size 0 (mlist m) ∧ w'.cell? ⟨w.heap.size + 1, k, none⟩ = some (.int .u32 (u32 c)))
        (first | exact ⟨r0, c1⟩ | exact ⟨fun j v hv => (hb1.cell (p := ⟨_, _, none⟩) e0).trans (r0 j v hv), (hb1.cell (p := ⟨_, _, none⟩) e1).trans c1⟩ | exact ⟨fun j v hv => (World.cell?_setCell_other _ _ _ _ (by simp)).trans ((hb1.cell (p := ⟨_, _, none⟩) e0).trans (r0 j v hv)), (World.cell?_setCell_other _ _ _ _ (by simp)).trans ((hb1.cell (p := ⟨_, _, none⟩) e1).trans c1)⟩)
        (first | (go_at_call 20; refine (times_any m hm _ _).mono ?_; rintro e w1 ⟨rfl, hb1⟩; have ck1 := (hb1.cell (p := ⟨_, _, none⟩) e3).trans ck; have fk1 := (hb1.frozen (p := ⟨_, _, none⟩) e3).trans fk))
      go_wp2
      go_roundw
      case rel =>
        have hset := (h3.drew.below hb1 e3).set k (times m c)
        exact ⟨k + 1, by omega, by go_num, (h0.drew.below hb1 e0).other (by dsimp only; omega) _, (h1.drew.below hb1 e1).other (by dsimp only; omega) _, by rw [← afterTo_set m f k hf hlt, HC.out]; exact hset, ⟨z, hz, (h2.drew.below hb1 e2).other (by dsimp only; omega) _⟩, by have := hb1.size; simp at this ⊢; omega, (hbw.drew.trans (hb1.mono (by simp; omega))).setCell (by simp; omega) _⟩
      case measure => simp [intOf]; omega
    · obtain rfl : k = 32 := by omega
      have hl := afterTo_length m f 32 hf (Nat.le_refl _)
      go_wp2_with (first
        | refine wpList_load_row rfl _ _ rfl _ rfl _ _ _ _ h3 hu rfl (by rw [size_mval, hl]; kernel_rfl) ?_
        | refine wpList_store_row rfl _ _ _ rfl _ _ rfl rfl _ _ h2 (by rw [size_mval, hl]; kernel_rfl) (by rw [size_mval, size_mval, hl, hz]) (mval_one _) ?_)
      rw [afterTo_all m f hf] at *
      exact bodyPost_ret (results_cell_row rfl _ _ _ _ _ _ _ rfl (setRow_heap _ _ _ _ _ _ h2) hu rfl (by rw [size_mval, after_length, hf]; kernel_rfl)) rfl ⟨rfl, below_setRow hbw (by omega) _⟩

end Go.Proofs.Ytiglcpfimljpjaa
