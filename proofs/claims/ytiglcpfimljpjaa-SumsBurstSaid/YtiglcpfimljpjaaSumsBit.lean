/- The sums' matrices: bit, and Join. -/
import Derived.Test.YtiglcpfimljpjaaSumsMat
import Derived.Deep.RegionHeld3
import Derived.Laws.CopyOwn
namespace Go.Proofs.Ytiglcpfimljpjaa
open Go Go.RowKit

/-- What 'bit' has made of the first k (k at least 1). -/
def bitTo (k : Nat) : List W32 := (bitm.take k) ++ List.replicate (32 - k) 0#32
theorem bitm_length : bitm.length = 32 := by simp [bitm, idm]
theorem bitTo_length (k : Nat) (hk : k ≤ 32) : (bitTo k).length = 32 := by simp [bitTo, bitm_length]; omega
theorem bitm_at (k : Nat) (hk : k + 1 < 32) : bitm.getD (k + 1) 0#32 = 1#32 <<< k := by
  have h1 : bitm.getD (k + 1) 0#32 = bstep (idm.getD (k + 1) 0#32) := by
    simp [bitm, List.getD, idm, hk]
  rw [h1, getD_map_range _ hk, bstep_twoPow k hk, BitVec.twoPow]
theorem bitTo_set (k : Nat) (hk : k + 1 < 32) : (bitTo (k + 1)).set (k + 1) (1#32 <<< k) = bitTo (k + 1 + 1) := by
  unfold bitTo
  have hl : (bitm.take (k + 1)).length = k + 1 := by simp [bitm_length]; omega
  rw [List.set_append_right _ _ (by omega), hl, Nat.sub_self]
  have hr : List.replicate (32 - (k + 1)) (0#32) = 0#32 :: List.replicate (32 - (k + 1 + 1)) (0#32) := by
    rw [← List.replicate_succ]; congr 1; omega
  rw [hr, List.set_cons_zero]
  have ht : bitm.take (k + 1 + 1) = bitm.take (k + 1) ++ [1#32 <<< k] := by
    rw [List.take_succ_eq_append_getElem (by rw [bitm_length]; exact hk), ← bitm_at k hk]; simp [List.getD, bitm_length, hk]
  rw [ht]; simp
theorem bitTo_one : bitTo 1 = 3988292384#32 :: List.replicate 31 0#32 := by decide
theorem bitTo_all : bitTo 32 = bitm := by unfold bitTo; rw [List.take_of_length_le (by rw [bitm_length]; exact Nat.le_refl _)]; simp
theorem shl_one (k : Nat) (hk : k < 32) : (2 : Int) ^ k % 4294967296 = u32 (1#32 <<< k) := by
  have : ∀ k : Fin 32, (2 : Int) ^ k.val % 4294967296 = u32 (1#32 <<< k.val) := by decide
  exact this ⟨k, hk⟩

set_option maxHeartbeats 1000000 in
theorem bit_any (w : World) :
    Calls Try.prog 18 #[] w fun e w' => e = .returned (.agg (mval bitm)) ∧ Below w.heap.size w w' := by
  have hu := Try.underlying41
  go_enter Try.func18, Try.ntmps18
  go_wp2_with (first
    | refine wpList_store_row rfl _ _ _ rfl (w.heap.size + 1) (mval (3988292384#32 :: List.replicate 31 0#32)) rfl rfl _ (mval zeros) (Holds.new' (w.alloc _) zeros (by simp)) (by kernel_rfl) (by rfl) (mval_one _) ?_)
  go_loopw [2] (fun i wr => ∃ k : Nat, k + 1 ≤ 32 ∧ i = .int .i64 (k + 1) ∧ Holds wr (w.heap.size + 1) (bitTo (k + 1)) ∧ (∃ z, z.length = 32 ∧ Holds wr w.heap.size z) ∧ Below w.heap.size w wr) (fun i _ => 32 - (intOf i).toNat)
  case atStart =>
    refine ⟨0, by omega, rfl, ?_, ⟨zeros, rfl, ?_⟩, ?_⟩
    · rw [bitTo_one]; exact setRow_heap _ _ _ _ _ _ (Holds.new' (w.alloc _) zeros (by simp))
    · unfold Holds; rw [setRow_other _ _ _ _ (by omega)]; exact (Holds.new w zeros).alloc _
    · exact below_setRow (((Below.refl _ _).alloc (Nat.le_refl _) _).alloc (by simp) _) (by omega) _
  case round =>
    obtain ⟨k, hk, rfl, h1, ⟨z, hz, h0⟩, hbw⟩ := hrel
    by_cases hlt : k + 1 < 32
    · have ck := h1.cell (k + 1) (by rw [bitTo_length (k + 1) hk]; exact hlt)
      have fk := h1.free (k + 1)
      have hsh := Lib.hid (shl_one k (by omega))
      go_wp2
      go_roundw
      case rel =>
        have hset := h1.set (k + 1) (1#32 <<< k)
        rw [bitTo_set k hlt] at hset
        exact ⟨k + 1, by omega, by go_num, by rw [hsh.out]; exact hset, ⟨z, hz, h0.other (by dsimp only; omega) _⟩, hbw.setCell (by dsimp only; omega) _⟩
      case measure => simp [intOf]; omega
    · obtain rfl : k = 31 := by omega
      have hl := bitTo_length 32 (Nat.le_refl _)
      go_wp2_with (first
        | refine wpList_load_row rfl _ _ rfl _ rfl _ _ _ _ h1 hu rfl (by rw [size_mval, hl]; kernel_rfl) ?_
        | refine wpList_store_row rfl _ _ _ rfl _ _ rfl rfl _ _ h0 (by rw [size_mval, hl]; kernel_rfl) (by rw [size_mval, size_mval, hl, hz]) (mval_one _) ?_)
      rw [show bitTo (31 + 1) = bitm from bitTo_all] at *
      exact bodyPost_ret (results_cell_row rfl _ _ _ _ _ _ _ rfl (setRow_heap _ _ _ _ _ _ h0) hu rfl (by rw [size_mval, bitm_length]; kernel_rfl)) rfl ⟨rfl, below_setRow hbw (by omega) _⟩

end Go.Proofs.Ytiglcpfimljpjaa
