/- Bitmaps: Has, With, first, of the package and of its reference. -/
import Derived.Test.YtnpgddndelidfaaProg
import Derived.Test.YtnpgddndelidfaaRow
import Derived.Test.YtnpgddndelidfaaBitsMath
import Derived.StillTailTactics
import Derived.BigQuiet
import Derived.Deep.QuietTactic
namespace Go.Proofs.Ytnpgddndelidfaa
open Go Go.RowKit

theorem ret_of {v v' : Value} (h : v = v') : Ending.returned v = .returned v' := by rw [h]

theorem bit_is (b : UInt8) (m : Nat) : (bits .and .u8 ((b.toNat : Int) / 2 ^ m) 1 == 1) = bitOf b m := by
  have hb := b.toNat_lt
  have h1 : (b.toNat : Int) / 2 ^ m = ((b.toNat / 2 ^ m : Nat) : Int) := by norm_cast
  have h2 : b.toNat / 2 ^ m < 256 := Nat.lt_of_le_of_lt (Nat.div_le_self _ _) hb
  rw [h1, show (1 : Int) = ((1 : Nat) : Int) from rfl, u8_and_nat _ _ h2 (by decide), nat_mask1]
  unfold bitOf
  rw [Nat.testBit_eq_decide_div_mod_eq]
  rcases Nat.mod_two_eq_zero_or_one (b.toNat / 2 ^ m) with h | h <;> rw [h] <;> decide

theorem getD_bytes (s : ByteArray) (q : Nat) (h : q < s.size) : s.data.toList.getD q 0 = s[q] := by
  have h' : q < s.data.size := h
  show s.data.toList.getD q 0 = s.data[q]
  simp [List.getD, Array.getElem?_eq_getElem h']
theorem len_bytes (s : ByteArray) : s.data.toList.length = s.size := by rw [Array.length_toList]; rfl

theorem has_any (s : ByteArray) (i : Int) (hs : s.size ≤ 9223372036854775807) (hi : i ≤ 9223372036854775807) (w : World) :
    Calls Try.prog 10 #[.string s, .int .i64 i] w fun e w' => e = .returned (.bool (hasI s.data.toList i)) ∧ w = w' := by
  by_cases h0 : i < 0
  · have hr : hasI s.data.toList i = false := by unfold hasI; simp; omega
    have d0 : decide (0 ≤ i) = false := by simp; omega
    have HR := Lib.hid hr
    clear hr
    go_enter Try.func10, Try.ntmps10
    go_wp2_with fail
    go_ret
    exact ⟨by rw [HR.out]; rfl, rfl⟩
  · obtain ⟨k, rfl⟩ := Int.eq_ofNat_of_zero_le (Int.not_lt.1 h0)
    have d0 : decide (0 ≤ (k : Int)) = true := by simp
    by_cases h1 : k / 8 < s.size
    · have hr : hasI s.data.toList k = bitOf s[k / 8] (k % 8) := by
        unfold hasI has
        rw [show ((k : Int)).toNat = k from rfl, getD_bytes s _ h1]; simp
      have HR := Lib.hid hr
      clear hr
      have hb := bit_is s[k / 8] (k % 8)
      go_enter Try.func10, Try.ntmps10
      go_wp2_with fail
      go_ret
      exact ⟨by rw [HR.out]; rfl, rfl⟩
    · have hr : hasI s.data.toList k = false := by
        unfold hasI
        rw [show ((k : Int)).toNat = k from rfl, has_out _ _ (by rw [len_bytes]; omega)]; simp
      have HR := Lib.hid hr
      clear hr
      have d1 : decide ((k : Int) / 8 < s.size) = false := by simp; omega
      go_enter Try.func10, Try.ntmps10
      go_wp2_with fail
      go_ret
      exact ⟨by rw [HR.out]; rfl, rfl⟩

/-- A text of bytes. -/
def txt (l : List UInt8) : ByteArray := ⟨l.toArray⟩
theorem txt_self (s : ByteArray) : txt s.data.toList = s := rfl
theorem txt_bytes (l : List UInt8) : (txt l).data.toList = l := rfl
theorem txt_size (l : List UInt8) : (txt l).size = l.length := by show l.toArray.size = _; simp

theorem u8_or_shl (b : UInt8) (m : Nat) (h : m < 8) : bits .or .u8 (b.toNat : Int) ((2 : Int) ^ m % 256) = ((setBit b m true).toNat : Int) := by
  have e : ∀ m : Fin 8, (2 : Int) ^ m.val % 256 = (((1 : UInt8) <<< UInt8.ofNat m.val).toNat : Int) := by decide
  have e2 : (2 : Int) ^ m % 256 = (((1 : UInt8) <<< UInt8.ofNat m).toNat : Int) := e ⟨m, h⟩
  rw [e2, u8_or_nat _ _ b.toNat_lt (UInt8.toNat_lt _), ← UInt8.toNat_or]; rfl
theorem u8_andNot_shl (b : UInt8) (m : Nat) (h : m < 8) : bits .andNot .u8 (b.toNat : Int) ((2 : Int) ^ m % 256) = ((setBit b m false).toNat : Int) := by
  have e : ∀ m : Fin 8, (2 : Int) ^ m.val % 256 = (((1 : UInt8) <<< UInt8.ofNat m.val).toNat : Int) := by decide
  have e2 : (2 : Int) ^ m % 256 = (((1 : UInt8) <<< UInt8.ofNat m).toNat : Int) := e ⟨m, h⟩
  have e3 : 255 - ((1 : UInt8) <<< UInt8.ofNat m).toNat = (~~~ ((1 : UInt8) <<< UInt8.ofNat m)).toNat := by rw [not_shl m h, one_shl m h]
  rw [e2, u8_andNot_nat _ _ b.toNat_lt (UInt8.toNat_lt _), e3, ← UInt8.toNat_and]; rfl

set_option maxRecDepth 100000 in
set_option maxHeartbeats 1000000 in
theorem with_any (s : ByteArray) (i : Int) (on : Bool) (hs : s.size ≤ 1000000000000) (hi : i ≤ 9223372036854775807) (w : World) :
    Calls Try.prog 12 #[.string s, .int .i64 i, .bool on] w fun e w' => e = .returned (.string (txt (withI s.data.toList i on))) ∧ Below w.heap.size w w' := by
  by_cases h0 : i < 0
  · have hr := Lib.hid (withI_out s.data.toList i on (.inl h0))
    go_enter Try.func12, Try.ntmps12
    go_wp2_with fail
    go_ret
    exact ⟨by rw [hr.out, txt_self]; rfl, Below.refl _ _⟩
  · obtain ⟨k, rfl⟩ := Int.eq_ofNat_of_zero_le (Int.not_lt.1 h0)
    by_cases h1 : k / 8 < s.size
    · have hr := Lib.hid (withI_in s.data.toList k on (by rw [len_bytes]; omega))
      obtain ⟨cap, wb, spare, kc, hrow, hbw, hsz⟩ := run_bytes_row (P := Try.prog) w 9 40 5 s Try.underlying9 Try.underlying40 Try.underlying5
      have d1 : decide ((s.size : Int) ≤ (k : Int) / 8) = false := by simp; omega
      have hl := len_bytes s
      have hlb : (s.data.toList ++ spare).length = s.size + spare.length := by rw [List.length_append, hl]
      have ho : (s.data.toList ++ spare).getD (k / 8) 0 = s.data.toList.getD (k / 8) 0 := by
        simp [List.getD, List.getElem?_append_left, hl, h1]
      have ck := hrow.cellAt (k / 8) (bcells_at (s.data.toList ++ spare) (k / 8) (by omega))
      rw [ho] at ck
      have fk := hrow.free (k / 8) (by rw [bcells_length]; omega)
      unfold bval at ck
      have hfin : ∀ w2 : World, Row w2 w.heap.size 5 (bcells (put s.data.toList k on ++ spare)) → (convert 40 9 (.slice (some ⟨w.heap.size, 0, none⟩) s.size cap)).run Try.prog w2 = .ok (.string (txt (put s.data.toList k on))) w2 :=
        fun w2 h2 => run_string_of_head (P := Try.prog) 40 9 5 s.size cap (by rw [put_length, hl]) Try.underlying40 Try.underlying5 Try.underlying9 h2
      have hput : ∀ x : UInt8, Hid ((bcells (s.data.toList ++ spare)).set (k / 8) (bval x) = bcells (s.data.toList.set (k / 8) x ++ spare)) := fun x => by
        refine Lib.hid ?_; rw [bcells_set, List.set_append_left _ _ (by rw [hl]; exact h1)]
      have hset : ∀ x : UInt8, x = setBit (s.data.toList.getD (k / 8) 0) (k % 8) on → ∀ w0 : World, Row w0 w.heap.size 5 (bcells (s.data.toList ++ spare)) → Row (w0.setCell ⟨w.heap.size, k / 8, none⟩ (bval x)) w.heap.size 5 (bcells (put s.data.toList k on ++ spare)) := fun x hx w0 h => by
        subst hx
        have := h.set (k / 8) (bval (setBit (s.data.toList.getD (k / 8) 0) (k % 8) on))
        rw [(hput _).out] at this
        exact this
      have HF := Lib.hid hfin
      have HS := Lib.hid hset
      clear hlb ho hput hfin hset hl
      have i0 : (0 : Int) ≤ (k : Int) / 8 := by omega
      have i1 : (k : Int) / 8 < s.size := by omega
      generalize hold : s.data.toList.getD (k / 8) 0 = old at ck
      have HO := Lib.hid hold
      clear hold
      have e1 := Lib.hid (u8_or_shl old (k % 8) (by omega))
      have e2 := Lib.hid (u8_andNot_shl old (k % 8) (by omega))
      cases on
      · go_enter Try.func12, Try.ntmps12
        go_wp2_with fail
        have hw8 : IntKind.i64.wrap ((k : Int) / 8) = (k : Int) / 8 := IntWalk.i64_in _ (by omega)
        have hn8 : ((k : Int) / 8).toNat = k / 8 := by omega
        have hm8 : (k : Int).tmod 8 = ((k % 8 : Nat) : Int) := by rw [Int.tmod_eq_emod_of_nonneg (by omega)]; omega
        refine wp_region_still_tail 10 (by kernel_rfl) (by kernel_rfl) ?_
        simp only [List.take_succ_cons, List.take_zero, List.drop_succ_cons, List.drop_zero]
        repeat still_step
        refine wpStill_nil ?_
        change wpList _ _ _ _ _ wb.drew
        have hc := HF.out _ (HS.out (setBit old (k % 8) false) (by rw [HO.out]) _ hrow).drew
        unfold bval at hc
        rw [← e2.out] at hc
        go_wp2_with fail
        go_ret
        exact ⟨by rw [hr.out]; rfl, (hbw.drew.setCell (Nat.le_refl _) _)⟩
      · go_enter Try.func12, Try.ntmps12
        go_wp2_with fail
        have hw8 : IntKind.i64.wrap ((k : Int) / 8) = (k : Int) / 8 := IntWalk.i64_in _ (by omega)
        have hn8 : ((k : Int) / 8).toNat = k / 8 := by omega
        have hm8 : (k : Int).tmod 8 = ((k % 8 : Nat) : Int) := by rw [Int.tmod_eq_emod_of_nonneg (by omega)]; omega
        refine wp_region_still_tail 10 (by kernel_rfl) (by kernel_rfl) ?_
        simp only [List.take_succ_cons, List.take_zero, List.drop_succ_cons, List.drop_zero]
        repeat still_step
        refine wpStill_nil ?_
        change wpList _ _ _ _ _ wb.drew
        have hc := HF.out _ (HS.out (setBit old (k % 8) true) (by rw [HO.out]) _ hrow).drew
        unfold bval at hc
        rw [← e1.out] at hc
        go_wp2_with fail
        go_ret
        exact ⟨by rw [hr.out]; rfl, (hbw.drew.setCell (Nat.le_refl _) _)⟩
    · have hr := Lib.hid (withI_out s.data.toList k on (.inr (by rw [len_bytes]; omega)))
      have d1 : decide ((s.size : Int) ≤ (k : Int) / 8) = true := by simp; omega
      go_enter Try.func12, Try.ntmps12
      go_wp2_with fail
      go_ret
      exact ⟨by rw [hr.out, txt_self]; rfl, Below.refl _ _⟩

end Go.Proofs.Ytnpgddndelidfaa
