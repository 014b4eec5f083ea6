/- Bitmaps: the reference's Has, With, first; first; Count. -/
import Derived.Test.YtnpgddndelidfaaBitsWalk
import Derived.RegionTactic
import Derived.BigRegion
namespace Go.Proofs.Ytnpgddndelidfaa
open Go Go.RowKit

theorem first_any (s : ByteArray) (n : Int) (hs : s.size ≤ 1000000000000) (hn : -9223372036854775808 ≤ n ∧ n ≤ 9223372036854775807) (w : World) :
    Calls Try.prog 27 #[.string s, .int .i64 n] w fun e w' => e = .returned (.int .i64 (firstN s.data.toList n)) ∧ w = w' := by
  obtain ⟨hn1, hn2⟩ := hn
  by_cases h0 : n < 0
  · have hf : firstN s.data.toList n = 0 := by unfold firstN; omega
    have HF := Lib.hid hf
    clear hf
    have hm : (if (0 : Int) > n then (0 : Int) else n) = 0 := by rw [if_pos (by omega)]
    have ht : n.tdiv 8 ≤ 0 := by
      rw [← Int.neg_neg n, Int.neg_tdiv, Int.tdiv_eq_ediv_of_nonneg (by omega)]
      omega
    have ht2 : -9223372036854775808 ≤ n.tdiv 8 := by
      rw [← Int.neg_neg n, Int.neg_tdiv, Int.tdiv_eq_ediv_of_nonneg (by omega)]
      omega
    by_cases hd : (s.size : Int) ≤ n.tdiv 8
    · have hz : s.size = 0 := by omega
      have HZ := Lib.hid hz
      clear hz
      go_enter Try.func27, Try.ntmps27
      go_wp2_with fail
      go_ret
      exact ⟨by rw [HF.out]; exact ret_of (by show Value.int .i64 (8 * (s.size : Int)) = _; rw [HZ.out]; rfl), rfl⟩
    · go_enter Try.func27, Try.ntmps27
      go_wp2_with fail
      go_ret
      exact ⟨by rw [HF.out]; rfl, rfl⟩
  · obtain ⟨k, rfl⟩ := Int.eq_ofNat_of_zero_le (Int.not_lt.1 h0)
    by_cases h1 : k / 8 < s.size
    · have hf : firstN s.data.toList k = k := by unfold firstN; rw [len_bytes, show ((k : Int)).toNat = k from rfl]; omega
      have HF := Lib.hid hf
      clear hf
      have d1 : decide ((s.size : Int) ≤ (k : Int) / 8) = false := by simp; omega
      go_enter Try.func27, Try.ntmps27
      go_wp2_with fail
      go_ret
      exact ⟨by rw [HF.out]; first | rfl | (simp; done), rfl⟩
    · have hf : firstN s.data.toList k = 8 * s.size := by unfold firstN; rw [len_bytes, show ((k : Int)).toNat = k from rfl]; omega
      have HF := Lib.hid hf
      clear hf
      have d1 : decide ((s.size : Int) ≤ (k : Int) / 8) = true := by simp; omega
      go_enter Try.func27, Try.ntmps27
      go_wp2_with fail
      go_ret
      exact ⟨by rw [HF.out]; first | rfl | (simp; done), rfl⟩

theorem rfirst_any (s : ByteArray) (n : Int) (hs : s.size ≤ 1000000000000) (hn : -9223372036854775808 ≤ n ∧ n ≤ 9223372036854775807) (w : World) :
    Calls Try.prog 26 #[.string s, .int .i64 n] w fun e w' => e = .returned (.int .i64 (firstN s.data.toList n)) ∧ w = w' := by
  obtain ⟨hn1, hn2⟩ := hn
  by_cases h0 : n < 0
  · have hf : firstN s.data.toList n = 0 := by unfold firstN; omega
    have HF := Lib.hid hf
    clear hf
    go_enter Try.func26, Try.ntmps26
    go_wp2_with fail
    go_ret
    exact ⟨by rw [HF.out]; rfl, rfl⟩
  · obtain ⟨k, rfl⟩ := Int.eq_ofNat_of_zero_le (Int.not_lt.1 h0)
    by_cases h1 : k / 8 < s.size
    · have hf : firstN s.data.toList k = k := by unfold firstN; rw [len_bytes, show ((k : Int)).toNat = k from rfl]; omega
      have HF := Lib.hid hf
      clear hf
      have d1 : decide ((s.size : Int) ≤ (k : Int) / 8) = false := by simp; omega
      go_enter Try.func26, Try.ntmps26
      go_wp2_with fail
      go_ret
      exact ⟨by rw [HF.out]; first | rfl | (simp; done), rfl⟩
    · have hf : firstN s.data.toList k = 8 * s.size := by unfold firstN; rw [len_bytes, show ((k : Int)).toNat = k from rfl]; omega
      have HF := Lib.hid hf
      clear hf
      have d1 : decide ((s.size : Int) ≤ (k : Int) / 8) = true := by simp; omega
      go_enter Try.func26, Try.ntmps26
      go_wp2_with fail
      go_ret
      exact ⟨by rw [HF.out]; first | rfl | (simp; done), rfl⟩

/-- A byte, halved so often. -/
theorem half_div (b : UInt8) (j : Nat) : ((b.toNat : Int) / 2 ^ j) / 2 = (b.toNat : Int) / 2 ^ (j + 1) := by
  have h : ∀ i : Nat, (b.toNat : Int) / 2 ^ i = ((b.toNat / 2 ^ i : Nat) : Int) := fun i => by norm_cast
  rw [h, h, Nat.pow_succ, ← Nat.div_div_eq_div_mul]; norm_cast
theorem odd_bit (b : UInt8) (m : Nat) : ((b.toNat : Int) / 2 ^ m % 2 == 1) = bitOf b m := by
  have h1 : (b.toNat : Int) / 2 ^ m = ((b.toNat / 2 ^ m : Nat) : Int) := by norm_cast
  rw [h1]
  unfold bitOf
  rw [Nat.testBit_eq_decide_div_mod_eq]
  rcases Nat.mod_two_eq_zero_or_one (b.toNat / 2 ^ m) with h | h
  · have : ((b.toNat / 2 ^ m : Nat) : Int) % 2 = 0 := by omega
    rw [this, h]; decide
  · have : ((b.toNat / 2 ^ m : Nat) : Int) % 2 = 1 := by omega
    rw [this, h]; decide
theorem byte_div (b : UInt8) (m : Nat) : 0 ≤ (b.toNat : Int) / 2 ^ m ∧ (b.toNat : Int) / 2 ^ m < 256 := by
  have h1 : (b.toNat : Int) / 2 ^ m = ((b.toNat / 2 ^ m : Nat) : Int) := by norm_cast
  have h2 : b.toNat / 2 ^ m < 256 := Nat.lt_of_le_of_lt (Nat.div_le_self _ _) b.toNat_lt
  rw [h1]; clear h1; generalize b.toNat / 2 ^ m = q at *; omega

theorem rhas_any (s : ByteArray) (i : Int) (hs : s.size ≤ 9223372036854775807) (hi : i ≤ 9223372036854775807) (w : World) :
    Calls Try.prog 11 #[.string s, .int .i64 i] w fun e w' => e = .returned (.bool (hasI s.data.toList i)) ∧ w = w' := by
  by_cases h0 : i < 0
  · have hr : hasI s.data.toList i = false := by unfold hasI; simp; omega
    have HR := Lib.hid hr
    clear hr
    go_enter Try.func11, Try.ntmps11
    go_wp2_with fail
    go_ret
    exact ⟨by rw [HR.out]; rfl, rfl⟩
  · obtain ⟨k, rfl⟩ := Int.eq_ofNat_of_zero_le (Int.not_lt.1 h0)
    by_cases h1 : k / 8 < s.size
    · have hr : hasI s.data.toList k = bitOf s[k / 8] (k % 8) := by
        unfold hasI has
        rw [show ((k : Int)).toNat = k from rfl, getD_bytes s _ h1]; simp
      have HR := Lib.hid hr
      clear hr
      have d1 : decide ((s.size : Int) ≤ (k : Int) / 8) = false := by simp; omega
      go_enter Try.func11, Try.ntmps11
      go_wp2_with fail
      generalize s[k / 8] = b at *
      go_loop [5, 6] (fun x q => ∃ j : Nat, j ≤ k % 8 ∧ q = .int .i64 j ∧ x = .int .u8 ((b.toNat : Int) / 2 ^ j)) (fun _ q => k % 8 - (intOf q).toNat)
      case atStart => exact ⟨0, by omega, rfl, by simp⟩
      case round =>
        obtain ⟨j, hj, rfl, rfl⟩ := hrel
        obtain ⟨y0, y1⟩ := byte_div b j
        have hh := Lib.hid (half_div b j)
        have ho := Lib.hid (odd_bit b (k % 8))
        by_cases hlt : j < k % 8
        · generalize (b.toNat : Int) / 2 ^ j = y at *
          go_wp2_with fail
          go_round
          case rel => exact ⟨j + 1, by omega, by go_num, by rw [← hh.out]⟩
          case measure => simp [intOf]; omega
        · have hjk : j = k % 8 := by omega
          rw [← hjk] at ho
          generalize (b.toNat : Int) / 2 ^ j = y at *
          go_wp2_with fail
          go_ret
          exact ⟨by rw [HR.out, ← hjk, ← ho.out]; rfl, rfl⟩
    · have hr : hasI s.data.toList k = false := by
        unfold hasI
        rw [show ((k : Int)).toNat = k from rfl, has_out _ _ (by rw [len_bytes]; omega)]; simp
      have HR := Lib.hid hr
      clear hr
      have d1 : decide ((s.size : Int) ≤ (k : Int) / 8) = true := by simp; omega
      go_enter Try.func11, Try.ntmps11
      go_wp2_with fail
      go_ret
      exact ⟨by rw [HR.out]; rfl, rfl⟩

end Go.Proofs.Ytnpgddndelidfaa
