/- The sums: what each function of the package and of its reference computes. -/
import Derived.Test.YtiglcpfimljpjaaProg
import Derived.Test.YtiglcpfimljpjaaBits
import Derived.Test.YtiglcpfimljpjaaSumsMath
namespace Go.Proofs.Ytiglcpfimljpjaa
open Go Go.RowKit

theorem ret_of {v v' : Value} (h : v = v') : Ending.returned v = .returned v' := by rw [h]
theorem u32v {x y : BitVec 32} (h : x = y) : Value.int .u32 (u32 x) = .int .u32 (u32 y) := by rw [h]
theorem take_more (s : ByteArray) (k : Nat) (h : k < s.size) (r : W32) : crc r (s.data.toList.take (k + 1)) = byteStep (crc r (s.data.toList.take k)) s[k] := by
  have : s.data.toList.take (k + 1) = s.data.toList.take k ++ [s[k]] := by rw [List.take_succ_eq_append_getElem (by simpa using h)]; rfl
  rw [this, crc_append]; rfl

set_option maxHeartbeats 400000 in
theorem more_any (x : W32) (s : ByteArray) (hs : s.size ≤ 9223372036854775807) (w : World) :
    Calls Try.prog 12 #[.int .u32 (u32 x), .string s] w fun e w' => e = .returned (.int .u32 (u32 (more x s.data.toList))) ∧ w = w' := by
  go_enter Try.func12, Try.ntmps12
  go_wp2
  go_loop [0, 10] (fun r i => ∃ k : Nat, k ≤ s.size ∧ i = .int .i64 k ∧ r = .int .u32 (u32 (crc (~~~x) (s.data.toList.take k)))) (fun _ i => s.size - (intOf i).toNat)
  case atStart => exact ⟨0, Nat.zero_le _, rfl, rfl⟩
  case round =>
    obtain ⟨k, hk, rfl, rfl⟩ := hrel
    by_cases hlt : k < s.size
    · have hts := Lib.hid (take_more s k hlt (~~~x))
      generalize crc (~~~x) (s.data.toList.take k) = y at *
      go_wp2
      go_loop [0, 19] (fun r i => ∃ j : Nat, j ≤ 8 ∧ i = .int .i64 j ∧ r = .int .u32 (u32 (iter bstep j (y ^^^ s[k].toBitVec.setWidth 32)))) (fun _ i => 8 - (intOf i).toNat)
      case atStart => exact ⟨0, by omega, rfl, rfl⟩
      case round =>
        obtain ⟨j, hj, rfl, rfl⟩ := hrel
        by_cases hj8 : j < 8
        · have hit := Lib.hid (iter_succ' bstep j (y ^^^ s[k].toBitVec.setWidth 32))
          generalize iter bstep j (y ^^^ s[k].toBitVec.setWidth 32) = z at *
          go_wp2
          go_round
          case rel => exact ⟨j + 1, by omega, by go_num, u32v (by rw [hit.out]; rfl)⟩
          case measure => simp [intOf]; omega
        · obtain rfl : j = 8 := by omega
          go_wp2
          go_round
          case rel => exact ⟨k + 1, by omega, by go_num, u32v (by rw [hts.out]; rfl)⟩
          case measure => simp [intOf]; omega
    · go_wp2
      go_ret
      exact ⟨ret_of (u32v (by rw [List.take_of_length_le (by simp; omega)]; rfl)), rfl⟩

theorem sum_any (s : ByteArray) (hs : s.size ≤ 9223372036854775807) (w : World) :
    Calls Try.prog 10 #[.string s] w fun e w' => e = .returned (.int .u32 (u32 (more 0#32 s.data.toList))) ∧ w = w' := by
  have h := more_any 0#32 s hs
  have H := Lib.hid h
  clear h
  go_enter Try.func10, Try.ntmps10
  go_wp2_with fail
  refine (H.out _).mono ?_
  rintro e w' ⟨rfl, rfl⟩
  go_wp2
  go_ret
  exact ⟨rfl, rfl⟩

/-- What a bit that falls out makes of the register. -/
theorem bstep_bit (z : W32) : bstep z = if bit0 z then (z >>> 1) ^^^ 3988292384#32 else z >>> 1 := by
  unfold bstep
  rw [neg_bit]
  show _ = if z.getLsbD 0 then _ else _
  cases z.getLsbD 0 <;> simp

set_option maxHeartbeats 400000 in
theorem rstep_any (x : W32) (b : UInt8) (w : World) :
    Calls Try.prog 17 #[.int .u32 (u32 x), .int .u8 b.toNat] w fun e w' => e = .returned (.int .u32 (u32 (byteStep x b))) ∧ w = w' := by
  go_enter Try.func17, Try.ntmps17
  go_wp2
  go_loop [0, 5] (fun r i => ∃ j : Nat, j ≤ 8 ∧ i = .int .i64 j ∧ r = .int .u32 (u32 (iter bstep j (x ^^^ b.toBitVec.setWidth 32)))) (fun _ i => 8 - (intOf i).toNat)
  case atStart => exact ⟨0, by omega, rfl, rfl⟩
  case round =>
    obtain ⟨j, hj, rfl, rfl⟩ := hrel
    have hit := Lib.hid (iter_succ' bstep j (x ^^^ b.toBitVec.setWidth 32))
    generalize hz : iter bstep j (x ^^^ b.toBitVec.setWidth 32) = z at *
    have HZ := Lib.hid hz
    clear hz
    by_cases hj8 : j < 8
    · have hb := Lib.hid (bstep_bit z)
      cases hz0 : bit0 z
      all_goals
        go_wp2
        go_round
        case rel =>
          have H := hb.out
          rw [hz0] at H
          refine ⟨j + 1, by omega, by go_num, ?_⟩
          first
            | exact u32v (by rw [hit.out, H]; rfl)
            | (rw [u32_mod]; exact u32v (by rw [hit.out, H]; rfl))
        case measure => simp [intOf]; omega
    · obtain rfl : j = 8 := by omega
      go_wp2
      go_ret
      exact ⟨ret_of (u32v (by rw [← HZ.out]; rfl)), rfl⟩

set_option maxHeartbeats 400000 in
theorem rmore_any (x : W32) (s : ByteArray) (hs : s.size ≤ 9223372036854775807) (w : World) :
    Calls Try.prog 13 #[.int .u32 (u32 x), .string s] w fun e w' => e = .returned (.int .u32 (u32 (more x s.data.toList))) ∧ w = w' := by
  go_enter Try.func13, Try.ntmps13
  go_wp2
  go_loop [5, 6] (fun r i => ∃ k : Nat, k ≤ s.size ∧ i = .int .i64 k ∧ r = .int .u32 (u32 (crc (~~~x) (s.data.toList.take k)))) (fun _ i => s.size - (intOf i).toNat)
  case atStart => exact ⟨0, Nat.zero_le _, rfl, rfl⟩
  case round =>
    obtain ⟨k, hk, rfl, rfl⟩ := hrel
    by_cases hlt : k < s.size
    · have hts := Lib.hid (take_more s k hlt (~~~x))
      generalize crc (~~~x) (s.data.toList.take k) = y at *
      go_wp2_with fail
      refine (rstep_any y s[k] w).mono ?_
      rintro e w' ⟨rfl, rfl⟩
      go_wp2_with fail
      go_round
      case rel => exact ⟨k + 1, by omega, by go_num, u32v (by rw [hts.out])⟩
      case measure => simp [intOf]; omega
    · go_wp2_with fail
      go_ret
      exact ⟨ret_of (u32v (by rw [List.take_of_length_le (by simp; omega)]; rfl)), rfl⟩

theorem rsum_any (s : ByteArray) (hs : s.size ≤ 9223372036854775807) (w : World) :
    Calls Try.prog 11 #[.string s] w fun e w' => e = .returned (.int .u32 (u32 (more 0#32 s.data.toList))) ∧ w = w' := by
  have h := rmore_any 0#32 s hs
  have H := Lib.hid h
  clear h
  go_enter Try.func11, Try.ntmps11
  go_wp2_with fail
  refine (H.out _).mono ?_
  rintro e w' ⟨rfl, rfl⟩
  go_wp2
  go_ret
  exact ⟨rfl, rfl⟩

theorem rjoin_no (a b : W32) (n : Int) (h : n < 0 ∨ 1073741824 < n) (w : World) :
    Calls Try.prog 16 #[.int .u32 (u32 a), .int .u32 (u32 b), .int .i64 n] w fun e w' => e = .returned (.tuple #[.int .u32 0, .bool false]) ∧ w = w' := by
  by_cases h0 : n < 0
  · go_enter Try.func16, Try.ntmps16
    go_wp2
    go_ret2
    exact ⟨rfl, rfl⟩
  · have h1 : 1073741824 < n := by omega
    go_enter Try.func16, Try.ntmps16
    go_wp2
    go_ret2
    exact ⟨rfl, rfl⟩

set_option maxHeartbeats 400000 in
theorem rjoin_yes (a b : W32) (n : Nat) (h : n ≤ 1073741824) (w : World) :
    Calls Try.prog 16 #[.int .u32 (u32 a), .int .u32 (u32 b), .int .i64 n] w fun e w' => e = .returned (.tuple #[.int .u32 (u32 (join a b n)), .bool true]) ∧ w = w' := by
  go_enter Try.func16, Try.ntmps16
  go_wp2
  go_loop [0, 8] (fun r i => ∃ k : Nat, k ≤ n ∧ i = .int .i64 k ∧ r = .int .u32 (u32 (iter z8 k a))) (fun _ i => n - (intOf i).toNat)
  case atStart => exact ⟨0, Nat.zero_le _, rfl, rfl⟩
  case round =>
    obtain ⟨k, hk, rfl, rfl⟩ := hrel
    have hit := Lib.hid (iter_succ' z8 k a)
    have hfin : k = n → Hid (join a b n = iter z8 k a ^^^ b) := fun e => by subst e; rfl
    generalize iter z8 k a = y at *
    by_cases hlt : k < n
    · have hs := rstep_any y 0 w
      have HS := Lib.hid hs
      clear hs
      go_wp2_with fail
      refine HS.out.mono ?_
      rintro e w' ⟨rfl, rfl⟩
      go_wp2_with fail
      go_round
      case rel => exact ⟨k + 1, by omega, by go_num, u32v (by rw [hit.out]; simp [byteStep, z8])⟩
      case measure => simp [intOf]; omega
    · have hj := hfin (by omega)
      clear hfin
      go_wp2_with fail
      go_ret2
      exact ⟨by rw [hj.out]; rfl, rfl⟩

end Go.Proofs.Ytiglcpfimljpjaa
