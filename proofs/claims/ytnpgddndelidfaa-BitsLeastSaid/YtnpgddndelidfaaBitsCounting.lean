/- Bitmaps: counting. -/
import Derived.Test.YtnpgddndelidfaaBitsRef
import Derived.Lib.BitFns
namespace Go.Proofs.Ytnpgddndelidfaa
open Go Go.RowKit

theorem ones_eq (b : UInt8) : (Lib.onesCount b.toNat : Int) = (pop b 8 : Int) := by
  have e : ∀ n : Fin 256, Lib.onesCount n.val = pop (UInt8.ofNat n.val) 8 := by decide +kernel
  have := e ⟨b.toNat, b.toNat_lt⟩
  simp only [UInt8.ofNat_toNat] at this
  rw [this]

set_option maxRecDepth 100000 in
theorem ones_any (b : UInt8) (w : World) :
    Calls Try.prog 28 #[.int .u8 (b.toNat : Int)] w fun e w' => e = .returned (.int .i64 (pop b 8)) ∧ w = w' := by
  have hb := b.toNat_lt
  have h0 : 0 ≤ (b.toNat : Int) := by omega
  have h1 : (b.toNat : Int) ≤ 255 := by omega
  have HE := Lib.hid (ones_eq b)
  have HX : Hid (∀ x, x = (b.toNat : Int) → wrap64 (Lib.pop8 x) = (Lib.onesCount b.toNat : Int)) := Lib.hid fun x hx => by
    subst hx
    have e := Lib.pop8_eq ⟨b.toNat, b.toNat_lt⟩
    have l := Lib.onesCount_le8 ⟨b.toNat, b.toNat_lt⟩
    simp only at e l
    rw [e]
    exact IntWalk.wrap64_in _ ⟨by omega, by omega⟩
  generalize hx : (b.toNat : Int) = x at h0 h1 ⊢
  have HQ := Lib.hid (HX.out x hx.symm)
  clear hx
  go_enter Try.func28, Try.ntmps28
  go_wp2_with fail
  go_ret
  exact ⟨ret_of (by show Value.int .i64 (wrap64 (Lib.pop8 x)) = _; rw [HQ.out, HE.out]), rfl⟩

theorem shl_byte (b : UInt8) (k : Nat) (h : k < 8) : (b.toNat : Int) * 2 ^ k % 256 = ((b <<< UInt8.ofNat k).toNat : Int) := by
  have e : ∀ (n : Fin 256) (k : Fin 8), ((UInt8.ofNat n.val).toNat : Int) * 2 ^ k.val % 256 = ((UInt8.ofNat n.val <<< UInt8.ofNat k.val).toNat : Int) := by decide +kernel
  have := e ⟨b.toNat, b.toNat_lt⟩ ⟨k, h⟩
  simp only [UInt8.ofNat_toNat] at this
  exact this
theorem pop_shl (b : UInt8) (r : Nat) (h : r < 8) (h0 : 0 < r) : pop (b <<< UInt8.ofNat (8 - r)) 8 = pop b r := by
  have e : ∀ (n : Fin 256) (r : Fin 8), 0 < r.val → pop (UInt8.ofNat n.val <<< UInt8.ofNat (8 - r.val)) 8 = pop (UInt8.ofNat n.val) r.val := by decide +kernel
  have := e ⟨b.toNat, b.toNat_lt⟩ ⟨r, h⟩ h0
  simp only [UInt8.ofNat_toNat] at this
  exact this

theorem count_even (l : List UInt8) (q : Nat) : countTo l (8 * (q + 1)) = countTo l (8 * q) + pop (l.getD q 0) 8 := by
  rw [Nat.mul_add]; exact countTo_byte l q 8 (Nat.le_refl _)

set_option maxRecDepth 100000 in
set_option maxHeartbeats 1000000 in
theorem count_any (s : ByteArray) (n : Int) (hs : s.size ≤ 1000000000000) (hn : -9223372036854775808 ≤ n ∧ n ≤ 9223372036854775807) (w : World) :
    Calls Try.prog 17 #[.string s, .int .i64 n] w fun e w' => e = .returned (.int .i64 (countTo s.data.toList (firstN s.data.toList n))) ∧ w = w' := by
  have hf := Lib.hid (first_any s n hs hn w)
  have hN : firstN s.data.toList n ≤ 8 * s.size := by have := firstN_le s.data.toList n; rw [len_bytes] at this; omega
  clear hn
  generalize firstN s.data.toList n = N at *
  go_enter Try.func17, Try.ntmps17
  go_wp2_with fail
  refine hf.out.mono ?_
  rintro e w' ⟨rfl, rfl⟩
  go_wp2_with fail
  go_loop [5, 12] (fun x q => ∃ j : Nat, j ≤ N / 8 ∧ q = .int .i64 j ∧ x = .int .i64 (countTo s.data.toList (8 * j) : Nat)) (fun _ q => N / 8 - (intOf q).toNat)
  case atStart => exact ⟨0, by omega, rfl, rfl⟩
  case round =>
    obtain ⟨j, hj, rfl, rfl⟩ := hrel
    have hc := countTo_le s.data.toList (8 * j)
    by_cases hlt : j < N / 8
    · have hq : j < s.size := by omega
      have hce := count_even s.data.toList j
      rw [getD_bytes s j hq] at hce
      have hp := pop_le s[j] 8
      have HC := Lib.hid hce
      clear hce
      have ho := Lib.hid (ones_any s[j] w)
      generalize countTo s.data.toList (8 * j) = c at *
      generalize pop s[j] 8 = p at *
      go_wp2_with fail
      refine ho.out.mono ?_
      rintro e w' ⟨rfl, rfl⟩
      go_wp2_with fail
      go_round
      case rel => exact ⟨j + 1, by omega, by go_num, by rw [HC.out]; go_num⟩
      case measure => simp [intOf]; omega
    · obtain rfl : j = N / 8 := by omega
      by_cases hr : 0 < N % 8
      · have hq : N / 8 < s.size := by omega
        have hcb := countTo_byte s.data.toList (N / 8) (N % 8) (by omega)
        rw [getD_bytes s _ hq, show 8 * (N / 8) + N % 8 = N by omega] at hcb
        have hp := pop_le s[N / 8] (N % 8)
        have HC := Lib.hid hcb
        clear hcb
        have ho := ones_any (s[N / 8] <<< UInt8.ofNat (8 - N % 8)) w
        rw [pop_shl s[N / 8] (N % 8) (by omega) hr, ← shl_byte s[N / 8] (8 - N % 8) (by omega)] at ho
        have HO := Lib.hid ho
        clear ho
        go_wp2_with fail
        refine HO.out.mono ?_
        rintro e w' ⟨rfl, rfl⟩
        generalize countTo s.data.toList (8 * (N / 8)) = c at *
        generalize pop s[N / 8] (N % 8) = p at *
        go_wp2_with fail
        go_ret
        exact ⟨ret_of (by show Value.int .i64 ((c : Int) + p) = _; rw [HC.out]; go_num), rfl⟩
      · have hN8 : 8 * (N / 8) = N := by omega
        have HN := Lib.hid hN8
        clear hN8
        go_wp2_with fail
        go_ret
        exact ⟨ret_of (by show Value.int .i64 (countTo s.data.toList (8 * (N / 8)) : Nat) = _; rw [HN.out]), rfl⟩

set_option maxHeartbeats 1000000 in
theorem rcount_any (s : ByteArray) (n : Int) (hs : s.size ≤ 1000000000000) (hn : -9223372036854775808 ≤ n ∧ n ≤ 9223372036854775807) (w : World) :
    Calls Try.prog 18 #[.string s, .int .i64 n] w fun e w' => e = .returned (.int .i64 (countTo s.data.toList (firstN s.data.toList n))) ∧ w = w' := by
  have hf := Lib.hid (rfirst_any s n hs hn w)
  have hN : firstN s.data.toList n ≤ 8 * s.size := by have := firstN_le s.data.toList n; rw [len_bytes] at this; omega
  clear hn
  generalize firstN s.data.toList n = N at *
  go_enter Try.func18, Try.ntmps18
  go_wp2_with fail
  go_loop [5, 6] (fun x q => ∃ j : Nat, j ≤ N ∧ q = .int .i64 j ∧ x = .int .i64 (countTo s.data.toList j : Nat)) (fun _ q => N - (intOf q).toNat)
  case atStart => exact ⟨0, by omega, rfl, rfl⟩
  case round =>
    obtain ⟨j, hj, rfl, rfl⟩ := hrel
    have hc := countTo_le s.data.toList j
    by_cases hlt : j < N
    · have hce : Hid (countTo s.data.toList (j + 1) = countTo s.data.toList j + if has s.data.toList j then 1 else 0) := Lib.hid rfl
      have hh := rhas_any s (j : Int) (by omega) (by omega) w
      rw [show hasI s.data.toList (j : Int) = has s.data.toList j by unfold hasI; simp] at hh
      have HH := Lib.hid hh
      clear hh
      generalize countTo s.data.toList j = c at *
      cases hb : has s.data.toList j
      all_goals
        rw [hb] at HH hce
        clear hb
        go_wp2_with fail
        refine hf.out.mono ?_
        rintro e w' ⟨rfl, rfl⟩
        go_wp2_with fail
        refine HH.out.mono ?_
        rintro e w' ⟨rfl, rfl⟩
        go_wp2_with fail
        go_round
        case rel => exact ⟨j + 1, by omega, by go_num, by rw [hce.out]; first | rfl | (simp; done) | go_num⟩
        case measure => simp [intOf]; omega
    · obtain rfl : j = N := by omega
      go_wp2_with fail
      refine hf.out.mono ?_
      rintro e w' ⟨rfl, rfl⟩
      go_wp2_with fail
      go_ret
      exact ⟨rfl, rfl⟩

end Go.Proofs.Ytnpgddndelidfaa
