/- The sums: Join. -/
import Derived.Test.YtiglcpfimljpjaaSumsBit
namespace Go.Proofs.Ytiglcpfimljpjaa
open Go Go.RowKit

/-- What a matrix does is so many steps. -/
def Leads (m : List W32) (f : W32 → W32) (p : Nat) : Prop := m.length = 32 ∧ ∀ r, times m r = iter f p r
theorem leads_bit : Leads bitm bstep 1 := ⟨bitm_length, fun r => by rw [times_bitm]; rfl⟩
theorem Leads.twice {m : List W32} {f : W32 → W32} {p : Nat} (h : Leads m f p) : Leads (after m m) f (p + p) :=
  ⟨by rw [after_length]; exact h.1, fun r => by unfold after; rw [times_after m m h.1, h.2, h.2, ← iter_add]⟩
theorem Leads.byte {m : List W32} (h : Leads m bstep 8) : Leads m z8 1 := ⟨h.1, fun r => by rw [h.2]; rfl⟩
theorem join_odd (k p : Nat) (a : W32) : iter z8 ((2 * k + 1) * p) a = iter z8 (k * (p + p)) (iter z8 p a) := by
  rw [← iter_add]; congr 1; rw [Nat.add_mul, Nat.mul_add, Nat.one_mul, Nat.add_comm, Nat.two_mul, Nat.add_mul]
theorem join_even (k p : Nat) (a : W32) : iter z8 (2 * k * p) a = iter z8 (k * (p + p)) a := by
  congr 1; rw [Nat.mul_add, Nat.two_mul, Nat.add_mul]

theorem join_no (a b : W32) (n : Int) (h : n < 0 ∨ 1073741824 < n) (w : World) :
    Calls Try.prog 15 #[.int .u32 (u32 a), .int .u32 (u32 b), .int .i64 n] w fun e w' => e = .returned (.tuple #[.int .u32 0, .bool false]) ∧ w = w' := by
  by_cases h0 : n < 0
  · go_enter Try.func15, Try.ntmps15
    go_wp2_with fail
    go_ret2
    exact ⟨rfl, rfl⟩
  · have h1 : 1073741824 < n := by omega
    go_enter Try.func15, Try.ntmps15
    go_wp2_with fail
    go_ret2
    exact ⟨rfl, rfl⟩

set_option maxHeartbeats 1000000 in
theorem join_yes (a b : W32) (n : Nat) (h : n ≤ 1073741824) (w : World) :
    Calls Try.prog 15 #[.int .u32 (u32 a), .int .u32 (u32 b), .int .i64 n] w fun e w' => e = .returned (.tuple #[.int .u32 (u32 (join a b n)), .bool true]) ∧ Below w.heap.size w w' := by
  have hu := Lib.hid Try.underlying41
  go_enter Try.func15, Try.ntmps15
  go_wp2_with fail
  refine (bit_any _).mono ?_
  rintro e w1 ⟨rfl, hb1⟩
  have hz1 := hb1.size
  go_wp2_with (first
    | refine wpList_store_row rfl _ _ _ rfl w1.heap.size (mval bitm) rfl rfl _ (mval zeros) (Holds.new w1 zeros) (by rw [size_mval, bitm_length]; kernel_rfl) (by rw [size_mval, size_mval, bitm_length]; rfl) (mval_one _) ?_)
  go_loopw [16] (fun i wr => ∃ j : Nat, j ≤ 3 ∧ i = .int .i64 j ∧ (∃ m, Leads m bstep (2 ^ j) ∧ Holds wr w1.heap.size m) ∧ Below w.heap.size w wr) (fun i _ => 3 - (intOf i).toNat)
  case atStart => exact ⟨0, by omega, rfl, ⟨bitm, leads_bit, setRow_heap _ _ _ _ _ _ (Holds.new w1 zeros)⟩, below_setRow (hb1.alloc hz1 _) hz1 _⟩
  case round =>
    obtain ⟨j, hj, rfl, ⟨m, hl, hm⟩, hbw⟩ := hrel
    have hml := hl.1
    by_cases hj3 : j < 3
    · go_wp2_with (first | refine wpList_load_row rfl _ _ rfl _ rfl _ _ _ _ hm hu.out rfl (by rw [size_mval, hml]; kernel_rfl) ?_)
      refine (after_any m m hml hml _).mono ?_
      rintro e w2 ⟨rfl, hb2⟩
      have hm2 := hm.below hb2 (lt_of_block hm)
      have hz2 := hb2.size
      have hzr := hbw.size
      go_wp2_with (first
        | refine wpList_store_row rfl _ _ _ rfl _ _ rfl rfl _ _ hm2 (by rw [size_mval, after_length, hml]; kernel_rfl) (by rw [size_mval, size_mval, after_length]) (mval_one _) ?_)
      go_roundw
      case rel =>
        refine ⟨j + 1, by omega, by go_num, ⟨after m m, ?_, setRow_heap _ _ _ _ _ _ hm2⟩, below_setRow (hbw.trans (hb2.mono hzr)) hz1 _⟩
        have := hl.twice
        rwa [← Nat.two_mul, ← Nat.pow_succ'] at this
      case measure => simp [intOf]; omega
    · have hl8 : Leads m z8 1 := Leads.byte (by rw [show j = 3 by omega] at hl; exact hl)
      clear hl
      go_wp2_with fail
      go_loopw [0, 2] (fun x i wr => ∃ k p : Nat, ∃ y : W32, k ≤ n ∧ i = .int .i64 k ∧ x = .int .u32 (u32 y) ∧ Hid (iter z8 (k * p) y = iter z8 n a) ∧ (∃ m, Leads m z8 p ∧ Holds wr w1.heap.size m) ∧ Below w.heap.size w wr) (fun _ i _ => (intOf i).toNat)
      case atStart => exact ⟨n, 1, a, Nat.le_refl _, rfl, rfl, Lib.hid (by rw [Nat.mul_one]), ⟨m, hl8, hm⟩, hbw⟩
      case round =>
        clear hm hbw hl8 hml
        obtain ⟨k, p, y, hk, rfl, rfl, hy, ⟨m, hl, hm⟩, hbw⟩ := hrel
        have hml := hl.1
        by_cases hk0 : 0 < k
        · rcases Nat.mod_two_eq_zero_or_one k with hp | hp
          · have hpb : ((k : Int) % 2 == 1) = false := by rw [beq_eq_false_iff_ne]; omega
            have hk2 := Lib.hid (show k = 2 * (k / 2) by omega)
            have hkd := Lib.hid (show ((k : Int) / 2) = ((k / 2 : Nat) : Int) by omega)
            clear hp
            go_wp2_with (first | refine wpList_load_row rfl _ _ rfl _ rfl _ _ _ _ hm hu.out rfl (by rw [size_mval, hml]; kernel_rfl) ?_)
            refine (after_any m m hml hml _).mono ?_
            rintro e w2 ⟨rfl, hb2⟩
            have hm2 := hm.below hb2 (lt_of_block hm)
            have hz2 := hb2.size
            have hzr := hbw.size
            go_wp2_with (first
              | refine wpList_store_row rfl _ _ _ rfl _ _ rfl rfl _ _ hm2 (by rw [size_mval, after_length, hml]; kernel_rfl) (by rw [size_mval, size_mval, after_length]) (mval_one _) ?_)
            go_roundw
            case rel =>
              refine ⟨k / 2, p + p, y, by omega, by rw [hkd.out], rfl, ?_, ⟨after m m, hl.twice, setRow_heap _ _ _ _ _ _ hm2⟩, below_setRow (hbw.trans (hb2.mono hzr)) hz1 _⟩
              refine Lib.hid ?_
              rw [← hy.out]
              conv => rhs; rw [hk2.out]
              rw [join_even]
            case measure => simp [intOf]; omega
          · have hpb : ((k : Int) % 2 == 1) = true := by rw [beq_iff_eq]; omega
            have hk2 := Lib.hid (show k = 2 * (k / 2) + 1 by omega)
            have hkd := Lib.hid (show ((k : Int) / 2) = ((k / 2 : Nat) : Int) by omega)
            clear hp
            go_wp2_with (first | refine wpList_load_row rfl _ _ rfl _ rfl _ _ _ _ hm hu.out rfl (by rw [size_mval, hml]; kernel_rfl) ?_)
            refine (times_any m hml y _).mono ?_
            rintro e w3 ⟨rfl, hb3⟩
            have hm3 := hm.below hb3 (lt_of_block hm)
            have hz3 := hb3.size
            have hzr := hbw.size
            have hbw3 := hbw.trans (hb3.mono hzr)
            go_wp2_with (first | refine wpList_load_row rfl _ _ rfl _ rfl _ _ _ _ hm3 hu.out rfl (by rw [size_mval, hml]; kernel_rfl) ?_)
            refine (after_any m m hml hml _).mono ?_
            rintro e w2 ⟨rfl, hb2⟩
            have hm2 := hm3.below hb2 (lt_of_block hm3)
            have hz2 := hb2.size
            go_wp2_with (first
              | refine wpList_store_row rfl _ _ _ rfl _ _ rfl rfl _ _ hm2 (by rw [size_mval, after_length, hml]; kernel_rfl) (by rw [size_mval, size_mval, after_length]) (mval_one _) ?_)
            go_roundw
            case rel =>
              refine ⟨k / 2, p + p, times m y, by omega, by rw [hkd.out], rfl, ?_, ⟨after m m, hl.twice, setRow_heap _ _ _ _ _ _ hm2⟩, below_setRow (hbw3.trans (hb2.mono (by omega))) hz1 _⟩
              refine Lib.hid ?_
              rw [← hy.out, hl.2]
              conv => rhs; rw [hk2.out]
              rw [join_odd]
            case measure => simp [intOf]; omega
        · obtain rfl : k = 0 := by omega
          go_wp2_with fail
          go_ret2
          refine ⟨?_, hbw⟩
          have h1 : y = iter z8 n a := by have := hy.out; rw [Nat.zero_mul] at this; exact this
          rw [h1]; rfl

end Go.Proofs.Ytiglcpfimljpjaa
