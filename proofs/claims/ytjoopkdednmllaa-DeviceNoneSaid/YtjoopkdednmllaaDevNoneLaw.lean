/- The law DeviceNone: its walk, whole. -/
import Derived.Test.YtjoopkdednmllaaDevNone
namespace Go.Proofs.Ytjoopkdednmllaa
open Go Go.RowKit
variable {B b : Nat} {w : World} {y : Lay} {D : Dev}

set_option maxHeartbeats 4000000 in
theorem DeviceNone_walk (i n : Int) (ad : Option Addr) (cap : Nat) (keep : List Bool) (hi : -9223372036854775808 ≤ i ∧ i ≤ 9223372036854775807) (hn : -9223372036854775808 ≤ n ∧ n ≤ 9223372036854775807) (hk : BoolsIn w ad cap keep) :
    Calls Try.prog 4 #[.int .i64 i, .int .i64 n, .slice ad keep.length cap] w fun e w' => e = .returned (.bool true) ∧ Below w.heap.size w w' := by
  clear hk
  generalize keep.length = kl
  have hal := Lib.hid (fun w => alive_any w)
  have hB : Hid (∀ w, Calls Try.prog 35 #[.int .u8 1] w fun e w' => e = .returned (.string (blk 1)) ∧ Below w.heap.size w w') := Lib.hid (fun w => block_any 1 w)
  generalize blk 1 = t1 at *
  have hc1 : Hid (∀ w v, NoneAt w v → Calls Try.prog 19 #[v, .int .i64 n] w fun e w' => e = .returned (.tuple #[]) ∧ w = w') := Lib.hid fun w v h => none_arm v n h
  have hc2 : Hid (∀ w v, NoneAt w v → Calls Try.prog 21 #[v, .int .i64 i] w fun e w' => e = .returned (.tuple #[.string ⟨#[]⟩, .int .i64 1]) ∧ w = w') := Lib.hid fun w v h => none_read v i h
  have hc3 : Hid (∀ w v, NoneAt w v → Calls Try.prog 29 #[v] w fun e w' => e = .returned (.int .i64 0) ∧ w = w') := Lib.hid fun w v h => none_blocks v h
  have hc4 : Hid (∀ w v, NoneAt w v → Calls Try.prog 14 #[v, .int .i64 i, .string t1] w fun e w' => e = .returned (.int .i64 1) ∧ w = w') := Lib.hid fun w v h => none_write v i t1 h
  have hc5 : Hid (∀ w v, NoneAt w v → Calls Try.prog 17 #[v] w fun e w' => e = .returned (.int .i64 1) ∧ w = w') := Lib.hid fun w v h => none_flush v h
  have hc6 : Hid (∀ w v, NoneAt w v → Calls Try.prog 26 #[v] w fun e w' => e = .returned (.bool false) ∧ w = w') := Lib.hid fun w v h => none_dead v h
  have hc7 : Hid (∀ w v, NoneAt w v → Calls Try.prog 28 #[v] w fun e w' => e = .returned (.int .i64 0) ∧ w = w') := Lib.hid fun w v h => none_acts v h
  have hc8 : Hid (∀ w v, NoneAt w v → Calls Try.prog 23 #[v] w fun e w' => e = .returned (.slice none 0 0) ∧ w = w') := Lib.hid fun w v h => none_pending v h
  have hc9 : Hid (∀ w v, NoneAt w v → Calls Try.prog 33 #[v] w fun e w' => e = .returned (.string ⟨#[]⟩) ∧ w = w') := Lib.hid fun w v h => none_kept v h
  have hc10 : Hid (∀ w v, NoneAt w v → Calls Try.prog 31 #[v, .slice ad kl cap] w fun e w' => e = .returned (.string ⟨#[]⟩) ∧ w = w') := Lib.hid fun w v h => none_crash v ad kl cap h
  go_enter Try.func4, Try.ntmps4
  go_wp2_with fail
  go_loopw [7] (fun q wr => ∃ j : Nat, j ≤ 2 ∧ q = .int .i64 j ∧ Hid (Below w.heap.size w wr)) (fun q _ => 2 - (intOf q).toNat)
  case atStart => exact ⟨0, by omega, rfl, Lib.hid (Below.refl _ _)⟩
  case round =>
    obtain ⟨j, hj, rfl, hb⟩ := hrel
    by_cases hlt : j < 2
    · have hcase : j = 0 ∨ j = 1 := by omega
      have hjz : (j : Int) < 2 := by omega
      rcases hcase with rfl | rfl
      · have hN : Hid (∀ w, NoneAt w (.pointer none)) := Lib.hid (fun w => .inl rfl)
        go_wp2_with fail
        refine (hc1.out _ _ (hN.out _)).mono ?_
        rintro e w1 ⟨rfl, rfl⟩
        go_wp2_with fail
        refine (hc2.out _ _ (hN.out _)).mono ?_
        rintro e w1 ⟨rfl, rfl⟩
        go_wp2_with fail
        refine (hc3.out _ _ (hN.out _)).mono ?_
        rintro e w1 ⟨rfl, rfl⟩
        go_wp2_with fail
        refine (hB.out _).mono ?_
        rintro e w1 ⟨rfl, b1⟩
        have B1 := Lib.hid (hb.out.trans (b1.mono hb.out.size))
        clear b1
        go_wp2_with fail
        refine (hc4.out _ _ (hN.out _)).mono ?_
        rintro e w2 ⟨rfl, rfl⟩
        go_wp2_with fail
        refine (hc5.out _ _ (hN.out _)).mono ?_
        rintro e w2 ⟨rfl, rfl⟩
        go_wp2_with fail
        refine (hc6.out _ _ (hN.out _)).mono ?_
        rintro e w2 ⟨rfl, rfl⟩
        go_wp2_with fail
        refine (hc7.out _ _ (hN.out _)).mono ?_
        rintro e w2 ⟨rfl, rfl⟩
        go_wp2_with fail
        refine (hc8.out _ _ (hN.out _)).mono ?_
        rintro e w2 ⟨rfl, rfl⟩
        go_wp2_with fail
        refine (hc9.out _ _ (hN.out _)).mono ?_
        rintro e w2 ⟨rfl, rfl⟩
        go_wp2_with fail
        refine (hc10.out _ _ (hN.out _)).mono ?_
        rintro e w2 ⟨rfl, rfl⟩
        go_wp2_with fail
        go_roundw
        case rel => exact ⟨1, by omega, rfl, B1⟩
        case measure => simp [intOf]
      · have hN : Hid (∀ w2, Below (wr.heap.size + 1) (wr.alloc (.cells #[.slice none 0 0, .slice none 0 0, .slice none 0 0, .bool false, .int .i64 0, .int .i64 0] 52)) w2 → NoneAt w2 (.pointer (some ⟨wr.heap.size, 0, none⟩))) := Lib.hid (fun w2 h2 => .inr ⟨_, rfl, by rw [h2.block _ (by omega)]; exact heap_alloc_new wr _⟩)
        have hN0 := Lib.hid (hN.out _ (Below.refl _ _))
        go_wp2_with fail
        refine (hc1.out _ _ hN0.out).mono ?_
        rintro e w1 ⟨rfl, rfl⟩
        go_wp2_with fail
        refine (hc2.out _ _ hN0.out).mono ?_
        rintro e w1 ⟨rfl, rfl⟩
        go_wp2_with fail
        refine (hc3.out _ _ hN0.out).mono ?_
        rintro e w1 ⟨rfl, rfl⟩
        go_wp2_with fail
        refine (hB.out _).mono ?_
        rintro e w1 ⟨rfl, b1⟩
        have hN1 := Lib.hid (hN.out w1 (by simpa using b1))
        have B1 := Lib.hid ((hb.out.alloc hb.out.size _).trans (b1.mono (by have := hb.out.size; simp; omega)))
        clear b1 hN hN0
        go_wp2_with fail
        refine (hc4.out _ _ hN1.out).mono ?_
        rintro e w2 ⟨rfl, rfl⟩
        go_wp2_with fail
        refine (hc5.out _ _ hN1.out).mono ?_
        rintro e w2 ⟨rfl, rfl⟩
        go_wp2_with fail
        refine (hc6.out _ _ hN1.out).mono ?_
        rintro e w2 ⟨rfl, rfl⟩
        go_wp2_with fail
        refine (hc7.out _ _ hN1.out).mono ?_
        rintro e w2 ⟨rfl, rfl⟩
        go_wp2_with fail
        refine (hc8.out _ _ hN1.out).mono ?_
        rintro e w2 ⟨rfl, rfl⟩
        go_wp2_with fail
        refine (hc9.out _ _ hN1.out).mono ?_
        rintro e w2 ⟨rfl, rfl⟩
        go_wp2_with fail
        refine (hc10.out _ _ hN1.out).mono ?_
        rintro e w2 ⟨rfl, rfl⟩
        go_wp2_with fail
        go_roundw
        case rel => exact ⟨2, by omega, rfl, B1⟩
        case measure => simp [intOf]
    · obtain rfl : j = 2 := by omega
      go_wp2_with fail
      refine (hal.out _).mono ?_
      rintro e w9 ⟨rfl, b9⟩
      have B9 := Lib.hid (hb.out.trans (b9.mono hb.out.size))
      clear b9
      go_wp2_with fail
      go_ret
      exact ⟨rfl, B9.out⟩

end Go.Proofs.Ytjoopkdednmllaa
