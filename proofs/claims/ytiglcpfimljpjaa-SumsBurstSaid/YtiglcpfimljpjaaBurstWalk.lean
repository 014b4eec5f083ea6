/- The sums: a burst. -/
import Derived.Test.YtiglcpfimljpjaaSumsAlive
import Derived.Test.YtiglcpfimljpjaaSumsMat
import Derived.Test.YtiglcpfimljpjaaBurstMath
import Derived.Test.YtiglcpfimljpjaaRow
import Derived.StillTailTactics
import Derived.BigQuiet
import Derived.Deep.QuietTactic
namespace Go.Proofs.Ytiglcpfimljpjaa
open Go Go.RowKit

theorem u8_flip (b : UInt8) (m : Nat) (h : m < 8) : bits .xor .u8 (b.toNat : Int) ((2 : Int) ^ m % 256) = ((b ^^^ (1 <<< UInt8.ofNat m)).toNat : Int) := by
  have e : ∀ m : Fin 8, (2 : Int) ^ m.val % 256 = (((1 : UInt8) <<< UInt8.ofNat m.val).toNat : Int) := by decide
  have e2 : (2 : Int) ^ m % 256 = (((1 : UInt8) <<< UInt8.ofNat m).toNat : Int) := e ⟨m, h⟩
  rw [e2, u8_xor_nat _ _ b.toNat_lt (UInt8.toNat_lt _), ← UInt8.toNat_xor]

set_option maxRecDepth 100000 in
set_option maxHeartbeats 1000000 in
theorem SumsBurst_walk (s : ByteArray) (at0 t : W32) (hs : s.size ≤ 9223372036854775807) (w : World) :
    Calls Try.prog 8 #[.string s, .int .u32 (u32 at0), .int .u32 (u32 t)] w fun e w' => e = .returned (.bool true) ∧ Below w.heap.size w w' := by
  rcases (by omega : 20000 < s.size ∨ (¬ 20000 < s.size ∧ s.size < 5) ∨ (s.size ≤ 20000 ∧ 5 ≤ s.size)) with h | ⟨h0, h⟩ | ⟨h0, h1⟩
  case inr.inr =>
    obtain ⟨cap, wb, spare, kc, hrow, hbw, hsz⟩ := run_bytes_row (P := Try.prog) w 9 34 5 s Try.underlying9 Try.underlying34 Try.underlying5
    go_enter Try.func8, Try.ntmps8
    go_wp2_with fail
    obtain ⟨k, hk, hk2⟩ : ∃ k : Nat, (u32 at0).tmod (8 * (s.size : Int) - 31) = (k : Int) ∧ k + 31 < 8 * s.size := by
      have u0 := u32_lo at0
      refine ⟨((u32 at0).tmod (8 * (s.size : Int) - 31)).toNat, ?_, ?_⟩
      · rw [Int.tmod_eq_emod_of_nonneg u0]; have := Int.emod_nonneg (u32 at0) (b := 8 * (s.size : Int) - 31) (by omega); omega
      · rw [Int.tmod_eq_emod_of_nonneg u0]; have h1 := Int.emod_lt_of_pos (u32 at0) (b := 8 * (s.size : Int) - 31) (by omega); have h2 := Int.emod_nonneg (u32 at0) (b := 8 * (s.size : Int) - 31) (by omega); omega
    rw [hk]
    clear hk kc
    have hl : s.data.toList.length = s.size := by rw [Array.length_toList]; rfl
    have HL := Lib.hid hl
    clear hl
    go_loopw [10] (fun i wr => ∃ j : Nat, j ≤ 32 ∧ i = .int .i64 j ∧ (∃ b : List UInt8, Hid (b.length = s.size) ∧ Row wr w.heap.size 5 (bcells (b ++ spare)) ∧ Hid (crc (~~~ 0#32) b = crc (~~~ 0#32) s.data.toList ^^^ iter bstep (8 * s.size - k) (low t j))) ∧ Below w.heap.size w wr) (fun i _ => 32 - (intOf i).toNat)
    case atStart => exact ⟨0, by omega, rfl, ⟨s.data.toList, HL, hrow, Lib.hid (by rw [low_zero, iter_of_zero]; simp)⟩, hbw⟩
    case round =>
      clear hrow hbw hsz
      obtain ⟨j, hj, rfl, ⟨b, hb, hrow, hcrc⟩, hbw⟩ := hrel
      by_cases hj32 : j < 32
      · have hbit := bit_at t j
        cases htj : t.getLsbD j
        · rw [htj] at hbit
          have hlow : Hid (low t (j + 1) = low t j) := Lib.hid (by rw [low_succ t j hj32, htj]; simp)
          go_wp2_with fail
          go_roundw
          case rel => exact ⟨j + 1, by omega, by go_num, ⟨b, hb, hrow, Lib.hid (by rw [hlow.out]; exact hcrc.out)⟩, hbw⟩
          case measure => simp [intOf]; omega
        · rw [htj] at hbit
          have hq : (k + j) / 8 < s.size := by omega
          have hlb : (b ++ spare).length = s.size + spare.length := by rw [List.length_append, hb.out]
          have ck := hrow.cellAt ((k + j) / 8) (bcells_at (b ++ spare) ((k + j) / 8) (by omega))
          have fk := hrow.free ((k + j) / 8) (by rw [bcells_length]; omega)
          clear hlb
          unfold bval at ck
          generalize hold : (b ++ spare).getD ((k + j) / 8) 0 = old at ck
          have HO := Lib.hid hold
          clear hold
          go_wp2_with fail
          go_roundw
          case rel =>
            refine ⟨j + 1, by omega, by go_num, ⟨flip b (k + j), ?_, ?_, ?_⟩, hbw.setCell (Nat.le_refl _) _⟩
            · refine Lib.hid ?_; rw [flip_length]; exact hb.out
            · have hrow2 := hrow.set ((k + j) / 8) (bval (old ^^^ (1 <<< UInt8.ofNat ((k + j) % 8))))
              rw [bcells_set, List.set_append_left _ _ (by rw [hb.out]; exact hq)] at hrow2
              have ho : old = b.getD ((k + j) / 8) 0 := by
                rw [← HO.out]; simp [List.getD, List.getElem?_append_left, hb.out, hq]
              have he : (Value.int .u8 (bits .xor .u8 (old.toNat : Int) (2 ^ ((k + j) % 8) % 256))) = bval (old ^^^ (1 <<< UInt8.ofNat ((k + j) % 8))) := by
                rw [u8_flip old ((k + j) % 8) (by omega)]; rfl
              rw [he]
              unfold flip
              rw [← ho]
              exact hrow2
            · refine Lib.hid ?_
              rw [crc_flip _ _ _ (by rw [hb.out]; omega), hb.out, hcrc.out, burst_step t (8 * s.size - k) j (by omega) hj32 htj, BitVec.xor_assoc]
              congr 3
              omega
          case measure => simp [intOf]; omega
      · have hjj : j = 32 := by omega
        have hfin := burst_sum s.data.toList b t (8 * s.size - k) (by have := hcrc.out; rw [hjj, low_all] at this; exact this)
        have hconv := run_string_of_head (P := Try.prog) 34 9 5 s.size cap hb.out.symm Try.underlying34 Try.underlying5 Try.underlying9 hrow
        have hts : (⟨b.toArray⟩ : ByteArray).size ≤ 9223372036854775807 := by
          show b.toArray.size ≤ _; rw [List.size_toArray, hb.out]; omega
        have s0 := sum_any ⟨b.toArray⟩ hts wr
        rw [show (⟨b.toArray⟩ : ByteArray).data.toList = b from rfl] at s0
        have s1 := sum_any s hs wr
        have S0 := Lib.hid s0
        have S1 := Lib.hid s1
        clear s0 s1 hts hcrc hrow
        generalize more 0#32 b = cb at *
        generalize more 0#32 s.data.toList = cs at *
        go_wp2_with fail
        refine S0.out.mono ?_
        rintro e w' ⟨rfl, rfl⟩
        go_wp2_with fail
        refine S1.out.mono ?_
        rintro e w' ⟨rfl, rfl⟩
        go_wp2_with fail
        refine (alive_any _).mono ?_
        rintro e w5 ⟨rfl, hb5⟩
        go_wp2_with fail
        go_ret
        exact ⟨rfl, hbw.trans (hb5.mono hbw.size)⟩
  · go_enter Try.func8, Try.ntmps8
    go_wp2_with fail
    refine (alive_any _).mono ?_
    rintro e w5 ⟨rfl, hb5⟩
    go_wp2_with fail
    go_ret
    exact ⟨rfl, hb5⟩
  · go_enter Try.func8, Try.ntmps8
    go_wp2_with fail
    refine (alive_any _).mono ?_
    rintro e w5 ⟨rfl, hb5⟩
    go_wp2_with fail
    go_ret
    exact ⟨rfl, hb5⟩

end Go.Proofs.Ytiglcpfimljpjaa
