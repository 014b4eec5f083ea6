/- The sums: three texts put against one another. -/
import Derived.Test.YtiglcpfimljpjaaSumsAlive
import Derived.Test.YtiglcpfimljpjaaRow
import Derived.Deep.RegionHeld3
import Derived.StillTailTactics
import Derived.BigQuiet
import Derived.Deep.QuietTactic
namespace Go.Proofs.Ytiglcpfimljpjaa
open Go Go.RowKit

theorem u8_xor3 (a b c : UInt8) : bits .xor .u8 (bits .xor .u8 (a.toNat : Int) (b.toNat : Int)) (c.toNat : Int) = ((a ^^^ b ^^^ c).toNat : Int) := by
  rw [u8_xor_nat _ _ a.toNat_lt b.toNat_lt]
  have h : a.toNat ^^^ b.toNat < 256 := Nat.xor_lt_two_pow (n := 8) a.toNat_lt b.toNat_lt
  rw [u8_xor_nat _ _ h c.toNat_lt]
  simp

/-- The bytes of three texts put against one another, the first k; zeros behind. -/
def xor3 (x y z : List UInt8) : List UInt8 := List.zipWith (· ^^^ ·) (List.zipWith (· ^^^ ·) x y) z
theorem xor3_length (x y z : List UInt8) (n : Nat) (hx : x.length = n) (hy : y.length = n) (hz : z.length = n) : (xor3 x y z).length = n := by simp [xor3, hx, hy, hz]
theorem xor3_at (x y z : List UInt8) (n k : Nat) (hx : x.length = n) (hy : y.length = n) (hz : z.length = n) (h : k < n) :
    (xor3 x y z)[k]'(by rw [xor3_length x y z n hx hy hz]; exact h) = x[k] ^^^ y[k] ^^^ z[k] := by
  simp [xor3]
def xorTo (t : List UInt8) (n k : Nat) : List UInt8 := t.take k ++ List.replicate (n - k) 0
theorem xorTo_zero (t : List UInt8) (n : Nat) : xorTo t n 0 = List.replicate n 0 := by simp [xorTo]
theorem xorTo_all (t : List UInt8) (n : Nat) (h : t.length = n) : xorTo t n n = t := by simp [xorTo, List.take_of_length_le (Nat.le_of_eq h)]
theorem xorTo_length (t : List UInt8) (n k : Nat) (h : t.length = n) (hk : k ≤ n) : (xorTo t n k).length = n := by simp [xorTo, h]; omega
theorem xorTo_set (t : List UInt8) (n k : Nat) (h : t.length = n) (hk : k < n) : (xorTo t n k).set k t[k] = xorTo t n (k + 1) := by
  unfold xorTo
  have hl : (t.take k).length = k := by simp; omega
  rw [List.set_append_right _ _ (by omega), hl, Nat.sub_self]
  have hr : List.replicate (n - k) (0 : UInt8) = 0 :: List.replicate (n - (k + 1)) 0 := by
    rw [← List.replicate_succ]; congr 1; omega
  rw [hr, List.set_cons_zero, List.take_succ_eq_append_getElem (by omega), List.append_assoc]; rfl

theorem same {P : Program} {f : FuncId} {args : Array Value} {w : World} {v : Value} (h : Calls P f args w fun e w' => e = .returned v ∧ w = w') : Calls P f args w fun e w' => e = .returned v ∧ w' = w :=
  h.mono fun _ _ ⟨h1, h2⟩ => ⟨h1, h2.symm⟩
theorem info_u8 : (Try.prog.info? 5).map (fun i => (i.zero, i.size, i.bytes)) = some (some (.int .u8 0), 1, 1) := by kernel_rfl

theorem more_xor3 (x y z : List UInt8) (h1 : x.length = y.length) (h2 : y.length = z.length) : more 0#32 (xor3 x y z) = more 0#32 x ^^^ more 0#32 y ^^^ more 0#32 z := by
  unfold more xor3
  have e1 := crc_xor x y h1 (~~~ 0#32) (~~~ 0#32)
  have e2 := crc_xor (List.zipWith (· ^^^ ·) x y) z (by simp; omega) (~~~ 0#32 ^^^ ~~~ 0#32) (~~~ 0#32)
  rw [e1] at e2
  have e3 : (~~~ 0#32 ^^^ ~~~ 0#32 ^^^ ~~~ 0#32 : W32) = ~~~ 0#32 := by decide
  rw [e3] at e2
  rw [e2, ← BitVec.xor_allOnes, ← BitVec.xor_allOnes (x := crc (~~~ 0#32) x), ← BitVec.xor_allOnes (x := crc (~~~ 0#32) y), ← BitVec.xor_allOnes (x := crc (~~~ 0#32) z)]
  simp [BitVec.xor_assoc, xor_lc, xor_back, BitVec.xor_comm]

set_option maxHeartbeats 1000000 in
theorem SumsXor_walk (x y z : ByteArray) (hx : x.size ≤ 9223372036854775807) (hy : y.size ≤ 9223372036854775807) (hz : z.size ≤ 9223372036854775807) (w : World) :
    Calls Try.prog 7 #[.agg #[.string x, .string y, .string z]] w fun e w' => e = .returned (.bool true) ∧ Below w.heap.size w w' := by
  rcases (by omega : 20000 < x.size ∨ (¬ 20000 < x.size ∧ y.size ≠ x.size) ∨ (¬ 20000 < x.size ∧ y.size = x.size ∧ z.size ≠ x.size) ∨ (¬ 20000 < x.size ∧ y.size = x.size ∧ z.size = x.size)) with h | ⟨h0, h⟩ | ⟨h0, h1, h⟩ | ⟨h0, h1, h2⟩
  case inr.inr.inr =>
    have hb : (((y.size : Int)) != (x.size : Int)) = false := by rw [bne_eq_false_iff_eq]; omega
    have hc : (((z.size : Int)) != (x.size : Int)) = false := by rw [bne_eq_false_iff_eq]; omega
    have lx : x.data.toList.length = x.size := by rw [Array.length_toList]; rfl
    have ly : y.data.toList.length = x.size := by rw [Array.length_toList]; exact h1
    have lz : z.data.toList.length = x.size := by rw [Array.length_toList]; exact h2
    have hxor := Lib.hid (more_xor3 x.data.toList y.data.toList z.data.toList (by omega) (by omega))
    have Q1 := Lib.hid h1
    have Q2 := Lib.hid h2
    have LX := Lib.hid lx
    have LY := Lib.hid ly
    have LZ := Lib.hid lz
    clear h1 h2 lx ly lz
    obtain ⟨i0, hi0, hz0, hz1, hz2⟩ := info_parts info_u8
    have ltl := Lib.hid (xor3_length _ _ _ _ LX.out LY.out LZ.out)
    have tat : Hid (∀ k (h : k < x.size), (xor3 x.data.toList y.data.toList z.data.toList)[k]'(by rw [ltl.out]; exact h) = x[k] ^^^ y[k]'(by rw [Q1.out]; exact h) ^^^ z[k]'(by rw [Q2.out]; exact h)) :=
      fun k h => xor3_at _ _ _ _ k LX.out LY.out LZ.out h
    generalize xor3 x.data.toList y.data.toList z.data.toList = t at *
    have HI := Lib.hid hi0
    have HB := Lib.hid hz2
    clear hi0 hz2
    go_enter Try.func7, Try.ntmps7
    go_wp2_with (first
      | (at_make; refine wpList_make_row rfl _ _ _ rfl 5 i0 (.int .u8 0) Try.underlying34 HI.out hz0 hz1 rfl _ _ _ _ x.size x.size rfl rfl rfl rfl (Nat.le_refl _) (by rw [HB.out]; omega) (by omega) ?_))
    go_loopw [5] (fun i wr => ∃ k : Nat, k ≤ x.size ∧ i = .int .i64 k ∧ Row wr w.heap.size 33 [.string x, .string y, .string z] ∧ Row wr (w.heap.size + 1) 5 (bcells (xorTo t x.size k)) ∧ Below w.heap.size w wr) (fun i _ => x.size - (intOf i).toNat)
    case atStart =>
      refine ⟨0, by omega, rfl, (Row.new w _ [.string x, .string y, .string z] rfl).alloc _, ?_, ((Below.refl _ _).alloc (Nat.le_refl _) _).alloc (by simp) _⟩
      rw [xorTo_zero, ← bcells_zero]
      exact Row.new (w.alloc _) _ _ (by simp)
    case round =>
      obtain ⟨k, hk, rfl, ha, hr, hbw⟩ := hrel
      have a0 := ha.cellAt 0 (v := .string x) rfl
      have a1 := ha.cellAt 1 (v := .string y) rfl
      have a2 := ha.cellAt 2 (v := .string z) rfl
      by_cases hlt : k < x.size
      · have hly : k < y.size := by rw [Q1.out]; exact hlt
        have hlz : k < z.size := by rw [Q2.out]; exact hlt
        have hl := xorTo_length t x.size k ltl.out hk
        have ck := hr.cellAt k (bcells_at _ k (by rw [hl]; exact hlt))
        have fk := hr.free k (by rw [bcells_length, hl]; exact hlt)
        clear hl
        generalize bval ((xorTo t x.size k).getD k 0) = old at ck
        have hset := Lib.hid (xorTo_set t x.size k ltl.out hlt)
        have hat := Lib.hid (tat.out k hlt)
        have i0' : (0 : Int) ≤ (k : Int) := by omega
        have i1' : (k : Int) < x.size := by omega
        have i2' : (k : Int) < y.size := by omega
        have i3' : (k : Int) < z.size := by omega
        go_wp2_with fail
        go_still_tail 17, (by kernel_rfl)
        change wpList _ _ _ _ _ wr.drew
        go_wp2_with fail
        go_roundw
        case rel =>
          have hrow := hr.drew.set k (bval (t[k]'(by rw [ltl.out]; exact hlt)))
          rw [bcells_set, hset.out] at hrow
          refine ⟨k + 1, by omega, by go_num, ha.drew.other (by dsimp only; omega) _, ?_, hbw.drew.setCell (by dsimp only; omega) _⟩
          rw [u8_xor3, ← hat.out]; exact hrow
        case measure => simp [intOf]; omega
      · have hkn : k = x.size := by omega
        have hr' : Row wr (w.heap.size + 1) 5 (bcells t) := by rw [hkn, xorTo_all t x.size ltl.out] at hr; exact hr
        have hconv := run_string_of_row (P := Try.prog) 34 9 5 x.size x.size ltl.out.symm Try.underlying34 Try.underlying5 Try.underlying9 hr'.drew
        have hts : (⟨t.toArray⟩ : ByteArray).size ≤ 9223372036854775807 := by
          show t.toArray.size ≤ _; rw [List.size_toArray, ltl.out]; omega
        have s0 := same (sum_any ⟨t.toArray⟩ hts wr.drew)
        rw [show (⟨t.toArray⟩ : ByteArray).data.toList = t from rfl] at s0
        have s1 := same (sum_any x hx wr.drew)
        have s2 := same (sum_any y hy wr.drew)
        have s3 := same (sum_any z hz wr.drew)
        have S0 := Lib.hid s0
        have S1 := Lib.hid s1
        have S2 := Lib.hid s2
        have S3 := Lib.hid s3
        clear s0 s1 s2 s3 hts hr hr' ha
        have hfact : (more 0#32 t == more 0#32 x.data.toList ^^^ more 0#32 y.data.toList ^^^ more 0#32 z.data.toList) = true := by rw [hxor.out]; simp
        generalize more 0#32 t = ct at *
        generalize more 0#32 x.data.toList = cx at *
        generalize more 0#32 y.data.toList = cy at *
        generalize more 0#32 z.data.toList = cz at *
        go_wp2_with fail
        refine wp_region_still_tail 16 (by kernel_rfl) (by kernel_rfl) ?_
        simp only [List.take_succ_cons, List.take_zero, List.drop_succ_cons, List.drop_zero]
        repeat still_step
        still_call S0.out
        repeat still_step
        still_call S1.out
        repeat still_step
        still_call S2.out
        repeat still_step
        still_call S3.out
        repeat still_step
        refine wpStill_nil ?_
        change wpList _ _ _ _ _ wr.drew
        go_wp2_with fail
        refine (alive_any _).mono ?_
        rintro e w5 ⟨rfl, hb5⟩
        go_wp2_with fail
        go_ret
        exact ⟨rfl, hbw.drew.trans (hb5.mono (by have := hbw.size; simp; omega))⟩
  · go_enter Try.func7, Try.ntmps7
    go_wp2_with fail
    refine (alive_any _).mono ?_
    rintro e w5 ⟨rfl, hb5⟩
    go_wp2_with fail
    go_ret
    exact ⟨rfl, ((Below.refl _ _).alloc (Nat.le_refl _) _).trans (hb5.mono (by simp))⟩
  · have hb : (((y.size : Int)) != (x.size : Int)) = true := by rw [bne_iff_ne]; omega
    go_enter Try.func7, Try.ntmps7
    go_wp2_with fail
    refine (alive_any _).mono ?_
    rintro e w5 ⟨rfl, hb5⟩
    go_wp2_with fail
    go_ret
    exact ⟨rfl, ((Below.refl _ _).alloc (Nat.le_refl _) _).trans (hb5.mono (by simp))⟩
  · have hb : (((y.size : Int)) != (x.size : Int)) = false := by rw [bne_eq_false_iff_eq]; omega
    have hc : (((z.size : Int)) != (x.size : Int)) = true := by rw [bne_iff_ne]; omega
    clear h1
    go_enter Try.func7, Try.ntmps7
    go_wp2_with fail
    refine (alive_any _).mono ?_
    rintro e w5 ⟨rfl, hb5⟩
    go_wp2_with fail
    go_ret
    exact ⟨rfl, ((Below.refl _ _).alloc (Nat.le_refl _) _).trans (hb5.mono (by simp))⟩

end Go.Proofs.Ytiglcpfimljpjaa
