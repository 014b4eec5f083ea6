/- RunsEach's walk. -/
import Derived.Test.YtkpnimekhekpmaaRunsCounts
namespace Go.Proofs.Ytkpnimekhekpmaa
open Go Go.RowKit

set_option maxRecDepth 100000 in
set_option maxHeartbeats 8000000 in
theorem RunsEach_walk {w : World} (ad : Option Addr) (cap : Nat) (a : RL) (bd : Option Addr) (bcap : Nat) (b : RL) (i : Int) (h1 : RunsIn w (.slice ad a.length cap) a) (h2 : RunsIn w (.slice bd b.length bcap) b) (hi : -9223372036854775808 ≤ i ∧ i ≤ 9223372036854775807) :
    Calls Try.prog 10 #[.slice ad a.length cap, .slice bd b.length bcap, .int .i64 i] w fun e w' => e = .returned (.bool true) ∧ Below w.heap.size w w' := by
  have l1 := h1.len
  have l2 := h2.len
  by_cases ea : 150 < (a.length : Int)
  · go_enter Try.func10, Try.ntmps10
    go_wp2_with fail
    go_ret
    exact ⟨rfl, Below.refl _ _⟩
  by_cases eb : 150 < (b.length : Int)
  · go_enter Try.func10, Try.ntmps10
    go_wp2_with fail
    go_ret
    exact ⟨rfl, Below.refl _ _⟩
  have S1 := Lib.hid h1.small
  have S2 := Lib.hid h2.small
  have A_0 := Lib.hid h1.at_
  have B_0 := Lib.hid h2.at_
  have z1 : (a.length : Int) ≤ 150 := by omega
  have z2 : (b.length : Int) ≤ 150 := by omega
  have len_A : Hid (a.length ≤ 150) := Lib.hid (by omega)
  have len_B : Hid (b.length ≤ 150) := Lib.hid (by omega)
  have hU := Lib.hid (hasB_union a b i)
  have hM := Lib.hid (hasB_minus a b i)
  have hT := Lib.hid (hasB_meet a b i)
  have kU := Lib.hid (check_row.2 (union_row a b))
  have kM := Lib.hid (check_row.2 (minus_row a b))
  have kT := Lib.hid (check_row.2 (meet_row a b))
  have wi : 0 ≤ i → i ≤ 4611686018427387904 → IntKind.i64.wrap (i + 1) = i + 1 := fun _ _ => IntWalk.i64_in _ (by omega)
  have hR := Lib.hid (fun (h0 : 0 ≤ i) (h1 : i ≤ 4611686018427387904) => hasB_rest a (i + 1) i (by unfold Runs.top; omega) h0)
  have hR1 := Lib.hid (fun (h0 : 0 ≤ i) (h1 : i ≤ 4611686018427387904) => hasB_rest a (i + 1) (i + 1) (by unfold Runs.top; omega) (by omega))
  have kR := Lib.hid (fun (h1 : i ≤ 4611686018427387904) => check_row.2 (Runs.restR_spec a (i + 1) (by unfold Runs.top; omega)).1)
  have rR := Lib.hid (fun (h1 : i ≤ 4611686018427387904) => (Runs.restR_spec a (i + 1) (by unfold Runs.top; omega)).1)
  have lR := Lib.hid (fun (h1 : i ≤ 4611686018427387904) => rest_len a (i + 1) (by unfold Runs.top; omega))
  clear h1 h2
  rcases hx0 : hasB a i with _ | _
  · have hx := Lib.hid hx0
    clear hx0
    rcases hy0 : hasB b i with _ | _
    · have hy := Lib.hid hy0
      clear hy0
      go_enter Try.func10, Try.ntmps10
      have q1 := Lib.hid (has_any _ a i _ S1.out A_0.out (by omega) hi)
      rw [hx.out] at q1
      go_wp2_with fail
      refine q1.out.mono ?_
      rintro e w1 ⟨rfl, b1⟩
      have A_1 := Lib.hid (A_0.out.below (B := 0) b1)
      have B_1 := Lib.hid (B_0.out.below (B := 0) b1)
      have Y1 := Lib.hid b1
      clear b1 q1 A_0 B_0
      have q2 := Lib.hid (has_any _ b i _ S2.out B_1.out (by omega) hi)
      rw [hy.out] at q2
      go_wp2_with fail
      refine q2.out.mono ?_
      rintro e w2 ⟨rfl, b2⟩
      have A_2 := Lib.hid (A_1.out.below (B := 0) b2)
      have B_2 := Lib.hid (B_1.out.below (B := 0) b2)
      have Y2 := Lib.hid (Y1.out.trans (b2.mono Y1.out.size))
      clear b2 q2 A_1 B_1 Y1
      have q3 := Lib.hid (union_any _ _ a b _ S1.out S2.out A_2.out B_2.out (by have := len_A.out; omega) (by have := len_B.out; omega))
      go_wp2_with fail
      refine q3.out.mono ?_
      rintro e w3 ⟨v3, rfl, o3, b3⟩
      have A_3 := Lib.hid (A_2.out.below (B := 0) b3)
      have B_3 := Lib.hid (B_2.out.below (B := 0) b3)
      have Y3 := Lib.hid (Y2.out.trans (b3.mono Y2.out.size))
      have U_3 := Lib.hid (OwnRuns.at o3)
      obtain ⟨ad3, n3, c3, rfl⟩ := o3.slice
      clear o3 b3 q3 A_2 B_2 Y2
      have len_U : Hid ((unionR a b).length ≤ 300) := Lib.hid (by have h0 := union_len a b; have h1 := len_A.out; have h2 := len_B.out; omega)
      have q4 := Lib.hid (minus_any _ _ a b _ S1.out S2.out A_3.out B_3.out (by have := len_A.out; omega) (by have := len_B.out; omega))
      go_wp2_with fail
      refine q4.out.mono ?_
      rintro e w4 ⟨v4, rfl, o4, b4⟩
      have A_4 := Lib.hid (A_3.out.below (B := 0) b4)
      have B_4 := Lib.hid (B_3.out.below (B := 0) b4)
      have U_4 := Lib.hid (U_3.out.below (B := 0) b4)
      have Y4 := Lib.hid (Y3.out.trans (b4.mono Y3.out.size))
      have M_4 := Lib.hid (OwnRuns.at o4)
      obtain ⟨ad4, n4, c4, rfl⟩ := o4.slice
      clear o4 b4 q4 A_3 B_3 U_3 Y3
      have len_M : Hid ((Runs.minusR a b).length ≤ 301) := Lib.hid (by have h0 := minus_len a b; have h1 := len_A.out; have h2 := len_B.out; omega)
      have q5 := Lib.hid (meet_any _ _ a b _ S1.out S2.out A_4.out B_4.out (by have := len_A.out; omega) (by have := len_B.out; omega))
      go_wp2_with fail
      refine q5.out.mono ?_
      rintro e w5 ⟨v5, rfl, o5, b5⟩
      have A_5 := Lib.hid (A_4.out.below (B := 0) b5)
      have B_5 := Lib.hid (B_4.out.below (B := 0) b5)
      have U_5 := Lib.hid (U_4.out.below (B := 0) b5)
      have M_5 := Lib.hid (M_4.out.below (B := 0) b5)
      have Y5 := Lib.hid (Y4.out.trans (b5.mono Y4.out.size))
      have T_5 := Lib.hid (OwnRuns.at o5)
      obtain ⟨ad5, n5, c5, rfl⟩ := o5.slice
      clear o5 b5 q5 A_4 B_4 U_4 M_4 Y4
      have len_T : Hid ((Runs.meetR a b).length ≤ 300) := Lib.hid (by have h0 := meet_len a b; have h1 := len_A.out; have h2 := len_B.out; omega)
      have q6 := Lib.hid (has_any _ (unionR a b) i _ (Smalls.row (union_row a b)) U_5.out (by have := len_U.out; omega) hi)
      rw [show hasB (unionR a b) i = false by rw [hU.out, hx.out, hy.out]; rfl] at q6
      go_wp2_with fail
      refine q6.out.mono ?_
      rintro e w6 ⟨rfl, b6⟩
      have A_6 := Lib.hid (A_5.out.below (B := 0) b6)
      have B_6 := Lib.hid (B_5.out.below (B := 0) b6)
      have U_6 := Lib.hid (U_5.out.below (B := 0) b6)
      have M_6 := Lib.hid (M_5.out.below (B := 0) b6)
      have T_6 := Lib.hid (T_5.out.below (B := 0) b6)
      have Y6 := Lib.hid (Y5.out.trans (b6.mono Y5.out.size))
      clear b6 q6 A_5 B_5 U_5 M_5 T_5 Y5
      have q7 := Lib.hid (has_any _ (Runs.minusR a b) i _ (Smalls.row (minus_row a b)) M_6.out (by have := len_M.out; omega) hi)
      rw [show hasB (Runs.minusR a b) i = false by rw [hM.out, hx.out, hy.out]; rfl] at q7
      go_wp2_with fail
      refine q7.out.mono ?_
      rintro e w7 ⟨rfl, b7⟩
      have A_7 := Lib.hid (A_6.out.below (B := 0) b7)
      have B_7 := Lib.hid (B_6.out.below (B := 0) b7)
      have U_7 := Lib.hid (U_6.out.below (B := 0) b7)
      have M_7 := Lib.hid (M_6.out.below (B := 0) b7)
      have T_7 := Lib.hid (T_6.out.below (B := 0) b7)
      have Y7 := Lib.hid (Y6.out.trans (b7.mono Y6.out.size))
      clear b7 q7 A_6 B_6 U_6 M_6 T_6 Y6
      have q8 := Lib.hid (has_any _ (Runs.meetR a b) i _ (Smalls.row (meet_row a b)) T_7.out (by have := len_T.out; omega) hi)
      rw [show hasB (Runs.meetR a b) i = false by rw [hT.out, hx.out, hy.out]; rfl] at q8
      go_wp2_with fail
      refine q8.out.mono ?_
      rintro e w8 ⟨rfl, b8⟩
      have A_8 := Lib.hid (A_7.out.below (B := 0) b8)
      have B_8 := Lib.hid (B_7.out.below (B := 0) b8)
      have U_8 := Lib.hid (U_7.out.below (B := 0) b8)
      have M_8 := Lib.hid (M_7.out.below (B := 0) b8)
      have T_8 := Lib.hid (T_7.out.below (B := 0) b8)
      have Y8 := Lib.hid (Y7.out.trans (b8.mono Y7.out.size))
      clear b8 q8 A_7 B_7 U_7 M_7 T_7 Y7
      have q9 := Lib.hid (check_any _ (unionR a b) _ (Smalls.row (union_row a b)) U_8.out (by have := len_U.out; omega))
      rw [kU.out] at q9
      go_wp2_with fail
      refine q9.out.mono ?_
      rintro e w9 ⟨rfl, b9⟩
      have A_9 := Lib.hid (A_8.out.below (B := 0) b9)
      have B_9 := Lib.hid (B_8.out.below (B := 0) b9)
      have M_9 := Lib.hid (M_8.out.below (B := 0) b9)
      have T_9 := Lib.hid (T_8.out.below (B := 0) b9)
      have Y9 := Lib.hid (Y8.out.trans (b9.mono Y8.out.size))
      clear b9 q9 A_8 B_8 U_8 M_8 T_8 Y8
      have q10 := Lib.hid (check_any _ (Runs.minusR a b) _ (Smalls.row (minus_row a b)) M_9.out (by have := len_M.out; omega))
      rw [kM.out] at q10
      go_wp2_with fail
      refine q10.out.mono ?_
      rintro e w10 ⟨rfl, b10⟩
      have A_10 := Lib.hid (A_9.out.below (B := 0) b10)
      have B_10 := Lib.hid (B_9.out.below (B := 0) b10)
      have T_10 := Lib.hid (T_9.out.below (B := 0) b10)
      have Y10 := Lib.hid (Y9.out.trans (b10.mono Y9.out.size))
      clear b10 q10 A_9 B_9 M_9 T_9 Y9
      have q11 := Lib.hid (check_any _ (Runs.meetR a b) _ (Smalls.row (meet_row a b)) T_10.out (by have := len_T.out; omega))
      rw [kT.out] at q11
      go_wp2_with fail
      refine q11.out.mono ?_
      rintro e w11 ⟨rfl, b11⟩
      have A_11 := Lib.hid (A_10.out.below (B := 0) b11)
      have Y11 := Lib.hid (Y10.out.trans (b11.mono Y10.out.size))
      clear b11 q11 A_10 B_10 T_10 Y10
      by_cases i0 : i < 0
      · skip
        have q12 := Lib.hid (alive_any w11)
        go_wp2_with fail
        refine q12.out.mono ?_
        rintro e w12 ⟨rfl, b12⟩
        have A_12 := Lib.hid (A_11.out.below (B := 0) b12)
        have Y12 := Lib.hid (Y11.out.trans (b12.mono Y11.out.size))
        clear b12 q12 A_11 Y11
        go_wp2_with fail
        go_ret
        exact ⟨rfl, Y12.out⟩
      · by_cases i9 : 4611686018427387904 < i
        · skip
          have q12 := Lib.hid (alive_any w11)
          go_wp2_with fail
          refine q12.out.mono ?_
          rintro e w12 ⟨rfl, b12⟩
          have A_12 := Lib.hid (A_11.out.below (B := 0) b12)
          have Y12 := Lib.hid (Y11.out.trans (b12.mono Y11.out.size))
          clear b12 q12 A_11 Y11
          go_wp2_with fail
          go_ret
          exact ⟨rfl, Y12.out⟩
        · skip
          have wi2 := wi (by omega) (by omega)
          have q12 := Lib.hid (complement_any _ a (i + 1) _ S1.out A_11.out (by omega) (by omega))
          go_wp2_with fail
          refine q12.out.mono ?_
          rintro e w12 ⟨v12, rfl, o12, b12⟩
          have A_12 := Lib.hid (A_11.out.below (B := 0) b12)
          have Y12 := Lib.hid (Y11.out.trans (b12.mono Y11.out.size))
          have C_12 := Lib.hid (OwnRuns.at o12)
          obtain ⟨ad12, n12, c12, rfl⟩ := o12.slice
          clear o12 b12 q12 A_11 Y11
          have q13 := Lib.hid (has_any _ (Runs.restR a (i + 1)) i _ (Smalls.row (rR.out (by omega))) C_12.out (by have := lR.out (by omega); omega) hi)
          rw [show hasB (Runs.restR a (i + 1)) i = true by rw [hR.out (by omega) (by omega), hx.out]; simp <;> omega] at q13
          go_wp2_with fail
          refine q13.out.mono ?_
          rintro e w13 ⟨rfl, b13⟩
          have A_13 := Lib.hid (A_12.out.below (B := 0) b13)
          have C_13 := Lib.hid (C_12.out.below (B := 0) b13)
          have Y13 := Lib.hid (Y12.out.trans (b13.mono Y12.out.size))
          clear b13 q13 A_12 C_12 Y12
          have q14 := Lib.hid (has_any _ (Runs.restR a (i + 1)) (i + 1) _ (Smalls.row (rR.out (by omega))) C_13.out (by have := lR.out (by omega); omega) (by omega))
          rw [show hasB (Runs.restR a (i + 1)) (i + 1) = false by rw [hR1.out (by omega) (by omega)]; simp] at q14
          go_wp2_with fail
          refine q14.out.mono ?_
          rintro e w14 ⟨rfl, b14⟩
          have A_14 := Lib.hid (A_13.out.below (B := 0) b14)
          have C_14 := Lib.hid (C_13.out.below (B := 0) b14)
          have Y14 := Lib.hid (Y13.out.trans (b14.mono Y13.out.size))
          clear b14 q14 A_13 C_13 Y13
          have q15 := Lib.hid (check_any _ (Runs.restR a (i + 1)) _ (Smalls.row (rR.out (by omega))) C_14.out (by have := lR.out (by omega); omega))
          rw [kR.out (by omega)] at q15
          go_wp2_with fail
          refine q15.out.mono ?_
          rintro e w15 ⟨rfl, b15⟩
          have A_15 := Lib.hid (A_14.out.below (B := 0) b15)
          have Y15 := Lib.hid (Y14.out.trans (b15.mono Y14.out.size))
          clear b15 q15 A_14 C_14 Y14
          have q16 := Lib.hid (alive_any w15)
          go_wp2_with fail
          refine q16.out.mono ?_
          rintro e w16 ⟨rfl, b16⟩
          have A_16 := Lib.hid (A_15.out.below (B := 0) b16)
          have Y16 := Lib.hid (Y15.out.trans (b16.mono Y15.out.size))
          clear b16 q16 A_15 Y15
          go_wp2_with fail
          go_ret
          exact ⟨rfl, Y16.out⟩
    · have hy := Lib.hid hy0
      clear hy0
      go_enter Try.func10, Try.ntmps10
      have q1 := Lib.hid (has_any _ a i _ S1.out A_0.out (by omega) hi)
      rw [hx.out] at q1
      go_wp2_with fail
      refine q1.out.mono ?_
      rintro e w1 ⟨rfl, b1⟩
      have A_1 := Lib.hid (A_0.out.below (B := 0) b1)
      have B_1 := Lib.hid (B_0.out.below (B := 0) b1)
      have Y1 := Lib.hid b1
      clear b1 q1 A_0 B_0
      have q2 := Lib.hid (has_any _ b i _ S2.out B_1.out (by omega) hi)
      rw [hy.out] at q2
      go_wp2_with fail
      refine q2.out.mono ?_
      rintro e w2 ⟨rfl, b2⟩
      have A_2 := Lib.hid (A_1.out.below (B := 0) b2)
      have B_2 := Lib.hid (B_1.out.below (B := 0) b2)
      have Y2 := Lib.hid (Y1.out.trans (b2.mono Y1.out.size))
      clear b2 q2 A_1 B_1 Y1
      have q3 := Lib.hid (union_any _ _ a b _ S1.out S2.out A_2.out B_2.out (by have := len_A.out; omega) (by have := len_B.out; omega))
      go_wp2_with fail
      refine q3.out.mono ?_
      rintro e w3 ⟨v3, rfl, o3, b3⟩
      have A_3 := Lib.hid (A_2.out.below (B := 0) b3)
      have B_3 := Lib.hid (B_2.out.below (B := 0) b3)
      have Y3 := Lib.hid (Y2.out.trans (b3.mono Y2.out.size))
      have U_3 := Lib.hid (OwnRuns.at o3)
      obtain ⟨ad3, n3, c3, rfl⟩ := o3.slice
      clear o3 b3 q3 A_2 B_2 Y2
      have len_U : Hid ((unionR a b).length ≤ 300) := Lib.hid (by have h0 := union_len a b; have h1 := len_A.out; have h2 := len_B.out; omega)
      have q4 := Lib.hid (minus_any _ _ a b _ S1.out S2.out A_3.out B_3.out (by have := len_A.out; omega) (by have := len_B.out; omega))
      go_wp2_with fail
      refine q4.out.mono ?_
      rintro e w4 ⟨v4, rfl, o4, b4⟩
      have A_4 := Lib.hid (A_3.out.below (B := 0) b4)
      have B_4 := Lib.hid (B_3.out.below (B := 0) b4)
      have U_4 := Lib.hid (U_3.out.below (B := 0) b4)
      have Y4 := Lib.hid (Y3.out.trans (b4.mono Y3.out.size))
      have M_4 := Lib.hid (OwnRuns.at o4)
      obtain ⟨ad4, n4, c4, rfl⟩ := o4.slice
      clear o4 b4 q4 A_3 B_3 U_3 Y3
      have len_M : Hid ((Runs.minusR a b).length ≤ 301) := Lib.hid (by have h0 := minus_len a b; have h1 := len_A.out; have h2 := len_B.out; omega)
      have q5 := Lib.hid (meet_any _ _ a b _ S1.out S2.out A_4.out B_4.out (by have := len_A.out; omega) (by have := len_B.out; omega))
      go_wp2_with fail
      refine q5.out.mono ?_
      rintro e w5 ⟨v5, rfl, o5, b5⟩
      have A_5 := Lib.hid (A_4.out.below (B := 0) b5)
      have B_5 := Lib.hid (B_4.out.below (B := 0) b5)
      have U_5 := Lib.hid (U_4.out.below (B := 0) b5)
      have M_5 := Lib.hid (M_4.out.below (B := 0) b5)
      have Y5 := Lib.hid (Y4.out.trans (b5.mono Y4.out.size))
      have T_5 := Lib.hid (OwnRuns.at o5)
      obtain ⟨ad5, n5, c5, rfl⟩ := o5.slice
      clear o5 b5 q5 A_4 B_4 U_4 M_4 Y4
      have len_T : Hid ((Runs.meetR a b).length ≤ 300) := Lib.hid (by have h0 := meet_len a b; have h1 := len_A.out; have h2 := len_B.out; omega)
      have q6 := Lib.hid (has_any _ (unionR a b) i _ (Smalls.row (union_row a b)) U_5.out (by have := len_U.out; omega) hi)
      rw [show hasB (unionR a b) i = true by rw [hU.out, hx.out, hy.out]; rfl] at q6
      go_wp2_with fail
      refine q6.out.mono ?_
      rintro e w6 ⟨rfl, b6⟩
      have A_6 := Lib.hid (A_5.out.below (B := 0) b6)
      have B_6 := Lib.hid (B_5.out.below (B := 0) b6)
      have U_6 := Lib.hid (U_5.out.below (B := 0) b6)
      have M_6 := Lib.hid (M_5.out.below (B := 0) b6)
      have T_6 := Lib.hid (T_5.out.below (B := 0) b6)
      have Y6 := Lib.hid (Y5.out.trans (b6.mono Y5.out.size))
      clear b6 q6 A_5 B_5 U_5 M_5 T_5 Y5
      have q7 := Lib.hid (has_any _ (Runs.minusR a b) i _ (Smalls.row (minus_row a b)) M_6.out (by have := len_M.out; omega) hi)
      rw [show hasB (Runs.minusR a b) i = false by rw [hM.out, hx.out, hy.out]; rfl] at q7
      go_wp2_with fail
      refine q7.out.mono ?_
      rintro e w7 ⟨rfl, b7⟩
      have A_7 := Lib.hid (A_6.out.below (B := 0) b7)
      have B_7 := Lib.hid (B_6.out.below (B := 0) b7)
      have U_7 := Lib.hid (U_6.out.below (B := 0) b7)
      have M_7 := Lib.hid (M_6.out.below (B := 0) b7)
      have T_7 := Lib.hid (T_6.out.below (B := 0) b7)
      have Y7 := Lib.hid (Y6.out.trans (b7.mono Y6.out.size))
      clear b7 q7 A_6 B_6 U_6 M_6 T_6 Y6
      have q8 := Lib.hid (has_any _ (Runs.meetR a b) i _ (Smalls.row (meet_row a b)) T_7.out (by have := len_T.out; omega) hi)
      rw [show hasB (Runs.meetR a b) i = false by rw [hT.out, hx.out, hy.out]; rfl] at q8
      go_wp2_with fail
      refine q8.out.mono ?_
      rintro e w8 ⟨rfl, b8⟩
      have A_8 := Lib.hid (A_7.out.below (B := 0) b8)
      have B_8 := Lib.hid (B_7.out.below (B := 0) b8)
      have U_8 := Lib.hid (U_7.out.below (B := 0) b8)
      have M_8 := Lib.hid (M_7.out.below (B := 0) b8)
      have T_8 := Lib.hid (T_7.out.below (B := 0) b8)
      have Y8 := Lib.hid (Y7.out.trans (b8.mono Y7.out.size))
      clear b8 q8 A_7 B_7 U_7 M_7 T_7 Y7
      have q9 := Lib.hid (check_any _ (unionR a b) _ (Smalls.row (union_row a b)) U_8.out (by have := len_U.out; omega))
      rw [kU.out] at q9
      go_wp2_with fail
      refine q9.out.mono ?_
      rintro e w9 ⟨rfl, b9⟩
      have A_9 := Lib.hid (A_8.out.below (B := 0) b9)
      have B_9 := Lib.hid (B_8.out.below (B := 0) b9)
      have M_9 := Lib.hid (M_8.out.below (B := 0) b9)
      have T_9 := Lib.hid (T_8.out.below (B := 0) b9)
      have Y9 := Lib.hid (Y8.out.trans (b9.mono Y8.out.size))
      clear b9 q9 A_8 B_8 U_8 M_8 T_8 Y8
      have q10 := Lib.hid (check_any _ (Runs.minusR a b) _ (Smalls.row (minus_row a b)) M_9.out (by have := len_M.out; omega))
      rw [kM.out] at q10
      go_wp2_with fail
      refine q10.out.mono ?_
      rintro e w10 ⟨rfl, b10⟩
      have A_10 := Lib.hid (A_9.out.below (B := 0) b10)
      have B_10 := Lib.hid (B_9.out.below (B := 0) b10)
      have T_10 := Lib.hid (T_9.out.below (B := 0) b10)
      have Y10 := Lib.hid (Y9.out.trans (b10.mono Y9.out.size))
      clear b10 q10 A_9 B_9 M_9 T_9 Y9
      have q11 := Lib.hid (check_any _ (Runs.meetR a b) _ (Smalls.row (meet_row a b)) T_10.out (by have := len_T.out; omega))
      rw [kT.out] at q11
      go_wp2_with fail
      refine q11.out.mono ?_
      rintro e w11 ⟨rfl, b11⟩
      have A_11 := Lib.hid (A_10.out.below (B := 0) b11)
      have Y11 := Lib.hid (Y10.out.trans (b11.mono Y10.out.size))
      clear b11 q11 A_10 B_10 T_10 Y10
      by_cases i0 : i < 0
      · skip
        have q12 := Lib.hid (alive_any w11)
        go_wp2_with fail
        refine q12.out.mono ?_
        rintro e w12 ⟨rfl, b12⟩
        have A_12 := Lib.hid (A_11.out.below (B := 0) b12)
        have Y12 := Lib.hid (Y11.out.trans (b12.mono Y11.out.size))
        clear b12 q12 A_11 Y11
        go_wp2_with fail
        go_ret
        exact ⟨rfl, Y12.out⟩
      · by_cases i9 : 4611686018427387904 < i
        · skip
          have q12 := Lib.hid (alive_any w11)
          go_wp2_with fail
          refine q12.out.mono ?_
          rintro e w12 ⟨rfl, b12⟩
          have A_12 := Lib.hid (A_11.out.below (B := 0) b12)
          have Y12 := Lib.hid (Y11.out.trans (b12.mono Y11.out.size))
          clear b12 q12 A_11 Y11
          go_wp2_with fail
          go_ret
          exact ⟨rfl, Y12.out⟩
        · skip
          have wi2 := wi (by omega) (by omega)
          have q12 := Lib.hid (complement_any _ a (i + 1) _ S1.out A_11.out (by omega) (by omega))
          go_wp2_with fail
          refine q12.out.mono ?_
          rintro e w12 ⟨v12, rfl, o12, b12⟩
          have A_12 := Lib.hid (A_11.out.below (B := 0) b12)
          have Y12 := Lib.hid (Y11.out.trans (b12.mono Y11.out.size))
          have C_12 := Lib.hid (OwnRuns.at o12)
          obtain ⟨ad12, n12, c12, rfl⟩ := o12.slice
          clear o12 b12 q12 A_11 Y11
          have q13 := Lib.hid (has_any _ (Runs.restR a (i + 1)) i _ (Smalls.row (rR.out (by omega))) C_12.out (by have := lR.out (by omega); omega) hi)
          rw [show hasB (Runs.restR a (i + 1)) i = true by rw [hR.out (by omega) (by omega), hx.out]; simp <;> omega] at q13
          go_wp2_with fail
          refine q13.out.mono ?_
          rintro e w13 ⟨rfl, b13⟩
          have A_13 := Lib.hid (A_12.out.below (B := 0) b13)
          have C_13 := Lib.hid (C_12.out.below (B := 0) b13)
          have Y13 := Lib.hid (Y12.out.trans (b13.mono Y12.out.size))
          clear b13 q13 A_12 C_12 Y12
          have q14 := Lib.hid (has_any _ (Runs.restR a (i + 1)) (i + 1) _ (Smalls.row (rR.out (by omega))) C_13.out (by have := lR.out (by omega); omega) (by omega))
          rw [show hasB (Runs.restR a (i + 1)) (i + 1) = false by rw [hR1.out (by omega) (by omega)]; simp] at q14
          go_wp2_with fail
          refine q14.out.mono ?_
          rintro e w14 ⟨rfl, b14⟩
          have A_14 := Lib.hid (A_13.out.below (B := 0) b14)
          have C_14 := Lib.hid (C_13.out.below (B := 0) b14)
          have Y14 := Lib.hid (Y13.out.trans (b14.mono Y13.out.size))
          clear b14 q14 A_13 C_13 Y13
          have q15 := Lib.hid (check_any _ (Runs.restR a (i + 1)) _ (Smalls.row (rR.out (by omega))) C_14.out (by have := lR.out (by omega); omega))
          rw [kR.out (by omega)] at q15
          go_wp2_with fail
          refine q15.out.mono ?_
          rintro e w15 ⟨rfl, b15⟩
          have A_15 := Lib.hid (A_14.out.below (B := 0) b15)
          have Y15 := Lib.hid (Y14.out.trans (b15.mono Y14.out.size))
          clear b15 q15 A_14 C_14 Y14
          have q16 := Lib.hid (alive_any w15)
          go_wp2_with fail
          refine q16.out.mono ?_
          rintro e w16 ⟨rfl, b16⟩
          have A_16 := Lib.hid (A_15.out.below (B := 0) b16)
          have Y16 := Lib.hid (Y15.out.trans (b16.mono Y15.out.size))
          clear b16 q16 A_15 Y15
          go_wp2_with fail
          go_ret
          exact ⟨rfl, Y16.out⟩
  · have hx := Lib.hid hx0
    clear hx0
    rcases hy0 : hasB b i with _ | _
    · have hy := Lib.hid hy0
      clear hy0
      go_enter Try.func10, Try.ntmps10
      have q1 := Lib.hid (has_any _ a i _ S1.out A_0.out (by omega) hi)
      rw [hx.out] at q1
      go_wp2_with fail
      refine q1.out.mono ?_
      rintro e w1 ⟨rfl, b1⟩
      have A_1 := Lib.hid (A_0.out.below (B := 0) b1)
      have B_1 := Lib.hid (B_0.out.below (B := 0) b1)
      have Y1 := Lib.hid b1
      clear b1 q1 A_0 B_0
      have q2 := Lib.hid (has_any _ b i _ S2.out B_1.out (by omega) hi)
      rw [hy.out] at q2
      go_wp2_with fail
      refine q2.out.mono ?_
      rintro e w2 ⟨rfl, b2⟩
      have A_2 := Lib.hid (A_1.out.below (B := 0) b2)
      have B_2 := Lib.hid (B_1.out.below (B := 0) b2)
      have Y2 := Lib.hid (Y1.out.trans (b2.mono Y1.out.size))
      clear b2 q2 A_1 B_1 Y1
      have q3 := Lib.hid (union_any _ _ a b _ S1.out S2.out A_2.out B_2.out (by have := len_A.out; omega) (by have := len_B.out; omega))
      go_wp2_with fail
      refine q3.out.mono ?_
      rintro e w3 ⟨v3, rfl, o3, b3⟩
      have A_3 := Lib.hid (A_2.out.below (B := 0) b3)
      have B_3 := Lib.hid (B_2.out.below (B := 0) b3)
      have Y3 := Lib.hid (Y2.out.trans (b3.mono Y2.out.size))
      have U_3 := Lib.hid (OwnRuns.at o3)
      obtain ⟨ad3, n3, c3, rfl⟩ := o3.slice
      clear o3 b3 q3 A_2 B_2 Y2
      have len_U : Hid ((unionR a b).length ≤ 300) := Lib.hid (by have h0 := union_len a b; have h1 := len_A.out; have h2 := len_B.out; omega)
      have q4 := Lib.hid (minus_any _ _ a b _ S1.out S2.out A_3.out B_3.out (by have := len_A.out; omega) (by have := len_B.out; omega))
      go_wp2_with fail
      refine q4.out.mono ?_
      rintro e w4 ⟨v4, rfl, o4, b4⟩
      have A_4 := Lib.hid (A_3.out.below (B := 0) b4)
      have B_4 := Lib.hid (B_3.out.below (B := 0) b4)
      have U_4 := Lib.hid (U_3.out.below (B := 0) b4)
      have Y4 := Lib.hid (Y3.out.trans (b4.mono Y3.out.size))
      have M_4 := Lib.hid (OwnRuns.at o4)
      obtain ⟨ad4, n4, c4, rfl⟩ := o4.slice
      clear o4 b4 q4 A_3 B_3 U_3 Y3
      have len_M : Hid ((Runs.minusR a b).length ≤ 301) := Lib.hid (by have h0 := minus_len a b; have h1 := len_A.out; have h2 := len_B.out; omega)
      have q5 := Lib.hid (meet_any _ _ a b _ S1.out S2.out A_4.out B_4.out (by have := len_A.out; omega) (by have := len_B.out; omega))
      go_wp2_with fail
      refine q5.out.mono ?_
      rintro e w5 ⟨v5, rfl, o5, b5⟩
      have A_5 := Lib.hid (A_4.out.below (B := 0) b5)
      have B_5 := Lib.hid (B_4.out.below (B := 0) b5)
      have U_5 := Lib.hid (U_4.out.below (B := 0) b5)
      have M_5 := Lib.hid (M_4.out.below (B := 0) b5)
      have Y5 := Lib.hid (Y4.out.trans (b5.mono Y4.out.size))
      have T_5 := Lib.hid (OwnRuns.at o5)
      obtain ⟨ad5, n5, c5, rfl⟩ := o5.slice
      clear o5 b5 q5 A_4 B_4 U_4 M_4 Y4
      have len_T : Hid ((Runs.meetR a b).length ≤ 300) := Lib.hid (by have h0 := meet_len a b; have h1 := len_A.out; have h2 := len_B.out; omega)
      have q6 := Lib.hid (has_any _ (unionR a b) i _ (Smalls.row (union_row a b)) U_5.out (by have := len_U.out; omega) hi)
      rw [show hasB (unionR a b) i = true by rw [hU.out, hx.out, hy.out]; rfl] at q6
      go_wp2_with fail
      refine q6.out.mono ?_
      rintro e w6 ⟨rfl, b6⟩
      have A_6 := Lib.hid (A_5.out.below (B := 0) b6)
      have B_6 := Lib.hid (B_5.out.below (B := 0) b6)
      have U_6 := Lib.hid (U_5.out.below (B := 0) b6)
      have M_6 := Lib.hid (M_5.out.below (B := 0) b6)
      have T_6 := Lib.hid (T_5.out.below (B := 0) b6)
      have Y6 := Lib.hid (Y5.out.trans (b6.mono Y5.out.size))
      clear b6 q6 A_5 B_5 U_5 M_5 T_5 Y5
      have q7 := Lib.hid (has_any _ (Runs.minusR a b) i _ (Smalls.row (minus_row a b)) M_6.out (by have := len_M.out; omega) hi)
      rw [show hasB (Runs.minusR a b) i = true by rw [hM.out, hx.out, hy.out]; rfl] at q7
      go_wp2_with fail
      refine q7.out.mono ?_
      rintro e w7 ⟨rfl, b7⟩
      have A_7 := Lib.hid (A_6.out.below (B := 0) b7)
      have B_7 := Lib.hid (B_6.out.below (B := 0) b7)
      have U_7 := Lib.hid (U_6.out.below (B := 0) b7)
      have M_7 := Lib.hid (M_6.out.below (B := 0) b7)
      have T_7 := Lib.hid (T_6.out.below (B := 0) b7)
      have Y7 := Lib.hid (Y6.out.trans (b7.mono Y6.out.size))
      clear b7 q7 A_6 B_6 U_6 M_6 T_6 Y6
      have q8 := Lib.hid (has_any _ (Runs.meetR a b) i _ (Smalls.row (meet_row a b)) T_7.out (by have := len_T.out; omega) hi)
      rw [show hasB (Runs.meetR a b) i = false by rw [hT.out, hx.out, hy.out]; rfl] at q8
      go_wp2_with fail
      refine q8.out.mono ?_
      rintro e w8 ⟨rfl, b8⟩
      have A_8 := Lib.hid (A_7.out.below (B := 0) b8)
      have B_8 := Lib.hid (B_7.out.below (B := 0) b8)
      have U_8 := Lib.hid (U_7.out.below (B := 0) b8)
      have M_8 := Lib.hid (M_7.out.below (B := 0) b8)
      have T_8 := Lib.hid (T_7.out.below (B := 0) b8)
      have Y8 := Lib.hid (Y7.out.trans (b8.mono Y7.out.size))
      clear b8 q8 A_7 B_7 U_7 M_7 T_7 Y7
      have q9 := Lib.hid (check_any _ (unionR a b) _ (Smalls.row (union_row a b)) U_8.out (by have := len_U.out; omega))
      rw [kU.out] at q9
      go_wp2_with fail
      refine q9.out.mono ?_
      rintro e w9 ⟨rfl, b9⟩
      have A_9 := Lib.hid (A_8.out.below (B := 0) b9)
      have B_9 := Lib.hid (B_8.out.below (B := 0) b9)
      have M_9 := Lib.hid (M_8.out.below (B := 0) b9)
      have T_9 := Lib.hid (T_8.out.below (B := 0) b9)
      have Y9 := Lib.hid (Y8.out.trans (b9.mono Y8.out.size))
      clear b9 q9 A_8 B_8 U_8 M_8 T_8 Y8
      have q10 := Lib.hid (check_any _ (Runs.minusR a b) _ (Smalls.row (minus_row a b)) M_9.out (by have := len_M.out; omega))
      rw [kM.out] at q10
      go_wp2_with fail
      refine q10.out.mono ?_
      rintro e w10 ⟨rfl, b10⟩
      have A_10 := Lib.hid (A_9.out.below (B := 0) b10)
      have B_10 := Lib.hid (B_9.out.below (B := 0) b10)
      have T_10 := Lib.hid (T_9.out.below (B := 0) b10)
      have Y10 := Lib.hid (Y9.out.trans (b10.mono Y9.out.size))
      clear b10 q10 A_9 B_9 M_9 T_9 Y9
      have q11 := Lib.hid (check_any _ (Runs.meetR a b) _ (Smalls.row (meet_row a b)) T_10.out (by have := len_T.out; omega))
      rw [kT.out] at q11
      go_wp2_with fail
      refine q11.out.mono ?_
      rintro e w11 ⟨rfl, b11⟩
      have A_11 := Lib.hid (A_10.out.below (B := 0) b11)
      have Y11 := Lib.hid (Y10.out.trans (b11.mono Y10.out.size))
      clear b11 q11 A_10 B_10 T_10 Y10
      by_cases i0 : i < 0
      · skip
        have q12 := Lib.hid (alive_any w11)
        go_wp2_with fail
        refine q12.out.mono ?_
        rintro e w12 ⟨rfl, b12⟩
        have A_12 := Lib.hid (A_11.out.below (B := 0) b12)
        have Y12 := Lib.hid (Y11.out.trans (b12.mono Y11.out.size))
        clear b12 q12 A_11 Y11
        go_wp2_with fail
        go_ret
        exact ⟨rfl, Y12.out⟩
      · by_cases i9 : 4611686018427387904 < i
        · skip
          have q12 := Lib.hid (alive_any w11)
          go_wp2_with fail
          refine q12.out.mono ?_
          rintro e w12 ⟨rfl, b12⟩
          have A_12 := Lib.hid (A_11.out.below (B := 0) b12)
          have Y12 := Lib.hid (Y11.out.trans (b12.mono Y11.out.size))
          clear b12 q12 A_11 Y11
          go_wp2_with fail
          go_ret
          exact ⟨rfl, Y12.out⟩
        · skip
          have wi2 := wi (by omega) (by omega)
          have q12 := Lib.hid (complement_any _ a (i + 1) _ S1.out A_11.out (by omega) (by omega))
          go_wp2_with fail
          refine q12.out.mono ?_
          rintro e w12 ⟨v12, rfl, o12, b12⟩
          have A_12 := Lib.hid (A_11.out.below (B := 0) b12)
          have Y12 := Lib.hid (Y11.out.trans (b12.mono Y11.out.size))
          have C_12 := Lib.hid (OwnRuns.at o12)
          obtain ⟨ad12, n12, c12, rfl⟩ := o12.slice
          clear o12 b12 q12 A_11 Y11
          have q13 := Lib.hid (has_any _ (Runs.restR a (i + 1)) i _ (Smalls.row (rR.out (by omega))) C_12.out (by have := lR.out (by omega); omega) hi)
          rw [show hasB (Runs.restR a (i + 1)) i = false by rw [hR.out (by omega) (by omega), hx.out]; simp <;> omega] at q13
          go_wp2_with fail
          refine q13.out.mono ?_
          rintro e w13 ⟨rfl, b13⟩
          have A_13 := Lib.hid (A_12.out.below (B := 0) b13)
          have C_13 := Lib.hid (C_12.out.below (B := 0) b13)
          have Y13 := Lib.hid (Y12.out.trans (b13.mono Y12.out.size))
          clear b13 q13 A_12 C_12 Y12
          have q14 := Lib.hid (has_any _ (Runs.restR a (i + 1)) (i + 1) _ (Smalls.row (rR.out (by omega))) C_13.out (by have := lR.out (by omega); omega) (by omega))
          rw [show hasB (Runs.restR a (i + 1)) (i + 1) = false by rw [hR1.out (by omega) (by omega)]; simp] at q14
          go_wp2_with fail
          refine q14.out.mono ?_
          rintro e w14 ⟨rfl, b14⟩
          have A_14 := Lib.hid (A_13.out.below (B := 0) b14)
          have C_14 := Lib.hid (C_13.out.below (B := 0) b14)
          have Y14 := Lib.hid (Y13.out.trans (b14.mono Y13.out.size))
          clear b14 q14 A_13 C_13 Y13
          have q15 := Lib.hid (check_any _ (Runs.restR a (i + 1)) _ (Smalls.row (rR.out (by omega))) C_14.out (by have := lR.out (by omega); omega))
          rw [kR.out (by omega)] at q15
          go_wp2_with fail
          refine q15.out.mono ?_
          rintro e w15 ⟨rfl, b15⟩
          have A_15 := Lib.hid (A_14.out.below (B := 0) b15)
          have Y15 := Lib.hid (Y14.out.trans (b15.mono Y14.out.size))
          clear b15 q15 A_14 C_14 Y14
          have q16 := Lib.hid (alive_any w15)
          go_wp2_with fail
          refine q16.out.mono ?_
          rintro e w16 ⟨rfl, b16⟩
          have A_16 := Lib.hid (A_15.out.below (B := 0) b16)
          have Y16 := Lib.hid (Y15.out.trans (b16.mono Y15.out.size))
          clear b16 q16 A_15 Y15
          go_wp2_with fail
          go_ret
          exact ⟨rfl, Y16.out⟩
    · have hy := Lib.hid hy0
      clear hy0
      go_enter Try.func10, Try.ntmps10
      have q1 := Lib.hid (has_any _ a i _ S1.out A_0.out (by omega) hi)
      rw [hx.out] at q1
      go_wp2_with fail
      refine q1.out.mono ?_
      rintro e w1 ⟨rfl, b1⟩
      have A_1 := Lib.hid (A_0.out.below (B := 0) b1)
      have B_1 := Lib.hid (B_0.out.below (B := 0) b1)
      have Y1 := Lib.hid b1
      clear b1 q1 A_0 B_0
      have q2 := Lib.hid (has_any _ b i _ S2.out B_1.out (by omega) hi)
      rw [hy.out] at q2
      go_wp2_with fail
      refine q2.out.mono ?_
      rintro e w2 ⟨rfl, b2⟩
      have A_2 := Lib.hid (A_1.out.below (B := 0) b2)
      have B_2 := Lib.hid (B_1.out.below (B := 0) b2)
      have Y2 := Lib.hid (Y1.out.trans (b2.mono Y1.out.size))
      clear b2 q2 A_1 B_1 Y1
      have q3 := Lib.hid (union_any _ _ a b _ S1.out S2.out A_2.out B_2.out (by have := len_A.out; omega) (by have := len_B.out; omega))
      go_wp2_with fail
      refine q3.out.mono ?_
      rintro e w3 ⟨v3, rfl, o3, b3⟩
      have A_3 := Lib.hid (A_2.out.below (B := 0) b3)
      have B_3 := Lib.hid (B_2.out.below (B := 0) b3)
      have Y3 := Lib.hid (Y2.out.trans (b3.mono Y2.out.size))
      have U_3 := Lib.hid (OwnRuns.at o3)
      obtain ⟨ad3, n3, c3, rfl⟩ := o3.slice
      clear o3 b3 q3 A_2 B_2 Y2
      have len_U : Hid ((unionR a b).length ≤ 300) := Lib.hid (by have h0 := union_len a b; have h1 := len_A.out; have h2 := len_B.out; omega)
      have q4 := Lib.hid (minus_any _ _ a b _ S1.out S2.out A_3.out B_3.out (by have := len_A.out; omega) (by have := len_B.out; omega))
      go_wp2_with fail
      refine q4.out.mono ?_
      rintro e w4 ⟨v4, rfl, o4, b4⟩
      have A_4 := Lib.hid (A_3.out.below (B := 0) b4)
      have B_4 := Lib.hid (B_3.out.below (B := 0) b4)
      have U_4 := Lib.hid (U_3.out.below (B := 0) b4)
      have Y4 := Lib.hid (Y3.out.trans (b4.mono Y3.out.size))
      have M_4 := Lib.hid (OwnRuns.at o4)
      obtain ⟨ad4, n4, c4, rfl⟩ := o4.slice
      clear o4 b4 q4 A_3 B_3 U_3 Y3
      have len_M : Hid ((Runs.minusR a b).length ≤ 301) := Lib.hid (by have h0 := minus_len a b; have h1 := len_A.out; have h2 := len_B.out; omega)
      have q5 := Lib.hid (meet_any _ _ a b _ S1.out S2.out A_4.out B_4.out (by have := len_A.out; omega) (by have := len_B.out; omega))
      go_wp2_with fail
      refine q5.out.mono ?_
      rintro e w5 ⟨v5, rfl, o5, b5⟩
      have A_5 := Lib.hid (A_4.out.below (B := 0) b5)
      have B_5 := Lib.hid (B_4.out.below (B := 0) b5)
      have U_5 := Lib.hid (U_4.out.below (B := 0) b5)
      have M_5 := Lib.hid (M_4.out.below (B := 0) b5)
      have Y5 := Lib.hid (Y4.out.trans (b5.mono Y4.out.size))
      have T_5 := Lib.hid (OwnRuns.at o5)
      obtain ⟨ad5, n5, c5, rfl⟩ := o5.slice
      clear o5 b5 q5 A_4 B_4 U_4 M_4 Y4
      have len_T : Hid ((Runs.meetR a b).length ≤ 300) := Lib.hid (by have h0 := meet_len a b; have h1 := len_A.out; have h2 := len_B.out; omega)
      have q6 := Lib.hid (has_any _ (unionR a b) i _ (Smalls.row (union_row a b)) U_5.out (by have := len_U.out; omega) hi)
      rw [show hasB (unionR a b) i = true by rw [hU.out, hx.out, hy.out]; rfl] at q6
      go_wp2_with fail
      refine q6.out.mono ?_
      rintro e w6 ⟨rfl, b6⟩
      have A_6 := Lib.hid (A_5.out.below (B := 0) b6)
      have B_6 := Lib.hid (B_5.out.below (B := 0) b6)
      have U_6 := Lib.hid (U_5.out.below (B := 0) b6)
      have M_6 := Lib.hid (M_5.out.below (B := 0) b6)
      have T_6 := Lib.hid (T_5.out.below (B := 0) b6)
      have Y6 := Lib.hid (Y5.out.trans (b6.mono Y5.out.size))
      clear b6 q6 A_5 B_5 U_5 M_5 T_5 Y5
      have q7 := Lib.hid (has_any _ (Runs.minusR a b) i _ (Smalls.row (minus_row a b)) M_6.out (by have := len_M.out; omega) hi)
      rw [show hasB (Runs.minusR a b) i = false by rw [hM.out, hx.out, hy.out]; rfl] at q7
      go_wp2_with fail
      refine q7.out.mono ?_
      rintro e w7 ⟨rfl, b7⟩
      have A_7 := Lib.hid (A_6.out.below (B := 0) b7)
      have B_7 := Lib.hid (B_6.out.below (B := 0) b7)
      have U_7 := Lib.hid (U_6.out.below (B := 0) b7)
      have M_7 := Lib.hid (M_6.out.below (B := 0) b7)
      have T_7 := Lib.hid (T_6.out.below (B := 0) b7)
      have Y7 := Lib.hid (Y6.out.trans (b7.mono Y6.out.size))
      clear b7 q7 A_6 B_6 U_6 M_6 T_6 Y6
      have q8 := Lib.hid (has_any _ (Runs.meetR a b) i _ (Smalls.row (meet_row a b)) T_7.out (by have := len_T.out; omega) hi)
      rw [show hasB (Runs.meetR a b) i = true by rw [hT.out, hx.out, hy.out]; rfl] at q8
      go_wp2_with fail
      refine q8.out.mono ?_
      rintro e w8 ⟨rfl, b8⟩
      have A_8 := Lib.hid (A_7.out.below (B := 0) b8)
      have B_8 := Lib.hid (B_7.out.below (B := 0) b8)
      have U_8 := Lib.hid (U_7.out.below (B := 0) b8)
      have M_8 := Lib.hid (M_7.out.below (B := 0) b8)
      have T_8 := Lib.hid (T_7.out.below (B := 0) b8)
      have Y8 := Lib.hid (Y7.out.trans (b8.mono Y7.out.size))
      clear b8 q8 A_7 B_7 U_7 M_7 T_7 Y7
      have q9 := Lib.hid (check_any _ (unionR a b) _ (Smalls.row (union_row a b)) U_8.out (by have := len_U.out; omega))
      rw [kU.out] at q9
      go_wp2_with fail
      refine q9.out.mono ?_
      rintro e w9 ⟨rfl, b9⟩
      have A_9 := Lib.hid (A_8.out.below (B := 0) b9)
      have B_9 := Lib.hid (B_8.out.below (B := 0) b9)
      have M_9 := Lib.hid (M_8.out.below (B := 0) b9)
      have T_9 := Lib.hid (T_8.out.below (B := 0) b9)
      have Y9 := Lib.hid (Y8.out.trans (b9.mono Y8.out.size))
      clear b9 q9 A_8 B_8 U_8 M_8 T_8 Y8
      have q10 := Lib.hid (check_any _ (Runs.minusR a b) _ (Smalls.row (minus_row a b)) M_9.out (by have := len_M.out; omega))
      rw [kM.out] at q10
      go_wp2_with fail
      refine q10.out.mono ?_
      rintro e w10 ⟨rfl, b10⟩
      have A_10 := Lib.hid (A_9.out.below (B := 0) b10)
      have B_10 := Lib.hid (B_9.out.below (B := 0) b10)
      have T_10 := Lib.hid (T_9.out.below (B := 0) b10)
      have Y10 := Lib.hid (Y9.out.trans (b10.mono Y9.out.size))
      clear b10 q10 A_9 B_9 M_9 T_9 Y9
      have q11 := Lib.hid (check_any _ (Runs.meetR a b) _ (Smalls.row (meet_row a b)) T_10.out (by have := len_T.out; omega))
      rw [kT.out] at q11
      go_wp2_with fail
      refine q11.out.mono ?_
      rintro e w11 ⟨rfl, b11⟩
      have A_11 := Lib.hid (A_10.out.below (B := 0) b11)
      have Y11 := Lib.hid (Y10.out.trans (b11.mono Y10.out.size))
      clear b11 q11 A_10 B_10 T_10 Y10
      by_cases i0 : i < 0
      · skip
        have q12 := Lib.hid (alive_any w11)
        go_wp2_with fail
        refine q12.out.mono ?_
        rintro e w12 ⟨rfl, b12⟩
        have A_12 := Lib.hid (A_11.out.below (B := 0) b12)
        have Y12 := Lib.hid (Y11.out.trans (b12.mono Y11.out.size))
        clear b12 q12 A_11 Y11
        go_wp2_with fail
        go_ret
        exact ⟨rfl, Y12.out⟩
      · by_cases i9 : 4611686018427387904 < i
        · skip
          have q12 := Lib.hid (alive_any w11)
          go_wp2_with fail
          refine q12.out.mono ?_
          rintro e w12 ⟨rfl, b12⟩
          have A_12 := Lib.hid (A_11.out.below (B := 0) b12)
          have Y12 := Lib.hid (Y11.out.trans (b12.mono Y11.out.size))
          clear b12 q12 A_11 Y11
          go_wp2_with fail
          go_ret
          exact ⟨rfl, Y12.out⟩
        · skip
          have wi2 := wi (by omega) (by omega)
          have q12 := Lib.hid (complement_any _ a (i + 1) _ S1.out A_11.out (by omega) (by omega))
          go_wp2_with fail
          refine q12.out.mono ?_
          rintro e w12 ⟨v12, rfl, o12, b12⟩
          have A_12 := Lib.hid (A_11.out.below (B := 0) b12)
          have Y12 := Lib.hid (Y11.out.trans (b12.mono Y11.out.size))
          have C_12 := Lib.hid (OwnRuns.at o12)
          obtain ⟨ad12, n12, c12, rfl⟩ := o12.slice
          clear o12 b12 q12 A_11 Y11
          have q13 := Lib.hid (has_any _ (Runs.restR a (i + 1)) i _ (Smalls.row (rR.out (by omega))) C_12.out (by have := lR.out (by omega); omega) hi)
          rw [show hasB (Runs.restR a (i + 1)) i = false by rw [hR.out (by omega) (by omega), hx.out]; simp <;> omega] at q13
          go_wp2_with fail
          refine q13.out.mono ?_
          rintro e w13 ⟨rfl, b13⟩
          have A_13 := Lib.hid (A_12.out.below (B := 0) b13)
          have C_13 := Lib.hid (C_12.out.below (B := 0) b13)
          have Y13 := Lib.hid (Y12.out.trans (b13.mono Y12.out.size))
          clear b13 q13 A_12 C_12 Y12
          have q14 := Lib.hid (has_any _ (Runs.restR a (i + 1)) (i + 1) _ (Smalls.row (rR.out (by omega))) C_13.out (by have := lR.out (by omega); omega) (by omega))
          rw [show hasB (Runs.restR a (i + 1)) (i + 1) = false by rw [hR1.out (by omega) (by omega)]; simp] at q14
          go_wp2_with fail
          refine q14.out.mono ?_
          rintro e w14 ⟨rfl, b14⟩
          have A_14 := Lib.hid (A_13.out.below (B := 0) b14)
          have C_14 := Lib.hid (C_13.out.below (B := 0) b14)
          have Y14 := Lib.hid (Y13.out.trans (b14.mono Y13.out.size))
          clear b14 q14 A_13 C_13 Y13
          have q15 := Lib.hid (check_any _ (Runs.restR a (i + 1)) _ (Smalls.row (rR.out (by omega))) C_14.out (by have := lR.out (by omega); omega))
          rw [kR.out (by omega)] at q15
          go_wp2_with fail
          refine q15.out.mono ?_
          rintro e w15 ⟨rfl, b15⟩
          have A_15 := Lib.hid (A_14.out.below (B := 0) b15)
          have Y15 := Lib.hid (Y14.out.trans (b15.mono Y14.out.size))
          clear b15 q15 A_14 C_14 Y14
          have q16 := Lib.hid (alive_any w15)
          go_wp2_with fail
          refine q16.out.mono ?_
          rintro e w16 ⟨rfl, b16⟩
          have A_16 := Lib.hid (A_15.out.below (B := 0) b16)
          have Y16 := Lib.hid (Y15.out.trans (b16.mono Y15.out.size))
          clear b16 q16 A_15 Y15
          go_wp2_with fail
          go_ret
          exact ⟨rfl, Y16.out⟩

end Go.Proofs.Ytkpnimekhekpmaa
