/- RunsLaws' walk. -/
import Derived.Test.YtkpnimekhekpmaaRunsSets
namespace Go.Proofs.Ytkpnimekhekpmaa
open Go Go.RowKit

set_option maxRecDepth 100000 in
set_option maxHeartbeats 4000000 in
theorem RunsLaws_walk {w : World} (ad : Option Addr) (cap : Nat) (a : RL) (bd : Option Addr) (bcap : Nat) (b : RL) (cd : Option Addr) (ccap : Nat) (c : RL) (h1 : RunsIn w (.slice ad a.length cap) a) (h2 : RunsIn w (.slice bd b.length bcap) b) (h3 : RunsIn w (.slice cd c.length ccap) c) :
    Calls Try.prog 8 #[.slice ad a.length cap, .slice bd b.length bcap, .slice cd c.length ccap] w fun e w' => e = .returned (.bool true) ∧ Below w.heap.size w w' := by
  have l1 := h1.len
  have l2 := h2.len
  have l3 := h3.len
  by_cases hbig : 60 < a.length ∨ 60 < b.length ∨ 60 < c.length
  · have e : ((60 < (a.length : Int)) ∨ (60 < (b.length : Int))) ∨ 60 < (c.length : Int) := by omega
    rcases e with (e | e) | e
    · go_enter Try.func8, Try.ntmps8
      go_wp2_with fail
      go_ret
      exact ⟨rfl, Below.refl _ _⟩
    · by_cases ea : 60 < (a.length : Int)
      all_goals
        go_enter Try.func8, Try.ntmps8
        go_wp2_with fail
        go_ret
        exact ⟨rfl, Below.refl _ _⟩
    · by_cases ea : 60 < (a.length : Int)
      · go_enter Try.func8, Try.ntmps8
        go_wp2_with fail
        go_ret
        exact ⟨rfl, Below.refl _ _⟩
      · by_cases eb : 60 < (b.length : Int)
        all_goals
          go_enter Try.func8, Try.ntmps8
          go_wp2_with fail
          go_ret
          exact ⟨rfl, Below.refl _ _⟩
  · have S1 := Lib.hid h1.small
    have S2 := Lib.hid h2.small
    have S3 := Lib.hid h3.small
    have A_0 := Lib.hid h1.at_
    have B_0 := Lib.hid h2.at_
    have C_0 := Lib.hid h3.at_
    have z1 : (a.length : Int) ≤ 60 := by omega
    have z2 : (b.length : Int) ≤ 60 := by omega
    have z3 : (c.length : Int) ≤ 60 := by omega
    have len_A : Hid (a.length ≤ 60) := Lib.hid (by omega)
    have len_B : Hid (b.length ≤ 60) := Lib.hid (by omega)
    have len_C : Hid (c.length ≤ 60) := Lib.hid (by omega)
    clear h1 h2 h3 hbig
    go_enter Try.func8, Try.ntmps8
    have q1 := Lib.hid (union_any _ _ a b _ S1.out S2.out A_0.out B_0.out (by have := len_A.out; omega) (by have := len_B.out; omega))
    go_wp2_with fail
    refine q1.out.mono ?_
    rintro e w1 ⟨v1, rfl, o1, b1⟩
    have A_1 := Lib.hid (A_0.out.below (B := 0) b1)
    have B_1 := Lib.hid (B_0.out.below (B := 0) b1)
    have C_1 := Lib.hid (C_0.out.below (B := 0) b1)
    have Y1 := Lib.hid b1
    have U1_1 := Lib.hid (OwnRuns.at o1)
    obtain ⟨ad1, n1, c1, rfl⟩ := o1.slice
    clear o1 b1 q1 A_0 B_0 C_0
    have len_U1 : Hid ((unionR a b).length ≤ 120) := Lib.hid (by have h0 := union_len a b; have h1 := len_A.out; have h2 := len_B.out; omega)
    have q2 := Lib.hid (union_any _ _ b a _ S2.out S1.out B_1.out A_1.out (by have := len_B.out; omega) (by have := len_A.out; omega))
    go_wp2_with fail
    refine q2.out.mono ?_
    rintro e w2 ⟨v2, rfl, o2, b2⟩
    have A_2 := Lib.hid (A_1.out.below (B := 0) b2)
    have B_2 := Lib.hid (B_1.out.below (B := 0) b2)
    have C_2 := Lib.hid (C_1.out.below (B := 0) b2)
    have U1_2 := Lib.hid (U1_1.out.below (B := 0) b2)
    have Y2 := Lib.hid (Y1.out.trans (b2.mono Y1.out.size))
    have U2_2 := Lib.hid (OwnRuns.at o2)
    obtain ⟨ad2, n2, c2, rfl⟩ := o2.slice
    clear o2 b2 q2 A_1 B_1 C_1 U1_1 Y1
    have len_U2 : Hid ((unionR b a).length ≤ 120) := Lib.hid (by have h0 := union_len b a; have h1 := len_B.out; have h2 := len_A.out; omega)
    have q3 := Lib.hid (same_b _ _ _ (unionR a b) (unionR b a) U1_2.out U2_2.out (by have := len_U1.out; omega) (by have := len_U2.out; omega) true (by rw [law_union_comm a b]; simp))
    go_wp2_with fail
    refine q3.out.mono ?_
    rintro e w3 ⟨rfl, b3⟩
    have A_3 := Lib.hid (A_2.out.below (B := 0) b3)
    have B_3 := Lib.hid (B_2.out.below (B := 0) b3)
    have C_3 := Lib.hid (C_2.out.below (B := 0) b3)
    have Y3 := Lib.hid (Y2.out.trans (b3.mono Y2.out.size))
    clear b3 q3 A_2 B_2 C_2 U1_2 U2_2 Y2
    have q4 := Lib.hid (meet_any _ _ a b _ S1.out S2.out A_3.out B_3.out (by have := len_A.out; omega) (by have := len_B.out; omega))
    go_wp2_with fail
    refine q4.out.mono ?_
    rintro e w4 ⟨v4, rfl, o4, b4⟩
    have A_4 := Lib.hid (A_3.out.below (B := 0) b4)
    have B_4 := Lib.hid (B_3.out.below (B := 0) b4)
    have C_4 := Lib.hid (C_3.out.below (B := 0) b4)
    have Y4 := Lib.hid (Y3.out.trans (b4.mono Y3.out.size))
    have M1_4 := Lib.hid (OwnRuns.at o4)
    obtain ⟨ad4, n4, c4, rfl⟩ := o4.slice
    clear o4 b4 q4 A_3 B_3 C_3 Y3
    have len_M1 : Hid ((Runs.meetR a b).length ≤ 120) := Lib.hid (by have h0 := meet_len a b; have h1 := len_A.out; have h2 := len_B.out; omega)
    have q5 := Lib.hid (meet_any _ _ b a _ S2.out S1.out B_4.out A_4.out (by have := len_B.out; omega) (by have := len_A.out; omega))
    go_wp2_with fail
    refine q5.out.mono ?_
    rintro e w5 ⟨v5, rfl, o5, b5⟩
    have A_5 := Lib.hid (A_4.out.below (B := 0) b5)
    have B_5 := Lib.hid (B_4.out.below (B := 0) b5)
    have C_5 := Lib.hid (C_4.out.below (B := 0) b5)
    have M1_5 := Lib.hid (M1_4.out.below (B := 0) b5)
    have Y5 := Lib.hid (Y4.out.trans (b5.mono Y4.out.size))
    have M2_5 := Lib.hid (OwnRuns.at o5)
    obtain ⟨ad5, n5, c5, rfl⟩ := o5.slice
    clear o5 b5 q5 A_4 B_4 C_4 M1_4 Y4
    have len_M2 : Hid ((Runs.meetR b a).length ≤ 120) := Lib.hid (by have h0 := meet_len b a; have h1 := len_B.out; have h2 := len_A.out; omega)
    have q6 := Lib.hid (same_b _ _ _ (Runs.meetR a b) (Runs.meetR b a) M1_5.out M2_5.out (by have := len_M1.out; omega) (by have := len_M2.out; omega) true (by rw [law_meet_comm a b]; simp))
    go_wp2_with fail
    refine q6.out.mono ?_
    rintro e w6 ⟨rfl, b6⟩
    have A_6 := Lib.hid (A_5.out.below (B := 0) b6)
    have B_6 := Lib.hid (B_5.out.below (B := 0) b6)
    have C_6 := Lib.hid (C_5.out.below (B := 0) b6)
    have Y6 := Lib.hid (Y5.out.trans (b6.mono Y5.out.size))
    clear b6 q6 A_5 B_5 C_5 M1_5 M2_5 Y5
    have q7 := Lib.hid (union_any _ _ b c _ S2.out S3.out B_6.out C_6.out (by have := len_B.out; omega) (by have := len_C.out; omega))
    go_wp2_with fail
    refine q7.out.mono ?_
    rintro e w7 ⟨v7, rfl, o7, b7⟩
    have A_7 := Lib.hid (A_6.out.below (B := 0) b7)
    have B_7 := Lib.hid (B_6.out.below (B := 0) b7)
    have C_7 := Lib.hid (C_6.out.below (B := 0) b7)
    have Y7 := Lib.hid (Y6.out.trans (b7.mono Y6.out.size))
    have V1_7 := Lib.hid (OwnRuns.at o7)
    obtain ⟨ad7, n7, c7, rfl⟩ := o7.slice
    clear o7 b7 q7 A_6 B_6 C_6 Y6
    have len_V1 : Hid ((unionR b c).length ≤ 120) := Lib.hid (by have h0 := union_len b c; have h1 := len_B.out; have h2 := len_C.out; omega)
    have q8 := Lib.hid (union_any _ _ a (unionR b c) _ S1.out (Smalls.row (union_row b c)) A_7.out V1_7.out (by have := len_A.out; omega) (by have := len_V1.out; omega))
    go_wp2_with fail
    refine q8.out.mono ?_
    rintro e w8 ⟨v8, rfl, o8, b8⟩
    have A_8 := Lib.hid (A_7.out.below (B := 0) b8)
    have B_8 := Lib.hid (B_7.out.below (B := 0) b8)
    have C_8 := Lib.hid (C_7.out.below (B := 0) b8)
    have V1_8 := Lib.hid (V1_7.out.below (B := 0) b8)
    have Y8 := Lib.hid (Y7.out.trans (b8.mono Y7.out.size))
    have V2_8 := Lib.hid (OwnRuns.at o8)
    obtain ⟨ad8, n8, c8, rfl⟩ := o8.slice
    clear o8 b8 q8 A_7 B_7 C_7 V1_7 Y7
    have len_V2 : Hid ((unionR a (unionR b c)).length ≤ 180) := Lib.hid (by have h0 := union_len a (unionR b c); have h1 := len_A.out; have h2 := len_V1.out; omega)
    have q9 := Lib.hid (union_any _ _ a b _ S1.out S2.out A_8.out B_8.out (by have := len_A.out; omega) (by have := len_B.out; omega))
    go_wp2_with fail
    refine q9.out.mono ?_
    rintro e w9 ⟨v9, rfl, o9, b9⟩
    have A_9 := Lib.hid (A_8.out.below (B := 0) b9)
    have B_9 := Lib.hid (B_8.out.below (B := 0) b9)
    have C_9 := Lib.hid (C_8.out.below (B := 0) b9)
    have V1_9 := Lib.hid (V1_8.out.below (B := 0) b9)
    have V2_9 := Lib.hid (V2_8.out.below (B := 0) b9)
    have Y9 := Lib.hid (Y8.out.trans (b9.mono Y8.out.size))
    have V3_9 := Lib.hid (OwnRuns.at o9)
    obtain ⟨ad9, n9, c9, rfl⟩ := o9.slice
    clear o9 b9 q9 A_8 B_8 C_8 V1_8 V2_8 Y8
    have len_V3 : Hid ((unionR a b).length ≤ 120) := Lib.hid (by have h0 := union_len a b; have h1 := len_A.out; have h2 := len_B.out; omega)
    have q10 := Lib.hid (union_any _ _ (unionR a b) c _ (Smalls.row (union_row a b)) S3.out V3_9.out C_9.out (by have := len_V3.out; omega) (by have := len_C.out; omega))
    go_wp2_with fail
    refine q10.out.mono ?_
    rintro e w10 ⟨v10, rfl, o10, b10⟩
    have A_10 := Lib.hid (A_9.out.below (B := 0) b10)
    have B_10 := Lib.hid (B_9.out.below (B := 0) b10)
    have C_10 := Lib.hid (C_9.out.below (B := 0) b10)
    have V1_10 := Lib.hid (V1_9.out.below (B := 0) b10)
    have V2_10 := Lib.hid (V2_9.out.below (B := 0) b10)
    have V3_10 := Lib.hid (V3_9.out.below (B := 0) b10)
    have Y10 := Lib.hid (Y9.out.trans (b10.mono Y9.out.size))
    have V4_10 := Lib.hid (OwnRuns.at o10)
    obtain ⟨ad10, n10, c10, rfl⟩ := o10.slice
    clear o10 b10 q10 A_9 B_9 C_9 V1_9 V2_9 V3_9 Y9
    have len_V4 : Hid ((unionR (unionR a b) c).length ≤ 180) := Lib.hid (by have h0 := union_len (unionR a b) c; have h1 := len_V3.out; have h2 := len_C.out; omega)
    have q11 := Lib.hid (same_b _ _ _ (unionR a (unionR b c)) (unionR (unionR a b) c) V2_10.out V4_10.out (by have := len_V2.out; omega) (by have := len_V4.out; omega) true (by rw [law_union_assoc a b c]; simp))
    go_wp2_with fail
    refine q11.out.mono ?_
    rintro e w11 ⟨rfl, b11⟩
    have A_11 := Lib.hid (A_10.out.below (B := 0) b11)
    have B_11 := Lib.hid (B_10.out.below (B := 0) b11)
    have C_11 := Lib.hid (C_10.out.below (B := 0) b11)
    have Y11 := Lib.hid (Y10.out.trans (b11.mono Y10.out.size))
    clear b11 q11 A_10 B_10 C_10 V1_10 V2_10 V3_10 V4_10 Y10
    have q12 := Lib.hid (union_any _ _ b c _ S2.out S3.out B_11.out C_11.out (by have := len_B.out; omega) (by have := len_C.out; omega))
    go_wp2_with fail
    refine q12.out.mono ?_
    rintro e w12 ⟨v12, rfl, o12, b12⟩
    have A_12 := Lib.hid (A_11.out.below (B := 0) b12)
    have B_12 := Lib.hid (B_11.out.below (B := 0) b12)
    have C_12 := Lib.hid (C_11.out.below (B := 0) b12)
    have Y12 := Lib.hid (Y11.out.trans (b12.mono Y11.out.size))
    have W1_12 := Lib.hid (OwnRuns.at o12)
    obtain ⟨ad12, n12, c12, rfl⟩ := o12.slice
    clear o12 b12 q12 A_11 B_11 C_11 Y11
    have len_W1 : Hid ((unionR b c).length ≤ 120) := Lib.hid (by have h0 := union_len b c; have h1 := len_B.out; have h2 := len_C.out; omega)
    have q13 := Lib.hid (meet_any _ _ a (unionR b c) _ S1.out (Smalls.row (union_row b c)) A_12.out W1_12.out (by have := len_A.out; omega) (by have := len_W1.out; omega))
    go_wp2_with fail
    refine q13.out.mono ?_
    rintro e w13 ⟨v13, rfl, o13, b13⟩
    have A_13 := Lib.hid (A_12.out.below (B := 0) b13)
    have B_13 := Lib.hid (B_12.out.below (B := 0) b13)
    have C_13 := Lib.hid (C_12.out.below (B := 0) b13)
    have W1_13 := Lib.hid (W1_12.out.below (B := 0) b13)
    have Y13 := Lib.hid (Y12.out.trans (b13.mono Y12.out.size))
    have W2_13 := Lib.hid (OwnRuns.at o13)
    obtain ⟨ad13, n13, c13, rfl⟩ := o13.slice
    clear o13 b13 q13 A_12 B_12 C_12 W1_12 Y12
    have len_W2 : Hid ((Runs.meetR a (unionR b c)).length ≤ 180) := Lib.hid (by have h0 := meet_len a (unionR b c); have h1 := len_A.out; have h2 := len_W1.out; omega)
    have q14 := Lib.hid (meet_any _ _ a b _ S1.out S2.out A_13.out B_13.out (by have := len_A.out; omega) (by have := len_B.out; omega))
    go_wp2_with fail
    refine q14.out.mono ?_
    rintro e w14 ⟨v14, rfl, o14, b14⟩
    have A_14 := Lib.hid (A_13.out.below (B := 0) b14)
    have B_14 := Lib.hid (B_13.out.below (B := 0) b14)
    have C_14 := Lib.hid (C_13.out.below (B := 0) b14)
    have W1_14 := Lib.hid (W1_13.out.below (B := 0) b14)
    have W2_14 := Lib.hid (W2_13.out.below (B := 0) b14)
    have Y14 := Lib.hid (Y13.out.trans (b14.mono Y13.out.size))
    have W3_14 := Lib.hid (OwnRuns.at o14)
    obtain ⟨ad14, n14, c14, rfl⟩ := o14.slice
    clear o14 b14 q14 A_13 B_13 C_13 W1_13 W2_13 Y13
    have len_W3 : Hid ((Runs.meetR a b).length ≤ 120) := Lib.hid (by have h0 := meet_len a b; have h1 := len_A.out; have h2 := len_B.out; omega)
    have q15 := Lib.hid (meet_any _ _ a c _ S1.out S3.out A_14.out C_14.out (by have := len_A.out; omega) (by have := len_C.out; omega))
    go_wp2_with fail
    refine q15.out.mono ?_
    rintro e w15 ⟨v15, rfl, o15, b15⟩
    have A_15 := Lib.hid (A_14.out.below (B := 0) b15)
    have B_15 := Lib.hid (B_14.out.below (B := 0) b15)
    have C_15 := Lib.hid (C_14.out.below (B := 0) b15)
    have W1_15 := Lib.hid (W1_14.out.below (B := 0) b15)
    have W2_15 := Lib.hid (W2_14.out.below (B := 0) b15)
    have W3_15 := Lib.hid (W3_14.out.below (B := 0) b15)
    have Y15 := Lib.hid (Y14.out.trans (b15.mono Y14.out.size))
    have W4_15 := Lib.hid (OwnRuns.at o15)
    obtain ⟨ad15, n15, c15, rfl⟩ := o15.slice
    clear o15 b15 q15 A_14 B_14 C_14 W1_14 W2_14 W3_14 Y14
    have len_W4 : Hid ((Runs.meetR a c).length ≤ 120) := Lib.hid (by have h0 := meet_len a c; have h1 := len_A.out; have h2 := len_C.out; omega)
    have q16 := Lib.hid (union_any _ _ (Runs.meetR a b) (Runs.meetR a c) _ (Smalls.row (meet_row a b)) (Smalls.row (meet_row a c)) W3_15.out W4_15.out (by have := len_W3.out; omega) (by have := len_W4.out; omega))
    go_wp2_with fail
    refine q16.out.mono ?_
    rintro e w16 ⟨v16, rfl, o16, b16⟩
    have A_16 := Lib.hid (A_15.out.below (B := 0) b16)
    have B_16 := Lib.hid (B_15.out.below (B := 0) b16)
    have C_16 := Lib.hid (C_15.out.below (B := 0) b16)
    have W1_16 := Lib.hid (W1_15.out.below (B := 0) b16)
    have W2_16 := Lib.hid (W2_15.out.below (B := 0) b16)
    have W3_16 := Lib.hid (W3_15.out.below (B := 0) b16)
    have W4_16 := Lib.hid (W4_15.out.below (B := 0) b16)
    have Y16 := Lib.hid (Y15.out.trans (b16.mono Y15.out.size))
    have W5_16 := Lib.hid (OwnRuns.at o16)
    obtain ⟨ad16, n16, c16, rfl⟩ := o16.slice
    clear o16 b16 q16 A_15 B_15 C_15 W1_15 W2_15 W3_15 W4_15 Y15
    have len_W5 : Hid ((unionR (Runs.meetR a b) (Runs.meetR a c)).length ≤ 240) := Lib.hid (by have h0 := union_len (Runs.meetR a b) (Runs.meetR a c); have h1 := len_W3.out; have h2 := len_W4.out; omega)
    have q17 := Lib.hid (same_b _ _ _ (Runs.meetR a (unionR b c)) (unionR (Runs.meetR a b) (Runs.meetR a c)) W2_16.out W5_16.out (by have := len_W2.out; omega) (by have := len_W5.out; omega) true (by rw [law_meet_union a b c]; simp))
    go_wp2_with fail
    refine q17.out.mono ?_
    rintro e w17 ⟨rfl, b17⟩
    have A_17 := Lib.hid (A_16.out.below (B := 0) b17)
    have B_17 := Lib.hid (B_16.out.below (B := 0) b17)
    have C_17 := Lib.hid (C_16.out.below (B := 0) b17)
    have Y17 := Lib.hid (Y16.out.trans (b17.mono Y16.out.size))
    clear b17 q17 A_16 B_16 C_16 W1_16 W2_16 W3_16 W4_16 W5_16 Y16
    have q18 := Lib.hid (union_any _ _ a b _ S1.out S2.out A_17.out B_17.out (by have := len_A.out; omega) (by have := len_B.out; omega))
    go_wp2_with fail
    refine q18.out.mono ?_
    rintro e w18 ⟨v18, rfl, o18, b18⟩
    have A_18 := Lib.hid (A_17.out.below (B := 0) b18)
    have B_18 := Lib.hid (B_17.out.below (B := 0) b18)
    have C_18 := Lib.hid (C_17.out.below (B := 0) b18)
    have Y18 := Lib.hid (Y17.out.trans (b18.mono Y17.out.size))
    have X1_18 := Lib.hid (OwnRuns.at o18)
    obtain ⟨ad18, n18, c18, rfl⟩ := o18.slice
    clear o18 b18 q18 A_17 B_17 C_17 Y17
    have len_X1 : Hid ((unionR a b).length ≤ 120) := Lib.hid (by have h0 := union_len a b; have h1 := len_A.out; have h2 := len_B.out; omega)
    have q19 := Lib.hid (minus_any _ _ (unionR a b) c _ (Smalls.row (union_row a b)) S3.out X1_18.out C_18.out (by have := len_X1.out; omega) (by have := len_C.out; omega))
    go_wp2_with fail
    refine q19.out.mono ?_
    rintro e w19 ⟨v19, rfl, o19, b19⟩
    have A_19 := Lib.hid (A_18.out.below (B := 0) b19)
    have B_19 := Lib.hid (B_18.out.below (B := 0) b19)
    have C_19 := Lib.hid (C_18.out.below (B := 0) b19)
    have X1_19 := Lib.hid (X1_18.out.below (B := 0) b19)
    have Y19 := Lib.hid (Y18.out.trans (b19.mono Y18.out.size))
    have X2_19 := Lib.hid (OwnRuns.at o19)
    obtain ⟨ad19, n19, c19, rfl⟩ := o19.slice
    clear o19 b19 q19 A_18 B_18 C_18 X1_18 Y18
    have len_X2 : Hid ((Runs.minusR (unionR a b) c).length ≤ 181) := Lib.hid (by have h0 := minus_len (unionR a b) c; have h1 := len_X1.out; have h2 := len_C.out; omega)
    have q20 := Lib.hid (minus_any _ _ a c _ S1.out S3.out A_19.out C_19.out (by have := len_A.out; omega) (by have := len_C.out; omega))
    go_wp2_with fail
    refine q20.out.mono ?_
    rintro e w20 ⟨v20, rfl, o20, b20⟩
    have A_20 := Lib.hid (A_19.out.below (B := 0) b20)
    have B_20 := Lib.hid (B_19.out.below (B := 0) b20)
    have C_20 := Lib.hid (C_19.out.below (B := 0) b20)
    have X1_20 := Lib.hid (X1_19.out.below (B := 0) b20)
    have X2_20 := Lib.hid (X2_19.out.below (B := 0) b20)
    have Y20 := Lib.hid (Y19.out.trans (b20.mono Y19.out.size))
    have X3_20 := Lib.hid (OwnRuns.at o20)
    obtain ⟨ad20, n20, c20, rfl⟩ := o20.slice
    clear o20 b20 q20 A_19 B_19 C_19 X1_19 X2_19 Y19
    have len_X3 : Hid ((Runs.minusR a c).length ≤ 121) := Lib.hid (by have h0 := minus_len a c; have h1 := len_A.out; have h2 := len_C.out; omega)
    have q21 := Lib.hid (minus_any _ _ b c _ S2.out S3.out B_20.out C_20.out (by have := len_B.out; omega) (by have := len_C.out; omega))
    go_wp2_with fail
    refine q21.out.mono ?_
    rintro e w21 ⟨v21, rfl, o21, b21⟩
    have A_21 := Lib.hid (A_20.out.below (B := 0) b21)
    have B_21 := Lib.hid (B_20.out.below (B := 0) b21)
    have C_21 := Lib.hid (C_20.out.below (B := 0) b21)
    have X1_21 := Lib.hid (X1_20.out.below (B := 0) b21)
    have X2_21 := Lib.hid (X2_20.out.below (B := 0) b21)
    have X3_21 := Lib.hid (X3_20.out.below (B := 0) b21)
    have Y21 := Lib.hid (Y20.out.trans (b21.mono Y20.out.size))
    have X4_21 := Lib.hid (OwnRuns.at o21)
    obtain ⟨ad21, n21, c21, rfl⟩ := o21.slice
    clear o21 b21 q21 A_20 B_20 C_20 X1_20 X2_20 X3_20 Y20
    have len_X4 : Hid ((Runs.minusR b c).length ≤ 121) := Lib.hid (by have h0 := minus_len b c; have h1 := len_B.out; have h2 := len_C.out; omega)
    have q22 := Lib.hid (union_any _ _ (Runs.minusR a c) (Runs.minusR b c) _ (Smalls.row (minus_row a c)) (Smalls.row (minus_row b c)) X3_21.out X4_21.out (by have := len_X3.out; omega) (by have := len_X4.out; omega))
    go_wp2_with fail
    refine q22.out.mono ?_
    rintro e w22 ⟨v22, rfl, o22, b22⟩
    have A_22 := Lib.hid (A_21.out.below (B := 0) b22)
    have B_22 := Lib.hid (B_21.out.below (B := 0) b22)
    have C_22 := Lib.hid (C_21.out.below (B := 0) b22)
    have X1_22 := Lib.hid (X1_21.out.below (B := 0) b22)
    have X2_22 := Lib.hid (X2_21.out.below (B := 0) b22)
    have X3_22 := Lib.hid (X3_21.out.below (B := 0) b22)
    have X4_22 := Lib.hid (X4_21.out.below (B := 0) b22)
    have Y22 := Lib.hid (Y21.out.trans (b22.mono Y21.out.size))
    have X5_22 := Lib.hid (OwnRuns.at o22)
    obtain ⟨ad22, n22, c22, rfl⟩ := o22.slice
    clear o22 b22 q22 A_21 B_21 C_21 X1_21 X2_21 X3_21 X4_21 Y21
    have len_X5 : Hid ((unionR (Runs.minusR a c) (Runs.minusR b c)).length ≤ 242) := Lib.hid (by have h0 := union_len (Runs.minusR a c) (Runs.minusR b c); have h1 := len_X3.out; have h2 := len_X4.out; omega)
    have q23 := Lib.hid (same_b _ _ _ (Runs.minusR (unionR a b) c) (unionR (Runs.minusR a c) (Runs.minusR b c)) X2_22.out X5_22.out (by have := len_X2.out; omega) (by have := len_X5.out; omega) true (by rw [law_minus_union a b c]; simp))
    go_wp2_with fail
    refine q23.out.mono ?_
    rintro e w23 ⟨rfl, b23⟩
    have A_23 := Lib.hid (A_22.out.below (B := 0) b23)
    have B_23 := Lib.hid (B_22.out.below (B := 0) b23)
    have C_23 := Lib.hid (C_22.out.below (B := 0) b23)
    have Y23 := Lib.hid (Y22.out.trans (b23.mono Y22.out.size))
    clear b23 q23 A_22 B_22 C_22 X1_22 X2_22 X3_22 X4_22 X5_22 Y22
    have q24 := Lib.hid (minus_any _ _ a b _ S1.out S2.out A_23.out B_23.out (by have := len_A.out; omega) (by have := len_B.out; omega))
    go_wp2_with fail
    refine q24.out.mono ?_
    rintro e w24 ⟨v24, rfl, o24, b24⟩
    have A_24 := Lib.hid (A_23.out.below (B := 0) b24)
    have B_24 := Lib.hid (B_23.out.below (B := 0) b24)
    have C_24 := Lib.hid (C_23.out.below (B := 0) b24)
    have Y24 := Lib.hid (Y23.out.trans (b24.mono Y23.out.size))
    have T1_24 := Lib.hid (OwnRuns.at o24)
    obtain ⟨ad24, n24, c24, rfl⟩ := o24.slice
    clear o24 b24 q24 A_23 B_23 C_23 Y23
    have len_T1 : Hid ((Runs.minusR a b).length ≤ 121) := Lib.hid (by have h0 := minus_len a b; have h1 := len_A.out; have h2 := len_B.out; omega)
    have q25 := Lib.hid (minus_any _ _ (Runs.minusR a b) c _ (Smalls.row (minus_row a b)) S3.out T1_24.out C_24.out (by have := len_T1.out; omega) (by have := len_C.out; omega))
    go_wp2_with fail
    refine q25.out.mono ?_
    rintro e w25 ⟨v25, rfl, o25, b25⟩
    have A_25 := Lib.hid (A_24.out.below (B := 0) b25)
    have B_25 := Lib.hid (B_24.out.below (B := 0) b25)
    have C_25 := Lib.hid (C_24.out.below (B := 0) b25)
    have T1_25 := Lib.hid (T1_24.out.below (B := 0) b25)
    have Y25 := Lib.hid (Y24.out.trans (b25.mono Y24.out.size))
    have T2_25 := Lib.hid (OwnRuns.at o25)
    obtain ⟨ad25, n25, c25, rfl⟩ := o25.slice
    clear o25 b25 q25 A_24 B_24 C_24 T1_24 Y24
    have len_T2 : Hid ((Runs.minusR (Runs.minusR a b) c).length ≤ 182) := Lib.hid (by have h0 := minus_len (Runs.minusR a b) c; have h1 := len_T1.out; have h2 := len_C.out; omega)
    have q26 := Lib.hid (union_any _ _ b c _ S2.out S3.out B_25.out C_25.out (by have := len_B.out; omega) (by have := len_C.out; omega))
    go_wp2_with fail
    refine q26.out.mono ?_
    rintro e w26 ⟨v26, rfl, o26, b26⟩
    have A_26 := Lib.hid (A_25.out.below (B := 0) b26)
    have B_26 := Lib.hid (B_25.out.below (B := 0) b26)
    have C_26 := Lib.hid (C_25.out.below (B := 0) b26)
    have T1_26 := Lib.hid (T1_25.out.below (B := 0) b26)
    have T2_26 := Lib.hid (T2_25.out.below (B := 0) b26)
    have Y26 := Lib.hid (Y25.out.trans (b26.mono Y25.out.size))
    have T3_26 := Lib.hid (OwnRuns.at o26)
    obtain ⟨ad26, n26, c26, rfl⟩ := o26.slice
    clear o26 b26 q26 A_25 B_25 C_25 T1_25 T2_25 Y25
    have len_T3 : Hid ((unionR b c).length ≤ 120) := Lib.hid (by have h0 := union_len b c; have h1 := len_B.out; have h2 := len_C.out; omega)
    have q27 := Lib.hid (minus_any _ _ a (unionR b c) _ S1.out (Smalls.row (union_row b c)) A_26.out T3_26.out (by have := len_A.out; omega) (by have := len_T3.out; omega))
    go_wp2_with fail
    refine q27.out.mono ?_
    rintro e w27 ⟨v27, rfl, o27, b27⟩
    have A_27 := Lib.hid (A_26.out.below (B := 0) b27)
    have B_27 := Lib.hid (B_26.out.below (B := 0) b27)
    have C_27 := Lib.hid (C_26.out.below (B := 0) b27)
    have T1_27 := Lib.hid (T1_26.out.below (B := 0) b27)
    have T2_27 := Lib.hid (T2_26.out.below (B := 0) b27)
    have T3_27 := Lib.hid (T3_26.out.below (B := 0) b27)
    have Y27 := Lib.hid (Y26.out.trans (b27.mono Y26.out.size))
    have T4_27 := Lib.hid (OwnRuns.at o27)
    obtain ⟨ad27, n27, c27, rfl⟩ := o27.slice
    clear o27 b27 q27 A_26 B_26 C_26 T1_26 T2_26 T3_26 Y26
    have len_T4 : Hid ((Runs.minusR a (unionR b c)).length ≤ 181) := Lib.hid (by have h0 := minus_len a (unionR b c); have h1 := len_A.out; have h2 := len_T3.out; omega)
    have q28 := Lib.hid (same_b _ _ _ (Runs.minusR (Runs.minusR a b) c) (Runs.minusR a (unionR b c)) T2_27.out T4_27.out (by have := len_T2.out; omega) (by have := len_T4.out; omega) true (by rw [law_minus_minus a b c]; simp))
    go_wp2_with fail
    refine q28.out.mono ?_
    rintro e w28 ⟨rfl, b28⟩
    have A_28 := Lib.hid (A_27.out.below (B := 0) b28)
    have B_28 := Lib.hid (B_27.out.below (B := 0) b28)
    have C_28 := Lib.hid (C_27.out.below (B := 0) b28)
    have Y28 := Lib.hid (Y27.out.trans (b28.mono Y27.out.size))
    clear b28 q28 A_27 B_27 C_27 T1_27 T2_27 T3_27 T4_27 Y27
    have q29 := Lib.hid (alive_any w28)
    go_wp2_with fail
    refine q29.out.mono ?_
    rintro e w29 ⟨rfl, b29⟩
    have A_29 := Lib.hid (A_28.out.below (B := 0) b29)
    have B_29 := Lib.hid (B_28.out.below (B := 0) b29)
    have C_29 := Lib.hid (C_28.out.below (B := 0) b29)
    have Y29 := Lib.hid (Y28.out.trans (b29.mono Y28.out.size))
    clear b29 q29 A_28 B_28 C_28 Y28
    go_wp2_with fail
    go_ret
    exact ⟨rfl, Y29.out⟩

end Go.Proofs.Ytkpnimekhekpmaa
