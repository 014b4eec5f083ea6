/- RunsPuts' walk. -/
import Derived.Test.YtkpnimekhekpmaaRunsRefUnion
import Derived.Test.YtkpnimekhekpmaaRunsTwin
namespace Go.Proofs.Ytkpnimekhekpmaa
open Go Go.RowKit

set_option maxRecDepth 100000 in
set_option maxHeartbeats 8000000 in
theorem RunsPuts_walk {w : World} (ad : Option Addr) (cap : Nat) (a : RL) (bd : Option Addr) (bcap : Nat) (b : RL) (h1 : RunsIn w (.slice ad a.length cap) a) (h2 : RunsIn w (.slice bd b.length bcap) b) :
    Calls Try.prog 7 #[.slice ad a.length cap, .slice bd b.length bcap] w fun e w' => e = .returned (.bool true) ∧ Below w.heap.size w w' := by
  have l1 := h1.len
  have l2 := h2.len
  by_cases ea : 100 < (a.length : Int)
  · go_enter Try.func7, Try.ntmps7
    go_wp2_with fail
    go_ret
    exact ⟨rfl, Below.refl _ _⟩
  by_cases eb : 100 < (b.length : Int)
  · go_enter Try.func7, Try.ntmps7
    go_wp2_with fail
    go_ret
    exact ⟨rfl, Below.refl _ _⟩
  have S1 := Lib.hid h1.small
  have S2 := Lib.hid h2.small
  have z1 : (a.length : Int) ≤ 100 := by omega
  have z2 : (b.length : Int) ≤ 100 := by omega
  have lenA : Hid (a.length ≤ 100) := Lib.hid (by omega)
  have lenB : Hid (b.length ≤ 100) := Lib.hid (by omega)
  have lenU : Hid ((unionR a b).length ≤ 201) := Lib.hid (by have := union_len a b; omega)
  have lenM : Hid ((Runs.minusR a b).length ≤ 201) := Lib.hid (by have := minus_len a b; omega)
  have lenT : Hid ((Runs.meetR a b).length ≤ 201) := Lib.hid (by have := meet_len a b; omega)
  have A_0 := Lib.hid h1.at_
  have B_0 := Lib.hid h2.at_
  have qT := Lib.hid (twin_any _ a w h1.at_ (by omega))
  clear h1 h2
  go_enter Try.func7, Try.ntmps7
  go_wp2_with fail
  refine qT.out.mono ?_
  rintro e wS ⟨vT, rfl, oT, bT⟩
  have T_S := Lib.hid oT
  have BS0 := Lib.hid bT
  obtain ⟨tg, tc, rfl⟩ : ∃ tg tc, vT = .slice (some ⟨tg, 0, none⟩) a.length tc := by
    obtain ⟨g, c, e, _⟩ := oT
    exact ⟨g, c, e⟩
  clear oT bT qT
  have qU := Lib.hid (twin_any _ b wS (B_0.out.below (B := 0) BS0.out) (by have := lenB.out; omega))
  go_wp2_with fail
  refine qU.out.mono ?_
  rintro e wT ⟨vU, rfl, oU, bU⟩
  have U_B := Lib.hid oU
  have T_B := Lib.hid (T_S.out.below bU)
  have BT0 := Lib.hid (BS0.out.trans (bU.mono BS0.out.size))
  have A_B := Lib.hid (A_0.out.below (B := 0) BT0.out)
  have B_B := Lib.hid (B_0.out.below (B := 0) BT0.out)
  obtain ⟨ug, uc, rfl⟩ : ∃ tg tc, vU = .slice (some ⟨tg, 0, none⟩) b.length tc := by
    obtain ⟨g, c, e, _⟩ := oU
    exact ⟨g, c, e⟩
  clear oU bU qU A_0 B_0 BS0 T_S
  have q1 := Lib.hid (union_any _ _ a b _ S1.out S2.out (TwinAt.at T_B.out) (TwinAt.at U_B.out) (by have := lenA.out; omega) (by have := lenB.out; omega))
  go_wp2_with fail
  refine q1.out.mono ?_
  rintro e w1 ⟨v1, rfl, o1, b1⟩
  have z1 := Lib.hid b1.size
  have Y1 := Lib.hid b1
  have X_1 := Lib.hid o1
  obtain ⟨ad1, n1, c1, rfl⟩ := o1.slice
  have lt_X := Lib.hid (own_lt2 o1)
  clear o1 b1 q1 
  have q2 := Lib.hid (minus_any _ _ a b _ S1.out S2.out (TwinAt.at (T_B.out.below Y1.out)) (TwinAt.at (U_B.out.below Y1.out)) (by have := lenA.out; omega) (by have := lenB.out; omega))
  go_wp2_with fail
  refine q2.out.mono ?_
  rintro e w2 ⟨v2, rfl, o2, b2⟩
  have X_2 := Lib.hid (X_1.out.below b2)
  have z2 := Lib.hid b2.size
  have Y2 := Lib.hid (Y1.out.trans (b2.mono Y1.out.size))
  have V_2 := Lib.hid o2
  obtain ⟨ad2, n2, c2, rfl⟩ := o2.slice
  have lt_V := Lib.hid (own_lt2 o2)
  clear o2 b2 q2 X_1 Y1
  have q3 := Lib.hid (meet_any _ _ a b _ S1.out S2.out (TwinAt.at (T_B.out.below Y2.out)) (TwinAt.at (U_B.out.below Y2.out)) (by have := lenA.out; omega) (by have := lenB.out; omega))
  go_wp2_with fail
  refine q3.out.mono ?_
  rintro e w3 ⟨v3, rfl, o3, b3⟩
  have X_3 := Lib.hid (X_2.out.below b3)
  have V_3 := Lib.hid (V_2.out.below b3)
  have z3 := Lib.hid b3.size
  have Y3 := Lib.hid (Y2.out.trans (b3.mono Y2.out.size))
  have Z_3 := Lib.hid o3
  obtain ⟨ad3, n3, c3, rfl⟩ := o3.slice
  have lt_Z := Lib.hid (own_lt2 o3)
  clear o3 b3 q3 X_2 V_2 Y2
  have q4 := Lib.hid (union2_any _ _ a b _ S1.out S2.out (A_B.out.below (B := 0) Y3.out) (B_B.out.below (B := 0) Y3.out) (by have := lenA.out; omega) (by have := lenB.out; omega))
  go_wp2_with fail
  refine q4.out.mono ?_
  rintro e w4 ⟨v4, rfl, o4, b4⟩
  have X_4 := Lib.hid (X_3.out.below b4)
  have V_4 := Lib.hid (V_3.out.below b4)
  have Z_4 := Lib.hid (Z_3.out.below b4)
  have z4 := Lib.hid b4.size
  have Y4 := Lib.hid (Y3.out.trans (b4.mono Y3.out.size))
  have F_4 := Lib.hid o4
  obtain ⟨ad4, n4, c4, rfl⟩ := o4.slice
  have lt_F := Lib.hid (own_lt2 o4)
  clear o4 b4 q4 X_3 V_3 Z_3 Y3
  have q5 := Lib.hid (minus2_any _ _ a b _ S1.out S2.out (A_B.out.below (B := 0) Y4.out) (B_B.out.below (B := 0) Y4.out) (by have := lenA.out; omega) (by have := lenB.out; omega))
  go_wp2_with fail
  refine q5.out.mono ?_
  rintro e w5 ⟨v5, rfl, o5, b5⟩
  have X_5 := Lib.hid (X_4.out.below b5)
  have V_5 := Lib.hid (V_4.out.below b5)
  have Z_5 := Lib.hid (Z_4.out.below b5)
  have F_5 := Lib.hid (F_4.out.below b5)
  have z5 := Lib.hid b5.size
  have Y5 := Lib.hid (Y4.out.trans (b5.mono Y4.out.size))
  have G_5 := Lib.hid o5
  obtain ⟨ad5, n5, c5, rfl⟩ := o5.slice
  have lt_G := Lib.hid (own_lt2 o5)
  clear o5 b5 q5 X_4 V_4 Z_4 F_4 Y4
  have q6 := Lib.hid (meet2_any _ _ a b _ S1.out S2.out (A_B.out.below (B := 0) Y5.out) (B_B.out.below (B := 0) Y5.out) (by have := lenA.out; omega) (by have := lenB.out; omega))
  go_wp2_with fail
  refine q6.out.mono ?_
  rintro e w6 ⟨v6, rfl, o6, b6⟩
  have X_6 := Lib.hid (X_5.out.below b6)
  have V_6 := Lib.hid (V_5.out.below b6)
  have Z_6 := Lib.hid (Z_5.out.below b6)
  have F_6 := Lib.hid (F_5.out.below b6)
  have G_6 := Lib.hid (G_5.out.below b6)
  have z6 := Lib.hid b6.size
  have Y6 := Lib.hid (Y5.out.trans (b6.mono Y5.out.size))
  have H_6 := Lib.hid o6
  obtain ⟨ad6, n6, c6, rfl⟩ := o6.slice
  have lt_H := Lib.hid (own_lt2 o6)
  clear o6 b6 q6 X_5 V_5 Z_5 F_5 G_5 Y5
  have q7 := Lib.hid (same_b _ _ _ (unionR a b) (unionR a b) (OwnRuns.at X_6.out) (OwnRuns.at F_6.out) (by have := lenU.out; omega) (by have := lenU.out; omega) true (by simp))
  go_wp2_with fail
  refine q7.out.mono ?_
  rintro e w7 ⟨rfl, b7⟩
  have X_7 := Lib.hid (X_6.out.below b7)
  have V_7 := Lib.hid (V_6.out.below b7)
  have Z_7 := Lib.hid (Z_6.out.below b7)
  have F_7 := Lib.hid (F_6.out.below b7)
  have G_7 := Lib.hid (G_6.out.below b7)
  have H_7 := Lib.hid (H_6.out.below b7)
  have z7 := Lib.hid b7.size
  have Y7 := Lib.hid (Y6.out.trans (b7.mono Y6.out.size))
  clear b7 q7 X_6 V_6 Z_6 F_6 G_6 H_6 Y6
  have q8 := Lib.hid (same_b _ _ _ (Runs.minusR a b) (Runs.minusR a b) (OwnRuns.at V_7.out) (OwnRuns.at G_7.out) (by have := lenM.out; omega) (by have := lenM.out; omega) true (by simp))
  go_wp2_with fail
  refine q8.out.mono ?_
  rintro e w8 ⟨rfl, b8⟩
  have X_8 := Lib.hid (X_7.out.below b8)
  have V_8 := Lib.hid (V_7.out.below b8)
  have Z_8 := Lib.hid (Z_7.out.below b8)
  have F_8 := Lib.hid (F_7.out.below b8)
  have G_8 := Lib.hid (G_7.out.below b8)
  have H_8 := Lib.hid (H_7.out.below b8)
  have z8 := Lib.hid b8.size
  have Y8 := Lib.hid (Y7.out.trans (b8.mono Y7.out.size))
  clear b8 q8 X_7 V_7 Z_7 F_7 G_7 H_7 Y7
  have q9 := Lib.hid (same_b _ _ _ (Runs.meetR a b) (Runs.meetR a b) (OwnRuns.at Z_8.out) (OwnRuns.at H_8.out) (by have := lenT.out; omega) (by have := lenT.out; omega) true (by simp))
  go_wp2_with fail
  refine q9.out.mono ?_
  rintro e w9 ⟨rfl, b9⟩
  have X_9 := Lib.hid (X_8.out.below b9)
  have V_9 := Lib.hid (V_8.out.below b9)
  have Z_9 := Lib.hid (Z_8.out.below b9)
  have F_9 := Lib.hid (F_8.out.below b9)
  have G_9 := Lib.hid (G_8.out.below b9)
  have H_9 := Lib.hid (H_8.out.below b9)
  have z9 := Lib.hid b9.size
  have Y9 := Lib.hid (Y8.out.trans (b9.mono Y8.out.size))
  clear b9 q9 X_8 V_8 Z_8 F_8 G_8 H_8 Y8
  have q10 := Lib.hid (spoil_any _ _ _ _ X_9.out (by have := lenU.out; omega))
  go_wp2_with fail
  refine q10.out.mono ?_
  rintro e w10 ⟨rfl, g10, b10⟩
  have V_10 := Lib.hid (own_after V_9.out (fun j hj => by have := (lt_X.out j hj).2;  omega) g10)
  have Z_10 := Lib.hid (own_after Z_9.out (fun j hj => by have := (lt_X.out j hj).2; have := z2.out; omega) g10)
  have F_10 := Lib.hid (own_after F_9.out (fun j hj => by have := (lt_X.out j hj).2; have := z2.out; have := z3.out; omega) g10)
  have G_10 := Lib.hid (own_after G_9.out (fun j hj => by have := (lt_X.out j hj).2; have := z2.out; have := z3.out; have := z4.out; omega) g10)
  have H_10 := Lib.hid (own_after H_9.out (fun j hj => by have := (lt_X.out j hj).2; have := z2.out; have := z3.out; have := z4.out; have := z5.out; omega) g10)
  have z10 := Lib.hid g10.size
  have Y10 := Lib.hid (Y9.out.trans (b10.mono (by  omega)))
  clear g10 b10 q10 lt_X X_9 V_9 Z_9 F_9 G_9 H_9 Y9
  have q11 := Lib.hid (same_b _ _ _ (Runs.minusR a b) (Runs.minusR a b) (OwnRuns.at V_10.out) (OwnRuns.at G_10.out) (by have := lenM.out; omega) (by have := lenM.out; omega) true (by simp))
  go_wp2_with fail
  refine q11.out.mono ?_
  rintro e w11 ⟨rfl, b11⟩
  have V_11 := Lib.hid (V_10.out.below b11)
  have Z_11 := Lib.hid (Z_10.out.below b11)
  have F_11 := Lib.hid (F_10.out.below b11)
  have G_11 := Lib.hid (G_10.out.below b11)
  have H_11 := Lib.hid (H_10.out.below b11)
  have z11 := Lib.hid b11.size
  have Y11 := Lib.hid (Y10.out.trans (b11.mono Y10.out.size))
  clear b11 q11 V_10 Z_10 F_10 G_10 H_10 Y10
  have q12 := Lib.hid (same_b _ _ _ (Runs.meetR a b) (Runs.meetR a b) (OwnRuns.at Z_11.out) (OwnRuns.at H_11.out) (by have := lenT.out; omega) (by have := lenT.out; omega) true (by simp))
  go_wp2_with fail
  refine q12.out.mono ?_
  rintro e w12 ⟨rfl, b12⟩
  have V_12 := Lib.hid (V_11.out.below b12)
  have Z_12 := Lib.hid (Z_11.out.below b12)
  have F_12 := Lib.hid (F_11.out.below b12)
  have G_12 := Lib.hid (G_11.out.below b12)
  have H_12 := Lib.hid (H_11.out.below b12)
  have z12 := Lib.hid b12.size
  have Y12 := Lib.hid (Y11.out.trans (b12.mono Y11.out.size))
  clear b12 q12 V_11 Z_11 F_11 G_11 H_11 Y11
  have q13 := Lib.hid (spoil_any _ _ _ _ V_12.out (by have := lenM.out; omega))
  go_wp2_with fail
  refine q13.out.mono ?_
  rintro e w13 ⟨rfl, g13, b13⟩
  have Z_13 := Lib.hid (own_after Z_12.out (fun j hj => by have := (lt_V.out j hj).2;  omega) g13)
  have F_13 := Lib.hid (own_after F_12.out (fun j hj => by have := (lt_V.out j hj).2; have := z3.out; omega) g13)
  have G_13 := Lib.hid (own_after G_12.out (fun j hj => by have := (lt_V.out j hj).2; have := z3.out; have := z4.out; omega) g13)
  have H_13 := Lib.hid (own_after H_12.out (fun j hj => by have := (lt_V.out j hj).2; have := z3.out; have := z4.out; have := z5.out; omega) g13)
  have z13 := Lib.hid g13.size
  have Y13 := Lib.hid (Y12.out.trans (b13.mono (by have := z1.out; omega)))
  clear g13 b13 q13 lt_V V_12 Z_12 F_12 G_12 H_12 Y12
  have q14 := Lib.hid (same_b _ _ _ (Runs.meetR a b) (Runs.meetR a b) (OwnRuns.at Z_13.out) (OwnRuns.at H_13.out) (by have := lenT.out; omega) (by have := lenT.out; omega) true (by simp))
  go_wp2_with fail
  refine q14.out.mono ?_
  rintro e w14 ⟨rfl, b14⟩
  have Z_14 := Lib.hid (Z_13.out.below b14)
  have F_14 := Lib.hid (F_13.out.below b14)
  have G_14 := Lib.hid (G_13.out.below b14)
  have H_14 := Lib.hid (H_13.out.below b14)
  have z14 := Lib.hid b14.size
  have Y14 := Lib.hid (Y13.out.trans (b14.mono Y13.out.size))
  clear b14 q14 Z_13 F_13 G_13 H_13 Y13
  have q15 := Lib.hid (spoil_any _ _ _ _ Z_14.out (by have := lenT.out; omega))
  go_wp2_with fail
  refine q15.out.mono ?_
  rintro e w15 ⟨rfl, g15, b15⟩
  have F_15 := Lib.hid (own_after F_14.out (fun j hj => by have := (lt_Z.out j hj).2;  omega) g15)
  have G_15 := Lib.hid (own_after G_14.out (fun j hj => by have := (lt_Z.out j hj).2; have := z4.out; omega) g15)
  have H_15 := Lib.hid (own_after H_14.out (fun j hj => by have := (lt_Z.out j hj).2; have := z4.out; have := z5.out; omega) g15)
  have z15 := Lib.hid g15.size
  have Y15 := Lib.hid (Y14.out.trans (b15.mono (by have := z1.out; have := z2.out; omega)))
  clear g15 b15 q15 lt_Z Z_14 F_14 G_14 H_14 Y14
  have q16 := Lib.hid (left_any _ _ _ a _ (T_B.out.below Y15.out) (A_B.out.below (B := 0) Y15.out) (by have := lenA.out; omega))
  go_wp2_with fail
  refine q16.out.mono ?_
  rintro e w16 ⟨rfl, b16⟩
  have F_16 := Lib.hid (F_15.out.below b16)
  have G_16 := Lib.hid (G_15.out.below b16)
  have H_16 := Lib.hid (H_15.out.below b16)
  have z16 := Lib.hid b16.size
  have Y16 := Lib.hid (Y15.out.trans (b16.mono Y15.out.size))
  clear b16 q16 F_15 G_15 H_15 Y15
  have q17 := Lib.hid (left_any _ _ _ b _ (U_B.out.below Y16.out) (B_B.out.below (B := 0) Y16.out) (by have := lenB.out; omega))
  go_wp2_with fail
  refine q17.out.mono ?_
  rintro e w17 ⟨rfl, b17⟩
  have F_17 := Lib.hid (F_16.out.below b17)
  have G_17 := Lib.hid (G_16.out.below b17)
  have H_17 := Lib.hid (H_16.out.below b17)
  have z17 := Lib.hid b17.size
  have Y17 := Lib.hid (Y16.out.trans (b17.mono Y16.out.size))
  clear b17 q17 F_16 G_16 H_16 Y16
  have q18 := Lib.hid (union_any _ _ a b _ S1.out S2.out (TwinAt.at (T_B.out.below Y17.out)) (TwinAt.at (U_B.out.below Y17.out)) (by have := lenA.out; omega) (by have := lenB.out; omega))
  go_wp2_with fail
  refine q18.out.mono ?_
  rintro e w18 ⟨v18, rfl, o18, b18⟩
  have F_18 := Lib.hid (F_17.out.below b18)
  have G_18 := Lib.hid (G_17.out.below b18)
  have H_18 := Lib.hid (H_17.out.below b18)
  have z18 := Lib.hid b18.size
  have Y18 := Lib.hid (Y17.out.trans (b18.mono Y17.out.size))
  have P_18 := Lib.hid o18
  obtain ⟨ad18, n18, c18, rfl⟩ := o18.slice
  have lt_P := Lib.hid (own_lt2 o18)
  clear o18 b18 q18 F_17 G_17 H_17 Y17
  have q19 := Lib.hid (same_b _ _ _ (unionR a b) (unionR a b) (OwnRuns.at P_18.out) (OwnRuns.at F_18.out) (by have := lenU.out; omega) (by have := lenU.out; omega) true (by simp))
  go_wp2_with fail
  refine q19.out.mono ?_
  rintro e w19 ⟨rfl, b19⟩
  have G_19 := Lib.hid (G_18.out.below b19)
  have H_19 := Lib.hid (H_18.out.below b19)
  have z19 := Lib.hid b19.size
  have Y19 := Lib.hid (Y18.out.trans (b19.mono Y18.out.size))
  clear b19 q19 F_18 G_18 H_18 P_18 Y18
  have q20 := Lib.hid (minus_any _ _ a b _ S1.out S2.out (TwinAt.at (T_B.out.below Y19.out)) (TwinAt.at (U_B.out.below Y19.out)) (by have := lenA.out; omega) (by have := lenB.out; omega))
  go_wp2_with fail
  refine q20.out.mono ?_
  rintro e w20 ⟨v20, rfl, o20, b20⟩
  have G_20 := Lib.hid (G_19.out.below b20)
  have H_20 := Lib.hid (H_19.out.below b20)
  have z20 := Lib.hid b20.size
  have Y20 := Lib.hid (Y19.out.trans (b20.mono Y19.out.size))
  have Q_20 := Lib.hid o20
  obtain ⟨ad20, n20, c20, rfl⟩ := o20.slice
  have lt_Q := Lib.hid (own_lt2 o20)
  clear o20 b20 q20 G_19 H_19 Y19
  have q21 := Lib.hid (same_b _ _ _ (Runs.minusR a b) (Runs.minusR a b) (OwnRuns.at Q_20.out) (OwnRuns.at G_20.out) (by have := lenM.out; omega) (by have := lenM.out; omega) true (by simp))
  go_wp2_with fail
  refine q21.out.mono ?_
  rintro e w21 ⟨rfl, b21⟩
  have H_21 := Lib.hid (H_20.out.below b21)
  have z21 := Lib.hid b21.size
  have Y21 := Lib.hid (Y20.out.trans (b21.mono Y20.out.size))
  clear b21 q21 G_20 H_20 Q_20 Y20
  have q22 := Lib.hid (meet_any _ _ a b _ S1.out S2.out (TwinAt.at (T_B.out.below Y21.out)) (TwinAt.at (U_B.out.below Y21.out)) (by have := lenA.out; omega) (by have := lenB.out; omega))
  go_wp2_with fail
  refine q22.out.mono ?_
  rintro e w22 ⟨v22, rfl, o22, b22⟩
  have H_22 := Lib.hid (H_21.out.below b22)
  have z22 := Lib.hid b22.size
  have Y22 := Lib.hid (Y21.out.trans (b22.mono Y21.out.size))
  have R_22 := Lib.hid o22
  obtain ⟨ad22, n22, c22, rfl⟩ := o22.slice
  have lt_R := Lib.hid (own_lt2 o22)
  clear o22 b22 q22 H_21 Y21
  have q23 := Lib.hid (same_b _ _ _ (Runs.meetR a b) (Runs.meetR a b) (OwnRuns.at R_22.out) (OwnRuns.at H_22.out) (by have := lenT.out; omega) (by have := lenT.out; omega) true (by simp))
  go_wp2_with fail
  refine q23.out.mono ?_
  rintro e w23 ⟨rfl, b23⟩
  have z23 := Lib.hid b23.size
  have Y23 := Lib.hid (Y22.out.trans (b23.mono Y22.out.size))
  clear b23 q23 H_22 R_22 Y22
  have q24 := Lib.hid (alive_any w23)
  go_wp2_with fail
  refine q24.out.mono ?_
  rintro e w24 ⟨rfl, b24⟩
  have z24 := Lib.hid b24.size
  have Y24 := Lib.hid (Y23.out.trans (b24.mono Y23.out.size))
  clear b24 q24 Y23
  have BT := Lib.hid (BT0.out.trans (Y24.out.mono BT0.out.size))
  go_wp2_with fail
  go_ret
  exact ⟨rfl, BT.out⟩

end Go.Proofs.Ytkpnimekhekpmaa
