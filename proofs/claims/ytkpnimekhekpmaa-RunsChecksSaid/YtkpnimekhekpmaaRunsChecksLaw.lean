/- RunsChecks' walk. -/
import Derived.Test.YtkpnimekhekpmaaRunsRefLens
import Derived.Test.YtkpnimekhekpmaaRunsRefCheck
import Derived.Test.YtkpnimekhekpmaaRunsRefHas
import Derived.Test.YtkpnimekhekpmaaRunsRefCount
import Derived.Test.YtkpnimekhekpmaaRunsTwin
namespace Go.Proofs.Ytkpnimekhekpmaa
open Go Go.RowKit

theorem OwnInts.below {B : Nat} {w w' : World} {v : Value} {l : List Int} (h : OwnInts B w v l) (hb : Below w.heap.size w w') : OwnInts B w' v l := own_belowG h hb
theorem OwnInts.islice {B : Nat} {w : World} {v : Value} {l : List Int} (h : OwnInts B w v l) : ∃ ad c, v = .slice ad l.length c := by
  rcases h.2 with ⟨rfl, h0⟩ | ⟨g, cap, cur, rfl, _⟩
  · exact ⟨none, 0, by rw [h0]⟩
  · exact ⟨_, _, rfl⟩

set_option maxRecDepth 100000 in
set_option maxHeartbeats 8000000 in
theorem RunsChecks_walk {w : World} (ad : Option Addr) (cap : Nat) (l : RL) (i : Int) (h : RunsIn w (.slice ad l.length cap) l) (hi : -9223372036854775808 ≤ i ∧ i ≤ 9223372036854775807) :
    Calls Try.prog 5 #[.slice ad l.length cap, .int .i64 i] w fun e w' => e = .returned (.bool true) ∧ Below w.heap.size w w' := by
  have l1 := h.len
  by_cases ea : 150 < (l.length : Int)
  · go_enter Try.func5, Try.ntmps5
    go_wp2_with fail
    go_ret
    exact ⟨rfl, Below.refl _ _⟩
  have S1 := Lib.hid h.small
  have z1 : (l.length : Int) ≤ 150 := by omega
  have lenL : Hid (l.length ≤ 150) := Lib.hid (by omega)
  have lenN : Hid ((Runs.normR l).length ≤ 150) := Lib.hid (by have := norm_len l; omega)
  have lenS : (lensR l).length ≤ 150 := by
    have := norm_len l
    unfold lensR
    rw [sortI_len, List.length_map]
    omega
  obtain ⟨NL, hNL⟩ : ∃ NL, Hid (lensR l = NL) := ⟨_, Lib.hid rfl⟩
  obtain ⟨ok, hok⟩ : ∃ b, Hid (okTo l l.length = b) := ⟨_, Lib.hid rfl⟩
  obtain ⟨hv, hhv⟩ : ∃ b, Hid (hasB l i = b) := ⟨_, Lib.hid rfl⟩
  obtain ⟨cv, hcv⟩ : ∃ b, Hid (countR l = b) := ⟨_, Lib.hid rfl⟩
  obtain ⟨gv, hgv⟩ : ∃ b, Hid (NL.getLastD 0 = b) := ⟨_, Lib.hid rfl⟩
  rw [hNL.out] at lenS
  have L_0 := Lib.hid h.at_
  have qT := Lib.hid (twin_any _ l w h.at_ (by omega))
  clear h
  go_enter Try.func5, Try.ntmps5
  go_wp2_with fail
  refine qT.out.mono ?_
  rintro e wT ⟨vT, rfl, oT, bT⟩
  have T_B := Lib.hid oT
  have BT0 := Lib.hid bT
  have L_B := Lib.hid (L_0.out.below (B := 0) bT)
  obtain ⟨tg, tc, rfl⟩ : ∃ tg tc, vT = .slice (some ⟨tg, 0, none⟩) l.length tc := by
    obtain ⟨g, c, e, _⟩ := oT
    exact ⟨g, c, e⟩
  clear oT bT qT L_0
  have q1 := Lib.hid (normal_any _ l _ S1.out (TwinAt.at T_B.out) (by have := lenL.out; omega))
  go_wp2_with fail
  refine q1.out.mono ?_
  rintro e w1 ⟨v1, rfl, o1, b1⟩
  have z1 := Lib.hid b1.size
  have Y1 := Lib.hid b1
  have A_1 := Lib.hid o1
  obtain ⟨ad1, n1, c1, rfl⟩ := o1.slice
  have lt_A := Lib.hid (own_lt2 o1)
  clear o1 b1 q1 
  have q2 := Lib.hid (normal2_any _ l _ S1.out (L_B.out.below (B := 0) Y1.out) (by have := lenL.out; omega))
  go_wp2_with fail
  refine q2.out.mono ?_
  rintro e w2 ⟨v2, rfl, o2, b2⟩
  have A_2 := Lib.hid (A_1.out.below b2)
  have z2 := Lib.hid b2.size
  have Y2 := Lib.hid (Y1.out.trans (b2.mono Y1.out.size))
  have W_2 := Lib.hid o2
  obtain ⟨ad2, n2, c2, rfl⟩ := o2.slice
  have lt_W := Lib.hid (own_lt2 o2)
  clear o2 b2 q2 A_1 Y1
  have q3 := Lib.hid (lengths_any _ l _ S1.out (TwinAt.at (T_B.out.below Y2.out)) (by have := lenL.out; omega))
  rw [hNL.out] at q3
  go_wp2_with fail
  refine q3.out.mono ?_
  rintro e w3 ⟨v3, rfl, o3, b3⟩
  have A_3 := Lib.hid (A_2.out.below b3)
  have W_3 := Lib.hid (W_2.out.below b3)
  have z3 := Lib.hid b3.size
  have Y3 := Lib.hid (Y2.out.trans (b3.mono Y2.out.size))
  have I_3 := Lib.hid o3
  obtain ⟨ad3, c3, rfl⟩ := o3.islice
  clear o3 b3 q3 A_2 W_2 Y2
  have q4 := Lib.hid (lens2_any _ l _ S1.out (L_B.out.below (B := 0) Y3.out) (by have := lenL.out; omega))
  rw [hNL.out] at q4
  go_wp2_with fail
  refine q4.out.mono ?_
  rintro e w4 ⟨v4, rfl, o4, b4⟩
  have A_4 := Lib.hid (A_3.out.below b4)
  have W_4 := Lib.hid (W_3.out.below b4)
  have I_4 := Lib.hid (I_3.out.below b4)
  have z4 := Lib.hid b4.size
  have Y4 := Lib.hid (Y3.out.trans (b4.mono Y3.out.size))
  have J_4 := Lib.hid o4
  obtain ⟨ad4, c4, rfl⟩ := o4.islice
  clear o4 b4 q4 A_3 W_3 I_3 Y3
  have q5 := Lib.hid (check_any _ l _ S1.out (TwinAt.at (T_B.out.below Y4.out)) (by have := lenL.out; omega))
  rw [hok.out] at q5
  go_wp2_with fail
  refine q5.out.mono ?_
  rintro e w5 ⟨rfl, b5⟩
  have A_5 := Lib.hid (A_4.out.below b5)
  have W_5 := Lib.hid (W_4.out.below b5)
  have I_5 := Lib.hid (I_4.out.below b5)
  have J_5 := Lib.hid (J_4.out.below b5)
  have z5 := Lib.hid b5.size
  have Y5 := Lib.hid (Y4.out.trans (b5.mono Y4.out.size))
  clear b5 q5 A_4 W_4 I_4 J_4 Y4
  have q6 := Lib.hid (check2_any _ l _ S1.out (L_B.out.below (B := 0) Y5.out) (by have := lenL.out; omega))
  rw [hok.out] at q6
  go_wp2_with fail
  refine q6.out.mono ?_
  rintro e w6 ⟨rfl, b6⟩
  have A_6 := Lib.hid (A_5.out.below b6)
  have W_6 := Lib.hid (W_5.out.below b6)
  have I_6 := Lib.hid (I_5.out.below b6)
  have J_6 := Lib.hid (J_5.out.below b6)
  have z6 := Lib.hid b6.size
  have Y6 := Lib.hid (Y5.out.trans (b6.mono Y5.out.size))
  clear b6 q6 A_5 W_5 I_5 J_5 Y5
  have q7 := Lib.hid (same_b _ _ _ (Runs.normR l) (Runs.normR l) (OwnRuns.at A_6.out) (OwnRuns.at W_6.out) (by have := lenN.out; omega) (by have := lenN.out; omega) true (by simp))
  go_wp2_with fail
  refine q7.out.mono ?_
  rintro e w7 ⟨rfl, b7⟩
  have A_7 := Lib.hid (A_6.out.below b7)
  have W_7 := Lib.hid (W_6.out.below b7)
  have I_7 := Lib.hid (I_6.out.below b7)
  have J_7 := Lib.hid (J_6.out.below b7)
  have z7 := Lib.hid b7.size
  have Y7 := Lib.hid (Y6.out.trans (b7.mono Y6.out.size))
  clear b7 q7 A_6 W_6 I_6 J_6 Y6
  have q8 := Lib.hid (has_any _ l i _ S1.out (TwinAt.at (T_B.out.below Y7.out)) (by have := lenL.out; omega) hi)
  rw [hhv.out] at q8
  go_wp2_with fail
  refine q8.out.mono ?_
  rintro e w8 ⟨rfl, b8⟩
  have A_8 := Lib.hid (A_7.out.below b8)
  have W_8 := Lib.hid (W_7.out.below b8)
  have I_8 := Lib.hid (I_7.out.below b8)
  have J_8 := Lib.hid (J_7.out.below b8)
  have z8 := Lib.hid b8.size
  have Y8 := Lib.hid (Y7.out.trans (b8.mono Y7.out.size))
  clear b8 q8 A_7 W_7 I_7 J_7 Y7
  have q9 := Lib.hid (has2_any _ l i _ S1.out (L_B.out.below (B := 0) Y8.out) (by have := lenL.out; omega) hi)
  rw [hhv.out] at q9
  go_wp2_with fail
  refine q9.out.mono ?_
  rintro e w9 ⟨rfl, b9⟩
  have A_9 := Lib.hid (A_8.out.below b9)
  have W_9 := Lib.hid (W_8.out.below b9)
  have I_9 := Lib.hid (I_8.out.below b9)
  have J_9 := Lib.hid (J_8.out.below b9)
  have z9 := Lib.hid b9.size
  have Y9 := Lib.hid (Y8.out.trans (b9.mono Y8.out.size))
  clear b9 q9 A_8 W_8 I_8 J_8 Y8
  have q10 := Lib.hid (count_any _ l _ S1.out (TwinAt.at (T_B.out.below Y9.out)) (by have := lenL.out; omega))
  rw [hcv.out] at q10
  go_wp2_with fail
  refine q10.out.mono ?_
  rintro e w10 ⟨rfl, b10⟩
  have A_10 := Lib.hid (A_9.out.below b10)
  have W_10 := Lib.hid (W_9.out.below b10)
  have I_10 := Lib.hid (I_9.out.below b10)
  have J_10 := Lib.hid (J_9.out.below b10)
  have z10 := Lib.hid b10.size
  have Y10 := Lib.hid (Y9.out.trans (b10.mono Y9.out.size))
  clear b10 q10 A_9 W_9 I_9 J_9 Y9
  have q11 := Lib.hid (count2_any _ l _ S1.out (L_B.out.below (B := 0) Y10.out) (by have := lenL.out; omega))
  rw [hcv.out] at q11
  go_wp2_with fail
  refine q11.out.mono ?_
  rintro e w11 ⟨rfl, b11⟩
  have A_11 := Lib.hid (A_10.out.below b11)
  have W_11 := Lib.hid (W_10.out.below b11)
  have I_11 := Lib.hid (I_10.out.below b11)
  have J_11 := Lib.hid (J_10.out.below b11)
  have z11 := Lib.hid b11.size
  have Y11 := Lib.hid (Y10.out.trans (b11.mono Y10.out.size))
  clear b11 q11 A_10 W_10 I_10 J_10 Y10
  have q12 := Lib.hid (largest_any _ l _ S1.out (TwinAt.at (T_B.out.below Y11.out)) (by have := lenL.out; omega))
  rw [hNL.out] at q12
  rw [hgv.out] at q12
  go_wp2_with fail
  refine q12.out.mono ?_
  rintro e w12 ⟨rfl, b12⟩
  have A_12 := Lib.hid (A_11.out.below b12)
  have W_12 := Lib.hid (W_11.out.below b12)
  have I_12 := Lib.hid (I_11.out.below b12)
  have J_12 := Lib.hid (J_11.out.below b12)
  have z12 := Lib.hid b12.size
  have Y12 := Lib.hid (Y11.out.trans (b12.mono Y11.out.size))
  clear b12 q12 A_11 W_11 I_11 J_11 Y11
  have q13 := Lib.hid (largest2_any _ l _ S1.out (L_B.out.below (B := 0) Y12.out) (by have := lenL.out; omega))
  rw [hNL.out] at q13
  rw [hgv.out] at q13
  go_wp2_with fail
  refine q13.out.mono ?_
  rintro e w13 ⟨rfl, b13⟩
  have A_13 := Lib.hid (A_12.out.below b13)
  have W_13 := Lib.hid (W_12.out.below b13)
  have I_13 := Lib.hid (I_12.out.below b13)
  have J_13 := Lib.hid (J_12.out.below b13)
  have z13 := Lib.hid b13.size
  have Y13 := Lib.hid (Y12.out.trans (b13.mono Y12.out.size))
  clear b13 q13 A_12 W_12 I_12 J_12 Y12
  go_wp2_with fail
  go_loopw [10] (fun q wr => ∃ j : Nat, q = .int .i64 j ∧ j ≤ NL.length ∧ Hid (Below w13.heap.size w13 wr)) (fun q _ => NL.length - (intOf q).toNat)
  case atStart => exact ⟨0, rfl, by omega, Lib.hid (Below.refl _ _)⟩
  case round =>
    obtain ⟨j, rfl, hj, hb⟩ := hrel
    by_cases hlt : j < NL.length
    · have i0 : (0 : Int) ≤ (j : Int) := by omega
      have i1 : (j : Int) < (NL.length : Int) := by omega
      obtain ⟨_, g1, rfl, c1⟩ := OwnInts.cells (I_13.out.below hb.out) j hlt
      obtain ⟨_, g2, rfl, c2⟩ := OwnInts.cells (J_13.out.below hb.out) j hlt
      generalize NL.getD j 0 = z at *
      go_upto_region 13 with fail
      go_quiet (fail)
      have hb2 := Lib.hid (hb.out.trans (below_dr (n := nq) (Below.refl wr.heap.size wr) |>.mono hb.out.size))
      clear hb
      go_wp2_with fail
      go_roundw
      case rel => exact ⟨j + 1, by go_num, by omega, hb2⟩
      case measure => simp [intOf]; omega
    · obtain rfl : j = NL.length := by omega
      have b14 := hb.out
      have A_14 := Lib.hid (A_13.out.below b14)
      have W_14 := Lib.hid (W_13.out.below b14)
      have z14 := Lib.hid b14.size
      have Y14 := Lib.hid (Y13.out.trans (b14.mono Y13.out.size))
      clear b14 hb A_13 W_13 I_13 J_13 Y13
      have q15 := Lib.hid (spoil_any _ _ _ _ A_14.out (by have := lenN.out; omega))
      go_wp2_with fail
      refine q15.out.mono ?_
      rintro e w15 ⟨rfl, g15, b15⟩
      have W_15 := Lib.hid (own_after W_14.out (fun j hj => by have := (lt_A.out j hj).2;  omega) g15)
      have z15 := Lib.hid g15.size
      have Y15 := Lib.hid (Y14.out.trans (b15.mono (by  omega)))
      clear g15 b15 q15 lt_A A_14 W_14 Y14
      have q16 := Lib.hid (left_any _ _ _ l _ (T_B.out.below Y15.out) (L_B.out.below (B := 0) Y15.out) (by have := lenL.out; omega))
      go_wp2_with fail
      refine q16.out.mono ?_
      rintro e w16 ⟨rfl, b16⟩
      have W_16 := Lib.hid (W_15.out.below b16)
      have z16 := Lib.hid b16.size
      have Y16 := Lib.hid (Y15.out.trans (b16.mono Y15.out.size))
      clear b16 q16 W_15 Y15
      have q17 := Lib.hid (normal_any _ l _ S1.out (TwinAt.at (T_B.out.below Y16.out)) (by have := lenL.out; omega))
      go_wp2_with fail
      refine q17.out.mono ?_
      rintro e w17 ⟨v17, rfl, o17, b17⟩
      have W_17 := Lib.hid (W_16.out.below b17)
      have z17 := Lib.hid b17.size
      have Y17 := Lib.hid (Y16.out.trans (b17.mono Y16.out.size))
      have C_17 := Lib.hid o17
      obtain ⟨ad17, n17, c17, rfl⟩ := o17.slice
      have lt_C := Lib.hid (own_lt2 o17)
      clear o17 b17 q17 W_16 Y16
      have q18 := Lib.hid (same_b _ _ _ (Runs.normR l) (Runs.normR l) (OwnRuns.at C_17.out) (OwnRuns.at W_17.out) (by have := lenN.out; omega) (by have := lenN.out; omega) true (by simp))
      go_wp2_with fail
      refine q18.out.mono ?_
      rintro e w18 ⟨rfl, b18⟩
      have z18 := Lib.hid b18.size
      have Y18 := Lib.hid (Y17.out.trans (b18.mono Y17.out.size))
      clear b18 q18 W_17 C_17 Y17
      have q19 := Lib.hid (alive_any w18)
      go_wp2_with fail
      refine q19.out.mono ?_
      rintro e w19 ⟨rfl, b19⟩
      have z19 := Lib.hid b19.size
      have Y19 := Lib.hid (Y18.out.trans (b19.mono Y18.out.size))
      clear b19 q19 Y18
      have BT := Lib.hid (BT0.out.trans (Y19.out.mono BT0.out.size))
      go_wp2_with fail
      go_ret
      exact ⟨rfl, BT.out⟩

end Go.Proofs.Ytkpnimekhekpmaa
