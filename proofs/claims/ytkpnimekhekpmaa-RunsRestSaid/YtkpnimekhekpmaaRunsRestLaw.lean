/- RunsRest's walk. -/
import Derived.Test.YtkpnimekhekpmaaRunsRefMinus
import Derived.Test.YtkpnimekhekpmaaRunsTwin
namespace Go.Proofs.Ytkpnimekhekpmaa
open Go Go.RowKit

set_option maxRecDepth 100000 in
set_option maxHeartbeats 8000000 in
theorem RunsRest_walk {w : World} (ad : Option Addr) (cap : Nat) (l : RL) (n : Int) (h : RunsIn w (.slice ad l.length cap) l) (hn : -9223372036854775808 ≤ n ∧ n ≤ 9223372036854775807) :
    Calls Try.prog 3 #[.slice ad l.length cap, .int .i64 n] w fun e w' => e = .returned (.bool true) ∧ Below w.heap.size w w' := by
  have l1 := h.len
  by_cases ea : 150 < (l.length : Int)
  · go_enter Try.func3, Try.ntmps3
    go_wp2_with fail
    go_ret
    exact ⟨rfl, Below.refl _ _⟩
  have S1 := Lib.hid h.small
  have z1 : (l.length : Int) ≤ 150 := by omega
  have lenL : Hid (l.length ≤ 150) := Lib.hid (by omega)
  have lenR : Hid ((Runs.restR l n).length ≤ 151) := Lib.hid (by have := rest_len l n hn.2; omega)
  have L_0 := Lib.hid h.at_
  have qT := Lib.hid (twin_any _ l w h.at_ (by omega))
  clear h
  go_enter Try.func3, Try.ntmps3
  go_wp2_with fail
  refine qT.out.mono ?_
  rintro e wT ⟨vT, rfl, oT, bT⟩
  have T_B := Lib.hid oT
  have BT0 := Lib.hid bT
  have L_B := Lib.hid (L_0.out.below (B := 0) bT)
  obtain ⟨tg, tc, rfl⟩ : ∃ tg tc, vT = .slice (some ⟨tg, 0, none⟩) l.length tc := by
    obtain ⟨g, c, e, _⟩ := oT
    exact ⟨g, c, e⟩
  clear oT bT qT L_0
  have q1 := Lib.hid (complement_any _ l n _ S1.out (TwinAt.at T_B.out) (by have := lenL.out; omega) hn)
  go_wp2_with fail
  refine q1.out.mono ?_
  rintro e w1 ⟨v1, rfl, o1, b1⟩
  have z1 := Lib.hid b1.size
  have Y1 := Lib.hid b1
  have A_1 := Lib.hid o1
  obtain ⟨ad1, n1, c1, rfl⟩ := o1.slice
  have lt_A := Lib.hid (own_lt2 o1)
  clear o1 b1 q1 
  have q2 := Lib.hid (rest2_any _ l n _ S1.out (L_B.out.below (B := 0) Y1.out) (by have := lenL.out; omega) hn)
  go_wp2_with fail
  refine q2.out.mono ?_
  rintro e w2 ⟨v2, rfl, o2, b2⟩
  have A_2 := Lib.hid (A_1.out.below b2)
  have z2 := Lib.hid b2.size
  have Y2 := Lib.hid (Y1.out.trans (b2.mono Y1.out.size))
  have W_2 := Lib.hid o2
  obtain ⟨ad2, n2, c2, rfl⟩ := o2.slice
  have lt_W := Lib.hid (own_lt2 o2)
  clear o2 b2 q2 A_1 Y1
  have q3 := Lib.hid (same_b _ _ _ (Runs.restR l n) (Runs.restR l n) (OwnRuns.at A_2.out) (OwnRuns.at W_2.out) (by have := lenR.out; omega) (by have := lenR.out; omega) true (by simp))
  go_wp2_with fail
  refine q3.out.mono ?_
  rintro e w3 ⟨rfl, b3⟩
  have A_3 := Lib.hid (A_2.out.below b3)
  have W_3 := Lib.hid (W_2.out.below b3)
  have z3 := Lib.hid b3.size
  have Y3 := Lib.hid (Y2.out.trans (b3.mono Y2.out.size))
  clear b3 q3 A_2 W_2 Y2
  have q4 := Lib.hid (spoil_any _ _ _ _ A_3.out (by have := lenR.out; omega))
  go_wp2_with fail
  refine q4.out.mono ?_
  rintro e w4 ⟨rfl, g4, b4⟩
  have W_4 := Lib.hid (own_after W_3.out (fun j hj => by have := (lt_A.out j hj).2;  omega) g4)
  have z4 := Lib.hid g4.size
  have Y4 := Lib.hid (Y3.out.trans (b4.mono (by  omega)))
  clear g4 b4 q4 lt_A A_3 W_3 Y3
  have q5 := Lib.hid (left_any _ _ _ l _ (T_B.out.below Y4.out) (L_B.out.below (B := 0) Y4.out) (by have := lenL.out; omega))
  go_wp2_with fail
  refine q5.out.mono ?_
  rintro e w5 ⟨rfl, b5⟩
  have W_5 := Lib.hid (W_4.out.below b5)
  have z5 := Lib.hid b5.size
  have Y5 := Lib.hid (Y4.out.trans (b5.mono Y4.out.size))
  clear b5 q5 W_4 Y4
  have q6 := Lib.hid (complement_any _ l n _ S1.out (TwinAt.at (T_B.out.below Y5.out)) (by have := lenL.out; omega) hn)
  go_wp2_with fail
  refine q6.out.mono ?_
  rintro e w6 ⟨v6, rfl, o6, b6⟩
  have W_6 := Lib.hid (W_5.out.below b6)
  have z6 := Lib.hid b6.size
  have Y6 := Lib.hid (Y5.out.trans (b6.mono Y5.out.size))
  have C_6 := Lib.hid o6
  obtain ⟨ad6, n6, c6, rfl⟩ := o6.slice
  have lt_C := Lib.hid (own_lt2 o6)
  clear o6 b6 q6 W_5 Y5
  have q7 := Lib.hid (same_b _ _ _ (Runs.restR l n) (Runs.restR l n) (OwnRuns.at C_6.out) (OwnRuns.at W_6.out) (by have := lenR.out; omega) (by have := lenR.out; omega) true (by simp))
  go_wp2_with fail
  refine q7.out.mono ?_
  rintro e w7 ⟨rfl, b7⟩
  have z7 := Lib.hid b7.size
  have Y7 := Lib.hid (Y6.out.trans (b7.mono Y6.out.size))
  clear b7 q7 W_6 C_6 Y6
  have q8 := Lib.hid (alive_any w7)
  go_wp2_with fail
  refine q8.out.mono ?_
  rintro e w8 ⟨rfl, b8⟩
  have z8 := Lib.hid b8.size
  have Y8 := Lib.hid (Y7.out.trans (b8.mono Y7.out.size))
  clear b8 q8 Y7
  have BT := Lib.hid (BT0.out.trans (Y8.out.mono BT0.out.size))
  go_wp2_with fail
  go_ret
  exact ⟨rfl, BT.out⟩

end Go.Proofs.Ytkpnimekhekpmaa
