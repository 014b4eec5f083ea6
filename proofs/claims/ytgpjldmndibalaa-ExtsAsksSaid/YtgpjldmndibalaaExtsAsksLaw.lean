/- ExtsAsks' walk. -/
import Derived.Test.YtgpjldmndibalaaExtsTwin
import Derived.Test.YtgpjldmndibalaaExtsRef
import Derived.Test.YtgpjldmndibalaaExtsRead
namespace Go.Proofs.Ytgpjldmndibalaa
open Go Go.RowKit

set_option maxRecDepth 100000 in
set_option maxHeartbeats 8000000 in
theorem ExtsAsks_walk {w : World} (ad : Option Addr) (cap : Nat) (l : EL) (lo : Int) (h : ExtsIn w (.slice ad l.length cap) l) (hlo : -9223372036854775808 ≤ lo ∧ lo ≤ 9223372036854775807) :
    Calls Try.prog 3 #[.slice ad l.length cap, .int .i64 lo] w fun e w' => e = .returned (.bool true) ∧ Below w.heap.size w w' := by
  have l1 := h.len
  by_cases ea : 150 < (l.length : Int)
  · go_enter Try.func3, Try.ntmps3
    go_wp2_with fail
    go_ret
    exact ⟨rfl, Below.refl _ _⟩
  have hlen : (l.length : Int) ≤ 150 := by omega
  have S := Lib.hid h.small
  have L_0 := Lib.hid h.at_
  have HLO := Lib.hid hlo
  obtain ⟨p, n, o, hf⟩ : ∃ p n o, Exts.findR l lo = (p, n, o) := ⟨_, _, _, rfl⟩
  have HF := Lib.hid hf
  obtain ⟨B, hB⟩ : ∃ B, Exts.blocksR l = B := ⟨_, rfl⟩
  have LB : Hid (B.length ≤ 150) := Lib.hid (by have := eblocks_len l; rw [hB] at this; omega)
  have HB := Lib.hid hB
  have qT := Lib.hid (etwin_any _ l w h.at_ (by omega))
  clear h hlo hf hB
  go_enter Try.func3, Try.ntmps3
  go_wp2_with fail
  refine qT.out.mono ?_
  rintro e wT ⟨vT, rfl, oT, bT⟩
  have T_0 := Lib.hid oT
  have L_T := Lib.hid (L_0.out.below (B := 0) bT)
  have LT0 := L_T
  have TT_T := Lib.hid (TwinE.at oT)
  have YT := Lib.hid bT
  obtain ⟨tg, tc, rfl⟩ : ∃ tg tc, vT = .slice (some ⟨tg, 0, none⟩) l.length tc := by
    obtain ⟨g, c, e, _⟩ := oT
    exact ⟨g, c, e⟩
  clear oT bT qT L_0
  have q1 := Lib.hid (efind_b _ l lo _ S.out TT_T.out (by omega) HLO.out p n o HF.out)
  go_wp2_with fail
  refine q1.out.mono ?_
  rintro e w1 ⟨rfl, b1⟩
  have TT_1 := Lib.hid (TT_T.out.below (B := 0) b1)
  have L_1 := Lib.hid (L_T.out.below (B := 0) b1)
  have Y1 := Lib.hid b1
  clear b1 q1 TT_T L_T
  have q2 := Lib.hid (efind2_any _ l lo _ S.out L_1.out (by omega) HLO.out p n o HF.out)
  go_wp2_with fail
  refine q2.out.mono ?_
  rintro e w2 ⟨rfl, b2⟩
  have TT_2 := Lib.hid (TT_1.out.below (B := 0) b2)
  have L_2 := Lib.hid (L_1.out.below (B := 0) b2)
  have Y2 := Lib.hid (Y1.out.trans (b2.mono Y1.out.size))
  have YB0 := Y2
  clear b2 q2 TT_1 L_1 Y1
  have q3 := Lib.hid (eblocks_any _ l _ S.out TT_2.out (by omega))
  rw [HB.out] at q3
  go_wp2_with fail
  refine q3.out.mono ?_
  rintro e w3 ⟨v3, rfl, o3, b3⟩
  have TT_3 := Lib.hid (TT_2.out.below (B := 0) b3)
  have L_3 := Lib.hid (L_2.out.below (B := 0) b3)
  have Y3 := Lib.hid (Y2.out.trans (b3.mono Y2.out.size))
  have Z3 := Lib.hid b3
  have BO_3 := Lib.hid o3
  have BR_3 := Lib.hid (OwnRuns.at o3)
  have BK : Hid (∀ g, v3.ownBlock = some g → g < w3.heap.size) := Lib.hid (fun g hg => (World.ownsRow.lt o3 g hg).2)
  obtain ⟨adb, cb, rfl⟩ := own_sliceR o3
  clear o3 b3 q3 TT_2 L_2 Y2
  have q4 := Lib.hid (eblocks2_any _ l _ S.out L_3.out (by omega))
  rw [HB.out] at q4
  go_wp2_with fail
  refine q4.out.mono ?_
  rintro e w4 ⟨v4, rfl, o4, b4⟩
  have TT_4 := Lib.hid (TT_3.out.below (B := 0) b4)
  have L_4 := Lib.hid (L_3.out.below (B := 0) b4)
  have BR_4 := Lib.hid (BR_3.out.below (B := 0) b4)
  have Y4 := Lib.hid (Y3.out.trans (b4.mono Y3.out.size))
  have Z4 := Lib.hid (Z3.out.trans (b4.mono Z3.out.size))
  clear Z3
  have BO_4 := Lib.hid (OwnRuns.below' BO_3.out b4)
  have WO_4 := Lib.hid o4
  obtain ⟨adw, cw, rfl⟩ := own_sliceR o4
  clear o4 b4 q4 TT_3 L_3 BR_3 Y3 BO_3
  have q5 := Lib.hid (echeck_any _ l _ S.out TT_4.out (by omega))
  go_wp2_with fail
  refine q5.out.mono ?_
  rintro e w5 ⟨rfl, b5⟩
  have TT_5 := Lib.hid (TT_4.out.below (B := 0) b5)
  have L_5 := Lib.hid (L_4.out.below (B := 0) b5)
  have BR_5 := Lib.hid (BR_4.out.below (B := 0) b5)
  have Y5 := Lib.hid (Y4.out.trans (b5.mono Y4.out.size))
  have Z5 := Lib.hid (Z4.out.trans (b5.mono Z4.out.size))
  clear Z4
  have BO_5 := Lib.hid (OwnRuns.below' BO_4.out b5)
  have WO_5 := Lib.hid (OwnRuns.below' WO_4.out b5)
  clear b5 q5 TT_4 L_4 BR_4 Y4 BO_4 WO_4
  have q6 := Lib.hid (echeck2_any _ l _ S.out L_5.out (by omega))
  go_wp2_with fail
  refine q6.out.mono ?_
  rintro e w6 ⟨rfl, b6⟩
  have TT_6 := Lib.hid (TT_5.out.below (B := 0) b6)
  have L_6 := Lib.hid (L_5.out.below (B := 0) b6)
  have BR_6 := Lib.hid (BR_5.out.below (B := 0) b6)
  have Y6 := Lib.hid (Y5.out.trans (b6.mono Y5.out.size))
  have Z6 := Lib.hid (Z5.out.trans (b6.mono Z5.out.size))
  clear Z5
  have BO_6 := Lib.hid (OwnRuns.below' BO_5.out b6)
  have WO_6 := Lib.hid (OwnRuns.below' WO_5.out b6)
  clear b6 q6 TT_5 L_5 BR_5 Y5 BO_5 WO_5
  have q7 := Lib.hid (same_b _ _ _ B B (OwnRuns.at BO_6.out) (OwnRuns.at WO_6.out) (by have := LB.out; omega) (by have := LB.out; omega) true (by simp))
  go_wp2_with fail
  refine q7.out.mono ?_
  rintro e w7 ⟨rfl, b7⟩
  have TT_7 := Lib.hid (TT_6.out.below (B := 0) b7)
  have L_7 := Lib.hid (L_6.out.below (B := 0) b7)
  have BR_7 := Lib.hid (BR_6.out.below (B := 0) b7)
  have Y7 := Lib.hid (Y6.out.trans (b7.mono Y6.out.size))
  have Z7 := Lib.hid (Z6.out.trans (b7.mono Z6.out.size))
  clear Z6
  have BO_7 := Lib.hid (OwnRuns.below' BO_6.out b7)
  have WO_7 := Lib.hid (OwnRuns.below' WO_6.out b7)
  clear b7 q7 TT_6 L_6 BR_6 Y6 BO_6 WO_6
  have q8 := Lib.hid (eEnd_any _ l _ S.out TT_7.out (by omega))
  go_wp2_with fail
  refine q8.out.mono ?_
  rintro e w8 ⟨rfl, b8⟩
  have TT_8 := Lib.hid (TT_7.out.below (B := 0) b8)
  have L_8 := Lib.hid (L_7.out.below (B := 0) b8)
  have BR_8 := Lib.hid (BR_7.out.below (B := 0) b8)
  have Y8 := Lib.hid (Y7.out.trans (b8.mono Y7.out.size))
  have Z8 := Lib.hid (Z7.out.trans (b8.mono Z7.out.size))
  clear Z7
  have BO_8 := Lib.hid (OwnRuns.below' BO_7.out b8)
  have WO_8 := Lib.hid (OwnRuns.below' WO_7.out b8)
  clear b8 q8 TT_7 L_7 BR_7 Y7 BO_7 WO_7
  have q9 := Lib.hid (eEnd2_any _ l _ S.out L_8.out (by omega))
  go_wp2_with fail
  refine q9.out.mono ?_
  rintro e w9 ⟨rfl, b9⟩
  have TT_9 := Lib.hid (TT_8.out.below (B := 0) b9)
  have L_9 := Lib.hid (L_8.out.below (B := 0) b9)
  have BR_9 := Lib.hid (BR_8.out.below (B := 0) b9)
  have Y9 := Lib.hid (Y8.out.trans (b9.mono Y8.out.size))
  have Z9 := Lib.hid (Z8.out.trans (b9.mono Z8.out.size))
  clear Z8
  have BO_9 := Lib.hid (OwnRuns.below' BO_8.out b9)
  have WO_9 := Lib.hid (OwnRuns.below' WO_8.out b9)
  clear b9 q9 TT_8 L_8 BR_8 Y8 BO_8 WO_8
  have q10 := Lib.hid (ecount_any _ l _ S.out TT_9.out (by omega))
  go_wp2_with fail
  refine q10.out.mono ?_
  rintro e w10 ⟨rfl, b10⟩
  have TT_10 := Lib.hid (TT_9.out.below (B := 0) b10)
  have L_10 := Lib.hid (L_9.out.below (B := 0) b10)
  have BR_10 := Lib.hid (BR_9.out.below (B := 0) b10)
  have Y10 := Lib.hid (Y9.out.trans (b10.mono Y9.out.size))
  have Z10 := Lib.hid (Z9.out.trans (b10.mono Z9.out.size))
  clear Z9
  have BO_10 := Lib.hid (OwnRuns.below' BO_9.out b10)
  have WO_10 := Lib.hid (OwnRuns.below' WO_9.out b10)
  clear b10 q10 TT_9 L_9 BR_9 Y9 BO_9 WO_9
  have q11 := Lib.hid (ecount2_any _ l _ S.out L_10.out (by omega))
  go_wp2_with fail
  refine q11.out.mono ?_
  rintro e w11 ⟨rfl, b11⟩
  have TT_11 := Lib.hid (TT_10.out.below (B := 0) b11)
  have L_11 := Lib.hid (L_10.out.below (B := 0) b11)
  have BR_11 := Lib.hid (BR_10.out.below (B := 0) b11)
  have Y11 := Lib.hid (Y10.out.trans (b11.mono Y10.out.size))
  have Z11 := Lib.hid (Z10.out.trans (b11.mono Z10.out.size))
  clear Z10
  have BO_11 := Lib.hid (OwnRuns.below' BO_10.out b11)
  have WO_11 := Lib.hid (OwnRuns.below' WO_10.out b11)
  clear b11 q11 TT_10 L_10 BR_10 Y10 BO_10 WO_10
  have lb := LB.out
  go_wp2_with fail
  go_loopw [14] (fun q wr => ∃ (j : Nat) (R : RL), q = .int .i64 j ∧ j ≤ B.length ∧ R.length = B.length ∧ Hid (wr.ownsRow w2.heap.size 32 2 (.slice adb B.length cb) B.length (rcells R)) ∧ Hid (OwnRuns w3.heap.size wr (.slice adw B.length cw) B) ∧ Hid (Below w2.heap.size w11 wr)) (fun q _ => B.length - (intOf q).toNat)
  case atStart => exact ⟨0, B, rfl, by omega, rfl, Lib.hid BO_11.out, WO_11, Lib.hid (Below.refl _ _)⟩
  case round =>
    obtain ⟨j, R, rfl, hj, hR, hor, hwr, hb⟩ := hrel
    by_cases hlt : j < B.length
    · have i0 : (0 : Int) ≤ (j : Int) := by omega
      have i1 : (j : Int) < (B.length : Int) := by omega
      rcases OwnRuns.formsR BO_11.out with ⟨_, e⟩ | ⟨g, cf', e, hgB⟩
      · rw [e] at hlt; simp at hlt
      cases e
      obtain ⟨y0, y1⟩ := rcells_at R j (by omega)
      have d0 := own_cellN hor.out y0
      have d1 := own_cellN hor.out y1
      have f0 := own_freeN hor.out (j * 2)
      have f1 := own_freeN hor.out (j * 2 + 1)
      have hgc : g < w3.heap.size := BK.out g rfl
      have o3 := own_setN (own_setN hor.out (j * 2) (.int .i64 0)) (j * 2 + 1) (.int .i64 0)
      have hrs := rcells_set R j (0, 0) (by omega)
      dsimp only at hrs
      rw [hrs] at o3
      have O3 := Lib.hid o3
      have W3 := Lib.hid (own_setB (own_setB hwr.out (a := ⟨g, j * 2, none⟩) hgc (.int .i64 0)) (a := ⟨g, j * 2 + 1, none⟩) hgc (.int .i64 0))
      have B3 := Lib.hid ((hb.out.setCell (p := ⟨g, j * 2, none⟩) hgB (.int .i64 0)).setCell (p := ⟨g, j * 2 + 1, none⟩) hgB (.int .i64 0))
      clear o3 hrs y0 y1
      go_wp2_with fail
      go_roundw
      case rel => exact ⟨j + 1, R.set j (0, 0), by go_num, by omega, by simp [hR], O3, W3, B3⟩
      case measure => simp [intOf]; omega
    · obtain rfl : j = B.length := by omega
      have Y_r := Lib.hid (YB0.out.trans ((Z11.out.trans hb.out).mono YB0.out.size))
      have T_r := Lib.hid (T_0.out.below Y_r.out)
      have L_r := Lib.hid (LT0.out.below (B := 0) Y_r.out)
      have W_r := Lib.hid (OwnRuns.at hwr.out)
      clear hor hwr hb BO_11 WO_11
      have q50 := Lib.hid (eleft_any _ _ _ l wr T_r.out L_r.out (by omega))
      go_wp2_with fail
      refine q50.out.mono ?_
      rintro e w50 ⟨rfl, b50⟩
      have T_50 := Lib.hid (TwinE.at (T_r.out.below b50))
      have W_50 := Lib.hid (W_r.out.below (B := 0) b50)
      have Y50 := Lib.hid (Y_r.out.trans (b50.mono Y_r.out.size))
      clear b50 q50
      have q51 := Lib.hid (eblocks_any _ l w50 S.out T_50.out (by omega))
      rw [HB.out] at q51
      go_wp2_with fail
      refine q51.out.mono ?_
      rintro e w51 ⟨v51, rfl, o51, b51⟩
      have W_51 := Lib.hid (W_50.out.below (B := 0) b51)
      have Y51 := Lib.hid (Y50.out.trans (b51.mono Y50.out.size))
      have q52 := Lib.hid (same_b w51 _ _ B B (OwnRuns.at o51) W_51.out (by omega) (by omega) true (by simp))
      obtain ⟨ad51, c51, rfl⟩ := own_sliceR o51
      clear b51 q51 o51
      go_wp2_with fail
      refine q52.out.mono ?_
      rintro e w52 ⟨rfl, b52⟩
      have Y52 := Lib.hid (Y51.out.trans (b52.mono Y51.out.size))
      have q53 := Lib.hid (ealive_any w52)
      clear b52 q52
      go_wp2_with fail
      refine q53.out.mono ?_
      rintro e w53 ⟨rfl, b53⟩
      have Y53 := Lib.hid (YT.out.trans ((Y52.out.trans (b53.mono Y52.out.size)).mono YT.out.size))
      clear b53 q53
      go_wp2_with fail
      go_ret
      exact ⟨rfl, Y53.out⟩

end Go.Proofs.Ytgpjldmndibalaa
