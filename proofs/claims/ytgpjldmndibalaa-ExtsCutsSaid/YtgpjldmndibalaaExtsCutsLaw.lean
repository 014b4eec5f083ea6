/- ExtsCuts' walk. -/
import Derived.Test.YtgpjldmndibalaaExtsTwin
import Derived.Test.YtgpjldmndibalaaExtsRef3
import Derived.Test.YtgpjldmndibalaaExtsRead
namespace Go.Proofs.Ytgpjldmndibalaa
open Go Go.RowKit

set_option maxRecDepth 100000 in
set_option maxHeartbeats 8000000 in
theorem ExtsCuts_walk {w : World} (ad : Option Addr) (cap : Nat) (l : EL) (fa : Int) (h : ExtsIn w (.slice ad l.length cap) l) (ha : -9223372036854775808 ≤ fa ∧ fa ≤ 9223372036854775807) :
    Calls Try.prog 8 #[.slice ad l.length cap, .int .i64 fa] w fun e w' => e = .returned (.bool true) ∧ Below w.heap.size w w' := by
  have l1 := h.len
  have Y0 := Lib.hid (Below.refl w.heap.size w)
  by_cases ea : 150 < (l.length : Int)
  · go_enter Try.func8, Try.ntmps8
    go_wp2_with fail
    go_ret
    exact ⟨rfl, Y0.out⟩
  have hlen : (l.length : Int) ≤ 150 := by omega
  have S := Lib.hid h.small
  have L_0 := Lib.hid (h.at_.below (B := 0) Y0.out)
  have Bha := Lib.hid ha
  have qT := Lib.hid (etwin_any _ l _ L_0.out (by omega))
  have LO : Hid ((Exts.cutOut l fa).length ≤ 1000) := Lib.hid (by have := cut_len l fa; unfold Exts.cutOut; split; omega; simp)
  have LF : Hid ((Exts.cutFr l fa).length ≤ 2000) := Lib.hid (by have := cut_len l fa; have h2 := freed_len l (Exts.cutR l fa); unfold Exts.cutFr; split; (unfold freedR at h2; omega); simp)
  clear h ha
  go_enter Try.func8, Try.ntmps8
  go_wp2_with fail
  refine qT.out.mono ?_
  rintro e wT ⟨vT, rfl, oT, bT⟩
  have T_0 := Lib.hid oT
  have L_T := Lib.hid (L_0.out.below (B := 0) bT)
  have YT := Lib.hid (Y0.out.trans (bT.mono (by have := Y0.out.size; omega)))
  obtain ⟨tg, tc, rfl⟩ : ∃ tg tc, vT = .slice (some ⟨tg, 0, none⟩) l.length tc := by
    obtain ⟨g, c, e, _⟩ := oT
    exact ⟨g, c, e⟩
  clear oT bT qT L_0 Y0 
  go_wp2_with fail
  go_loopw [6] (fun q wr => ∃ i : Nat, q = .int .i64 i ∧ i ≤ 2 ∧ Hid (Below wT.heap.size wT wr)) (fun q _ => 2 - (intOf q).toNat)
  case atStart => exact ⟨0, rfl, by omega, Lib.hid (Below.refl _ _)⟩
  case round =>
    obtain ⟨i, rfl, hi, hbw⟩ := hrel
    by_cases hlt : i < 2
    · have i1 : (i : Int) < 2 := by omega
      have T_r := Lib.hid (T_0.out.below hbw.out)
      have L_r := Lib.hid (L_T.out.below (B := 0) hbw.out)
      have q1 := Lib.hid (eCut_any _ l fa _ S.out (TwinE.at T_r.out) (by omega) Bha.out)
      go_wp2_with fail
      refine q1.out.mono ?_
      rintro e w4 ⟨v4, f4, c4, rfl, o4, z4, k4, p4, b4⟩
      have T_4 := Lib.hid (T_r.out.below b4)
      have L_4 := Lib.hid (L_r.out.below (B := 0) b4)
      have O4 := Lib.hid o4
      have P4 := Lib.hid p4
      have K4 := Lib.hid k4
      have Y4 := Lib.hid b4
      have q2 := Lib.hid (eCut2_any _ l fa _ S.out L_4.out (by omega) Bha.out)
      clear o4 p4 b4 q1 T_r L_r k4
      go_wp2_with fail
      refine q2.out.mono ?_
      rintro e w5 ⟨v5, f5, c5, rfl, o5, _, _, p5, b5⟩
      have T_5 := Lib.hid (T_4.out.below b5)
      have L_5 := Lib.hid (L_4.out.below (B := 0) b5)
      have O5 := Lib.hid (OwnExts.below O4.out b5)
      have P5 := Lib.hid (OwnRuns.below' P4.out b5)
      have Y5 := Lib.hid (below_next Y4.out b5)
      have q3 := Lib.hid (espoil_any wr.heap.size c4 v4 f4 v5 f5 _ _ (Exts.cutE l fa) w5 Y5.out.size O5.out z4 K4.out P5.out (OwnExts.at o5) (OwnRuns.at p5) (by have := LO.out; omega) (by have := LF.out; omega))
      clear o5 p5 b5 q2 O4 P4 T_4 L_4 Y4 
      go_wp2_with fail
      refine q3.out.mono ?_
      rintro e w6 ⟨rfl, b6⟩
      have Y6 := Lib.hid (Y5.out.trans b6)
      have T_6 := Lib.hid (T_0.out.below (hbw.out.trans (Y6.out.mono hbw.out.size)))
      have L_6 := Lib.hid (L_T.out.below (B := 0) (hbw.out.trans (Y6.out.mono hbw.out.size)))
      have q4 := Lib.hid (eleft_any _ _ _ l w6 T_6.out L_6.out (by omega))
      clear b6 q3 O5 P5 T_5 L_5 Y5 K4
      go_wp2_with fail
      refine q4.out.mono ?_
      rintro e w7 ⟨rfl, b7⟩
      have Y7 := Lib.hid ((hbw.out.trans (Y6.out.mono hbw.out.size)).trans (b7.mono (by have := hbw.out.size; have := Y6.out.size; omega)))
      clear b7 q4 T_6 L_6 Y6
      go_wp2_with fail
      go_roundw
      case rel => exact ⟨i + 1, by go_num, by omega, Y7⟩
      case measure => simp [intOf]; omega
    · obtain rfl : i = 2 := by omega
      have qa := Lib.hid (ealive_any wr)
      go_wp2_with fail
      refine qa.out.mono ?_
      rintro e w8 ⟨rfl, b8⟩
      have YF := Lib.hid ((YT.out.trans (hbw.out.mono YT.out.size)).trans (b8.mono (by have := hbw.out.size; have := YT.out.size; omega)))
      clear b8 qa
      go_wp2_with fail
      go_ret
      exact ⟨rfl, YF.out⟩

end Go.Proofs.Ytgpjldmndibalaa
