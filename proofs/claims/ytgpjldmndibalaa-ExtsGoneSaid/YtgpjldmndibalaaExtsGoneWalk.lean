/- ExtsGone's walk. -/
import Derived.Test.YtgpjldmndibalaaExtsSets
import Derived.Test.YtgpjldmndibalaaExtsRead
namespace Go.Proofs.Ytgpjldmndibalaa
open Go Go.RowKit

theorem eEnd_c (v : Value) (l : EL) (w : World) (k : Int) (hs : SmallsE l) (h : ExtsAt w v l) (hl : l.length ≤ 1000000000) (hk : Exts.endR l = k) :
    Calls Try.prog 19 #[v] w fun e w' => e = .returned (.int .i64 k) ∧ Below w.heap.size w w' := by
  subst hk
  exact eEnd_any v l w hs h hl
theorem pair_lit (w : World) (a b : Int) (T : TypeId) : RunsAt (w.alloc (.cells #[.int .i64 a, .int .i64 b] T)) (.slice (some ⟨w.heap.size, 0, none⟩) 1 1) [(a, b)] :=
  .inr ⟨_, 0, 1, rfl, fun j u hj => by
    rw [Nat.zero_add, box_cell, ← Array.getElem?_toList]
    exact hj⟩
theorem box2_cells {w : World} {X : Nat} {a b : Int} (h : RunsAt w (.slice (some ⟨X, 0, none⟩) 1 1) [(a, b)]) : w.cell? ⟨X, 0, none⟩ = some (.int .i64 a) ∧ w.cell? ⟨X, 1, none⟩ = some (.int .i64 b) := by
  rcases h with ⟨h, _⟩ | ⟨b', off, cap, h, hc⟩
  · cases h
  · cases h
    have h0 := hc 0 _ rfl
    have h1 := hc 1 _ rfl
    rw [Nat.zero_add] at h0 h1
    exact ⟨h0, h1⟩

set_option maxRecDepth 100000 in
set_option maxHeartbeats 4000000 in
theorem gone_no {w : World} (ad : Option Addr) (cap : Nat) (l : EL) (fa fn place : Int) (hl : ExtsAt w (.slice ad l.length cap) l) (hs : SmallsE l) (hlen : (l.length : Int) ≤ 200) (hfa : -9223372036854775808 ≤ fa ∧ fa ≤ 9223372036854775807) (hfn : -9223372036854775808 ≤ fn ∧ fn ≤ 9223372036854775807) (hp : -9223372036854775808 ≤ place ∧ place ≤ 9223372036854775807) (hno : ¬ (Exts.okTo l l.length = true ∧ 0 ≤ fa)) :
    Calls Try.prog 10 #[.slice ad l.length cap, .agg #[.int .i64 fa, .int .i64 fn], .int .i64 place] w fun e w' => e = .returned (.bool true) ∧ Below w.heap.size w w' := by
  obtain ⟨p1, p2, p3⟩ := punch_no (l := l) (a := fa) (n := fn) (fun h => hno ⟨h.1, h.2.1⟩)
  obtain ⟨c1, c2, c3⟩ := cut_no hno
  have P1 := Lib.hid p1
  have P2 := Lib.hid p2
  have P3 := Lib.hid p3
  have C1 := Lib.hid c1
  have C2 := Lib.hid c2
  have C3 := Lib.hid c3
  clear p1 p2 p3 c1 c2 c3
  have Y0 := Lib.hid (below_box (Below.refl w.heap.size w) (.cells #[.int .i64 fa, .int .i64 fn] 49))
  have L_0 := Lib.hid (hl.below (B := 0) Y0.out)
  have X_0 := Lib.hid (pair_lit w fa fn 49)
  obtain ⟨x0, x1⟩ := box2_cells X_0.out
  have S := Lib.hid hs
  have nb : ¬ 200 < (l.length : Int) := by omega
  have HPL := Lib.hid hp
  have HFA := Lib.hid hfa
  have HN9 := Lib.hid hfn
  clear hl hs hp hfa hfn
  cases hok : Exts.okTo l l.length
  · clear hno
    go_enter Try.func10, Try.ntmps10
    have q1 := Lib.hid (ePunch_b _ l fa fn _ S.out L_0.out (by omega) HFA.out HN9.out [] [] 2 P1.out P2.out P3.out)
    go_wp2_with fail
    refine q1.out.mono ?_
    rintro e w1 ⟨v1, f1, _, rfl, o1, _, _, p1, b1⟩
    have L_1 := Lib.hid (L_0.out.below (B := 0) b1)
    have X_1 := Lib.hid (X_0.out.below (B := 0) b1)
    have Y1 := Lib.hid (Y0.out.trans (b1.mono Y0.out.size))
    obtain ⟨ad1, c1, rfl⟩ := o1.slice
    obtain ⟨ae1, ce1, rfl⟩ := own_sliceR p1
    clear o1 p1 b1 q1 L_0 X_0 Y0
    clear x0 x1
    obtain ⟨x0, x1⟩ := box2_cells X_1.out
    have q2 := Lib.hid (eCut_b _ l fa _ S.out L_1.out (by omega) HFA.out [] [] 2 C1.out C2.out C3.out)
    go_wp2_with fail
    refine q2.out.mono ?_
    rintro e w2 ⟨v2, f2, _, rfl, o2, _, _, p2, b2⟩
    have L_2 := Lib.hid (L_1.out.below (B := 0) b2)
    have X_2 := Lib.hid (X_1.out.below (B := 0) b2)
    have Y2 := Lib.hid (Y1.out.trans (b2.mono Y1.out.size))
    obtain ⟨ad2, c2, rfl⟩ := o2.slice
    obtain ⟨ae2, ce2, rfl⟩ := own_sliceR p2
    clear o2 p2 b2 q2 L_1 X_1 Y1
    clear x0 x1
    obtain ⟨x0, x1⟩ := box2_cells X_2.out
    have q3 := Lib.hid (echeck_any _ l _ S.out L_2.out (by omega))
    rw [hok] at q3
    go_wp2_with fail
    refine q3.out.mono ?_
    rintro e w3 ⟨rfl, b3⟩
    have L_3 := Lib.hid (L_2.out.below (B := 0) b3)
    have X_3 := Lib.hid (X_2.out.below (B := 0) b3)
    have Y3 := Lib.hid (Y2.out.trans (b3.mono Y2.out.size))
    clear b3 q3 L_2 X_2 Y2
    clear x0 x1
    obtain ⟨x0, x1⟩ := box2_cells X_3.out
    have q4 := Lib.hid (ealive_any w3)
    go_wp2_with fail
    refine q4.out.mono ?_
    rintro e w4 ⟨rfl, b4⟩
    have L_4 := Lib.hid (L_3.out.below (B := 0) b4)
    have X_4 := Lib.hid (X_3.out.below (B := 0) b4)
    have Y4 := Lib.hid (Y3.out.trans (b4.mono Y3.out.size))
    clear b4 q4 L_3 X_3 Y3
    go_wp2_with fail
    go_ret
    exact ⟨rfl, Y4.out⟩
  · have hm : fa < 0 := Int.not_le.1 (fun h => hno ⟨hok, h⟩)
    clear hno
    go_enter Try.func10, Try.ntmps10
    have q1 := Lib.hid (ePunch_b _ l fa fn _ S.out L_0.out (by omega) HFA.out HN9.out [] [] 2 P1.out P2.out P3.out)
    go_wp2_with fail
    refine q1.out.mono ?_
    rintro e w1 ⟨v1, f1, _, rfl, o1, _, _, p1, b1⟩
    have L_1 := Lib.hid (L_0.out.below (B := 0) b1)
    have X_1 := Lib.hid (X_0.out.below (B := 0) b1)
    have Y1 := Lib.hid (Y0.out.trans (b1.mono Y0.out.size))
    obtain ⟨ad1, c1, rfl⟩ := o1.slice
    obtain ⟨ae1, ce1, rfl⟩ := own_sliceR p1
    clear o1 p1 b1 q1 L_0 X_0 Y0
    clear x0 x1
    obtain ⟨x0, x1⟩ := box2_cells X_1.out
    have q2 := Lib.hid (eCut_b _ l fa _ S.out L_1.out (by omega) HFA.out [] [] 2 C1.out C2.out C3.out)
    go_wp2_with fail
    refine q2.out.mono ?_
    rintro e w2 ⟨v2, f2, _, rfl, o2, _, _, p2, b2⟩
    have L_2 := Lib.hid (L_1.out.below (B := 0) b2)
    have X_2 := Lib.hid (X_1.out.below (B := 0) b2)
    have Y2 := Lib.hid (Y1.out.trans (b2.mono Y1.out.size))
    obtain ⟨ad2, c2, rfl⟩ := o2.slice
    obtain ⟨ae2, ce2, rfl⟩ := own_sliceR p2
    clear o2 p2 b2 q2 L_1 X_1 Y1
    clear x0 x1
    obtain ⟨x0, x1⟩ := box2_cells X_2.out
    have q3 := Lib.hid (echeck_any _ l _ S.out L_2.out (by omega))
    rw [hok] at q3
    go_wp2_with fail
    refine q3.out.mono ?_
    rintro e w3 ⟨rfl, b3⟩
    have L_3 := Lib.hid (L_2.out.below (B := 0) b3)
    have X_3 := Lib.hid (X_2.out.below (B := 0) b3)
    have Y3 := Lib.hid (Y2.out.trans (b3.mono Y2.out.size))
    clear b3 q3 L_2 X_2 Y2
    clear x0 x1
    obtain ⟨x0, x1⟩ := box2_cells X_3.out
    have q4 := Lib.hid (ealive_any w3)
    go_wp2_with fail
    refine q4.out.mono ?_
    rintro e w4 ⟨rfl, b4⟩
    have L_4 := Lib.hid (L_3.out.below (B := 0) b4)
    have X_4 := Lib.hid (X_3.out.below (B := 0) b4)
    have Y4 := Lib.hid (Y3.out.trans (b4.mono Y3.out.size))
    clear b4 q4 L_3 X_3 Y3
    go_wp2_with fail
    go_ret
    exact ⟨rfl, Y4.out⟩

set_option maxRecDepth 100000 in
set_option maxHeartbeats 8000000 in
theorem gone_cut {w : World} (ad : Option Addr) (cap : Nat) (l : EL) (fa fn place : Int) (hl : ExtsAt w (.slice ad l.length cap) l) (hs : SmallsE l) (hlen : (l.length : Int) ≤ 200) (hfa : -9223372036854775808 ≤ fa ∧ fa ≤ 9223372036854775807) (hfn : -9223372036854775808 ≤ fn ∧ fn ≤ 9223372036854775807) (hp : -9223372036854775808 ≤ place ∧ place ≤ 9223372036854775807) (h4 : Exts.punchOut l fa fn = []) (h5 : Exts.punchFr l fa fn = []) (h6 : Exts.punchE l fa fn = 2)
    (CUT : EL) (FC : RL) (pc nc pl nl ec el : Int) (oc ol : Bool) (h1 : Exts.cutOut l fa = CUT) (h2 : Exts.cutFr l fa = FC) (h3 : Exts.cutE l fa = 0) (hRc : Exts.Row CUT) (hlc : CUT.length ≤ 1000) (hlf : FC.length ≤ 2000) (hsf : Smalls FC) (f1 : Exts.findR CUT place = (pc, nc, oc)) (f2 : Exts.findR l place = (pl, nl, ol))
    (hU : unionR (Exts.blocksR CUT) FC = Exts.blocksR l) (hec : Exts.endR CUT = ec) (hel : Exts.endR l = el) (hle : ec ≤ min el fa)
    (hcase : (fa ≤ place ∧ pc = 0 ∧ oc = false) ∨ (place < fa ∧ pl = pc ∧ ol = oc)) :
    Calls Try.prog 10 #[.slice ad l.length cap, .agg #[.int .i64 fa, .int .i64 fn], .int .i64 place] w fun e w' => e = .returned (.bool true) ∧ Below w.heap.size w w' := by
  have P1 := Lib.hid h4
  have P2 := Lib.hid h5
  have P3 := Lib.hid h6
  have Y0 := Lib.hid (below_box (Below.refl w.heap.size w) (.cells #[.int .i64 fa, .int .i64 fn] 49))
  have L_0 := Lib.hid (hl.below (B := 0) Y0.out)
  have X_0 := Lib.hid (pair_lit w fa fn 49)
  obtain ⟨x0, x1⟩ := box2_cells X_0.out
  have S := Lib.hid hs
  have nb : ¬ 200 < (l.length : Int) := by omega
  have HPL := Lib.hid hp
  have HFA := Lib.hid hfa
  have HN9 := Lib.hid hfn
  have C1 := Lib.hid h1
  have C2 := Lib.hid h2
  have C3 := Lib.hid h3
  have SC := Lib.hid (SmallsE.row hRc)
  have KC := Lib.hid (Exts.check_row.2 hRc)
  have LC := Lib.hid hlc
  have LFC := Lib.hid hlf
  have SFC := Lib.hid hsf
  have LB := Lib.hid (eblocks_len l)
  have LBC := Lib.hid (eblocks_len CUT)
  have G1 := Lib.hid f1
  have G2 := Lib.hid f2
  have UC := Lib.hid hU
  have HEC := Lib.hid hec
  have HEL := Lib.hid hel
  clear h1 h2 h3 hRc hlc hlf hsf f1 f2 hU hec hel
  clear hl hs hp hfa hfn h4 h5 h6
  rcases hcase with ⟨k1, rfl, rfl⟩ | ⟨k1, rfl, rfl⟩
  · skip
    go_enter Try.func10, Try.ntmps10
    have q1 := Lib.hid (ePunch_b _ l fa fn _ S.out L_0.out (by omega) HFA.out HN9.out [] [] 2 P1.out P2.out P3.out)
    go_wp2_with fail
    refine q1.out.mono ?_
    rintro e w1 ⟨v1, f1, _, rfl, o1, _, _, p1, b1⟩
    have L_1 := Lib.hid (L_0.out.below (B := 0) b1)
    have X_1 := Lib.hid (X_0.out.below (B := 0) b1)
    have Y1 := Lib.hid (Y0.out.trans (b1.mono Y0.out.size))
    obtain ⟨ad1, c1, rfl⟩ := o1.slice
    obtain ⟨ae1, ce1, rfl⟩ := own_sliceR p1
    clear o1 p1 b1 q1 L_0 X_0 Y0
    clear x0 x1
    obtain ⟨x0, x1⟩ := box2_cells X_1.out
    have q2 := Lib.hid (eCut_b _ l fa _ S.out L_1.out (by omega) HFA.out CUT FC 0 C1.out C2.out C3.out)
    go_wp2_with fail
    refine q2.out.mono ?_
    rintro e w2 ⟨v2, f2, _, rfl, o2, _, _, p2, b2⟩
    have L_2 := Lib.hid (L_1.out.below (B := 0) b2)
    have X_2 := Lib.hid (X_1.out.below (B := 0) b2)
    have Y2 := Lib.hid (Y1.out.trans (b2.mono Y1.out.size))
    obtain ⟨ad2, c2, rfl⟩ := o2.slice
    obtain ⟨ae2, ce2, rfl⟩ := own_sliceR p2
    have CUT_2 := Lib.hid (OwnExts.at o2)
    have FC_2 := Lib.hid (OwnRuns.at p2)
    clear o2 p2 b2 q2 L_1 X_1 Y1
    clear x0 x1
    obtain ⟨x0, x1⟩ := box2_cells X_2.out
    have q3 := Lib.hid (efind_b _ CUT place _ SC.out CUT_2.out (by have := LC.out; omega) HPL.out _ nc _ G1.out)
    go_wp2_with fail
    refine q3.out.mono ?_
    rintro e w3 ⟨rfl, b3⟩
    have L_3 := Lib.hid (L_2.out.below (B := 0) b3)
    have X_3 := Lib.hid (X_2.out.below (B := 0) b3)
    have CUT_3 := Lib.hid (CUT_2.out.below (B := 0) b3)
    have FC_3 := Lib.hid (FC_2.out.below (B := 0) b3)
    have Y3 := Lib.hid (Y2.out.trans (b3.mono Y2.out.size))
    clear b3 q3 L_2 X_2 CUT_2 FC_2 Y2
    have q4 := Lib.hid (efind_b _ l place _ S.out L_3.out (by omega) HPL.out _ nl _ G2.out)
    go_wp2_with fail
    refine q4.out.mono ?_
    rintro e w4 ⟨rfl, b4⟩
    have L_4 := Lib.hid (L_3.out.below (B := 0) b4)
    have X_4 := Lib.hid (X_3.out.below (B := 0) b4)
    have CUT_4 := Lib.hid (CUT_3.out.below (B := 0) b4)
    have FC_4 := Lib.hid (FC_3.out.below (B := 0) b4)
    have Y4 := Lib.hid (Y3.out.trans (b4.mono Y3.out.size))
    clear b4 q4 L_3 X_3 CUT_3 FC_3 Y3
    clear x0 x1
    obtain ⟨x0, x1⟩ := box2_cells X_4.out
    clear x0 x1
    have L_c := L_4
    have X_c := X_4
    have CUT_c := CUT_4
    have FC_c := FC_4
    obtain ⟨y0, y1⟩ := box2_cells X_c.out
    have zX := World.block_lt_of_cell? _ _ y0
    generalize hX : w.heap.size = X at *
    have KEEP : Hid (∀ wz, Below w4.heap.size w4 wz → wz.cell? ⟨X, 0, none⟩ = some (.int .i64 fa) ∧ wz.cell? ⟨X, 1, none⟩ = some (.int .i64 fn)) := Lib.hid (fun wz hz => ⟨(hz.cell (p := ⟨X, 0, none⟩) zX).trans y0, (hz.cell (p := ⟨X, 1, none⟩) zX).trans y1⟩)
    have s0 : Below w4.heap.size w4 w4.drew := (Below.refl _ _).drew
    have qC := Lib.hid (fun wz (hz : Below w4.heap.size w4 wz) => echeck_any _ CUT wz SC.out (CUT_c.out.below (B := 0) hz) (by have := LC.out; omega))
    simp only [KC.out] at qC
    have qB := Lib.hid (fun wz (hz : Below w4.heap.size w4 wz) => eblocks_any _ CUT wz SC.out (CUT_c.out.below (B := 0) hz) (by have := LC.out; omega))
    have qL := Lib.hid (fun wz (hz : Below w4.heap.size w4 wz) => eblocks_any _ l wz S.out (L_c.out.below (B := 0) hz) (by omega))
    have qU := Lib.hid (fun wz va (hz : Below w4.heap.size w4 wz) (h1 : RunsAt wz va (Exts.blocksR CUT)) => union_any va _ (Exts.blocksR CUT) FC wz (blocks_small CUT) SFC.out h1 (FC_c.out.below (B := 0) hz) (by have := LBC.out; have := LC.out; omega) (by have := LFC.out; omega))
    simp only [UC.out] at qU
    have qS := Lib.hid (fun wz va vb (h1 : RunsAt wz va (Exts.blocksR l)) (h2 : RunsAt wz vb (Exts.blocksR l)) => same_b wz va vb _ _ h1 h2 (by have := LB.out; omega) (by have := LB.out; omega) true (by simp))
    have qE := Lib.hid (fun wz (hz : Below w4.heap.size w4 wz) => eEnd_c _ CUT wz ec SC.out (CUT_c.out.below (B := 0) hz) (by have := LC.out; omega) HEC.out)
    have qF := Lib.hid (fun wz (hz : Below w4.heap.size w4 wz) => eEnd_c _ l wz el S.out (L_c.out.below (B := 0) hz) (by omega) HEL.out)
    go_upto_region 18 with fail
    go_region_held3 (fun w' => w'.cell? ⟨X, 0, none⟩ = some (.int .i64 fa) ∧ w'.cell? ⟨X, 1, none⟩ = some (.int .i64 fn))
      (first | (refine KEEP.out _ ?_; assumption) | (refine KEEP.out _ (below_box ?_ _); assumption))
      (first | (go_at_call 19; first | ((with_reducible refine (qE.out _ s0).mono ?_); rintro e wa ⟨rfl, ba⟩; have sa : Below w4.heap.size w4 wa := below_next s0 ba) | ((with_reducible refine (qF.out _ sa).mono ?_); rintro e wb ⟨rfl, bb⟩; have sb : Below w4.heap.size w4 wb := below_next sa bb)) | (go_at_call 16; (with_reducible refine (qC.out _ sb).mono ?_); rintro e wd ⟨rfl, bd⟩; have sd : Below w4.heap.size w4 wd := below_next sb bd) | (go_at_call 14; first | ((with_reducible refine (qB.out _ sd).mono ?_); rintro e we ⟨ve, rfl, oe, be⟩; have se : Below w4.heap.size w4 we := below_next sd be) | ((with_reducible refine (qL.out _ su).mono ?_); rintro e wg ⟨vg, rfl, og, bg⟩; have sg : Below w4.heap.size w4 wg := below_next su bg)) | (go_at_call 34; (with_reducible refine (qU.out _ _ se (OwnRuns.at oe)).mono ?_); rintro e wu ⟨vu, rfl, ou, bu⟩; have su : Below w4.heap.size w4 wu := below_next se bu) | (go_at_call 18; (with_reducible refine (qS.out _ _ _ (RunsAt.below (B := 0) (OwnRuns.at ou) bg) (OwnRuns.at og)).mono ?_); rintro e wh ⟨rfl, bh⟩; have sh : Below w4.heap.size w4 wh := below_next sg bh) | (go_at_call 24; (with_reducible refine (ealive_any _).mono ?_); rintro e wi ⟨rfl, bi⟩; have si : Below w4.heap.size w4 wi := below_next sh bi))
    have YF := Lib.hid (Y4.out.trans (si.mono (by have := Y4.out.size; omega)))
    clear sa sb su sd se sg sh si ba bb bu bd be bg bh bi ou oe og qC qB qU qS qE qF qL
    go_wp2_with fail
    go_ret
    exact ⟨rfl, by rw [hX]; exact YF.out⟩
  · have k2 : ¬ fa ≤ place := by omega
    go_enter Try.func10, Try.ntmps10
    have q1 := Lib.hid (ePunch_b _ l fa fn _ S.out L_0.out (by omega) HFA.out HN9.out [] [] 2 P1.out P2.out P3.out)
    go_wp2_with fail
    refine q1.out.mono ?_
    rintro e w1 ⟨v1, f1, _, rfl, o1, _, _, p1, b1⟩
    have L_1 := Lib.hid (L_0.out.below (B := 0) b1)
    have X_1 := Lib.hid (X_0.out.below (B := 0) b1)
    have Y1 := Lib.hid (Y0.out.trans (b1.mono Y0.out.size))
    obtain ⟨ad1, c1, rfl⟩ := o1.slice
    obtain ⟨ae1, ce1, rfl⟩ := own_sliceR p1
    clear o1 p1 b1 q1 L_0 X_0 Y0
    clear x0 x1
    obtain ⟨x0, x1⟩ := box2_cells X_1.out
    have q2 := Lib.hid (eCut_b _ l fa _ S.out L_1.out (by omega) HFA.out CUT FC 0 C1.out C2.out C3.out)
    go_wp2_with fail
    refine q2.out.mono ?_
    rintro e w2 ⟨v2, f2, _, rfl, o2, _, _, p2, b2⟩
    have L_2 := Lib.hid (L_1.out.below (B := 0) b2)
    have X_2 := Lib.hid (X_1.out.below (B := 0) b2)
    have Y2 := Lib.hid (Y1.out.trans (b2.mono Y1.out.size))
    obtain ⟨ad2, c2, rfl⟩ := o2.slice
    obtain ⟨ae2, ce2, rfl⟩ := own_sliceR p2
    have CUT_2 := Lib.hid (OwnExts.at o2)
    have FC_2 := Lib.hid (OwnRuns.at p2)
    clear o2 p2 b2 q2 L_1 X_1 Y1
    clear x0 x1
    obtain ⟨x0, x1⟩ := box2_cells X_2.out
    have q3 := Lib.hid (efind_b _ CUT place _ SC.out CUT_2.out (by have := LC.out; omega) HPL.out _ nc _ G1.out)
    go_wp2_with fail
    refine q3.out.mono ?_
    rintro e w3 ⟨rfl, b3⟩
    have L_3 := Lib.hid (L_2.out.below (B := 0) b3)
    have X_3 := Lib.hid (X_2.out.below (B := 0) b3)
    have CUT_3 := Lib.hid (CUT_2.out.below (B := 0) b3)
    have FC_3 := Lib.hid (FC_2.out.below (B := 0) b3)
    have Y3 := Lib.hid (Y2.out.trans (b3.mono Y2.out.size))
    clear b3 q3 L_2 X_2 CUT_2 FC_2 Y2
    have q4 := Lib.hid (efind_b _ l place _ S.out L_3.out (by omega) HPL.out _ nl _ G2.out)
    go_wp2_with fail
    refine q4.out.mono ?_
    rintro e w4 ⟨rfl, b4⟩
    have L_4 := Lib.hid (L_3.out.below (B := 0) b4)
    have X_4 := Lib.hid (X_3.out.below (B := 0) b4)
    have CUT_4 := Lib.hid (CUT_3.out.below (B := 0) b4)
    have FC_4 := Lib.hid (FC_3.out.below (B := 0) b4)
    have Y4 := Lib.hid (Y3.out.trans (b4.mono Y3.out.size))
    clear b4 q4 L_3 X_3 CUT_3 FC_3 Y3
    clear x0 x1
    obtain ⟨x0, x1⟩ := box2_cells X_4.out
    clear x0 x1
    have L_c := L_4
    have X_c := X_4
    have CUT_c := CUT_4
    have FC_c := FC_4
    obtain ⟨y0, y1⟩ := box2_cells X_c.out
    have zX := World.block_lt_of_cell? _ _ y0
    generalize hX : w.heap.size = X at *
    have KEEP : Hid (∀ wz, Below w4.heap.size w4 wz → wz.cell? ⟨X, 0, none⟩ = some (.int .i64 fa) ∧ wz.cell? ⟨X, 1, none⟩ = some (.int .i64 fn)) := Lib.hid (fun wz hz => ⟨(hz.cell (p := ⟨X, 0, none⟩) zX).trans y0, (hz.cell (p := ⟨X, 1, none⟩) zX).trans y1⟩)
    have s0 : Below w4.heap.size w4 w4.drew := (Below.refl _ _).drew
    have qC := Lib.hid (fun wz (hz : Below w4.heap.size w4 wz) => echeck_any _ CUT wz SC.out (CUT_c.out.below (B := 0) hz) (by have := LC.out; omega))
    simp only [KC.out] at qC
    have qB := Lib.hid (fun wz (hz : Below w4.heap.size w4 wz) => eblocks_any _ CUT wz SC.out (CUT_c.out.below (B := 0) hz) (by have := LC.out; omega))
    have qL := Lib.hid (fun wz (hz : Below w4.heap.size w4 wz) => eblocks_any _ l wz S.out (L_c.out.below (B := 0) hz) (by omega))
    have qU := Lib.hid (fun wz va (hz : Below w4.heap.size w4 wz) (h1 : RunsAt wz va (Exts.blocksR CUT)) => union_any va _ (Exts.blocksR CUT) FC wz (blocks_small CUT) SFC.out h1 (FC_c.out.below (B := 0) hz) (by have := LBC.out; have := LC.out; omega) (by have := LFC.out; omega))
    simp only [UC.out] at qU
    have qS := Lib.hid (fun wz va vb (h1 : RunsAt wz va (Exts.blocksR l)) (h2 : RunsAt wz vb (Exts.blocksR l)) => same_b wz va vb _ _ h1 h2 (by have := LB.out; omega) (by have := LB.out; omega) true (by simp))
    have qE := Lib.hid (fun wz (hz : Below w4.heap.size w4 wz) => eEnd_c _ CUT wz ec SC.out (CUT_c.out.below (B := 0) hz) (by have := LC.out; omega) HEC.out)
    have qF := Lib.hid (fun wz (hz : Below w4.heap.size w4 wz) => eEnd_c _ l wz el S.out (L_c.out.below (B := 0) hz) (by omega) HEL.out)
    go_upto_region 18 with fail
    go_region_held3 (fun w' => w'.cell? ⟨X, 0, none⟩ = some (.int .i64 fa) ∧ w'.cell? ⟨X, 1, none⟩ = some (.int .i64 fn))
      (first | (refine KEEP.out _ ?_; assumption) | (refine KEEP.out _ (below_box ?_ _); assumption))
      (first | (go_at_call 19; first | ((with_reducible refine (qE.out _ s0).mono ?_); rintro e wa ⟨rfl, ba⟩; have sa : Below w4.heap.size w4 wa := below_next s0 ba) | ((with_reducible refine (qF.out _ sa).mono ?_); rintro e wb ⟨rfl, bb⟩; have sb : Below w4.heap.size w4 wb := below_next sa bb)) | (go_at_call 16; (with_reducible refine (qC.out _ sb).mono ?_); rintro e wd ⟨rfl, bd⟩; have sd : Below w4.heap.size w4 wd := below_next sb bd) | (go_at_call 14; first | ((with_reducible refine (qB.out _ sd).mono ?_); rintro e we ⟨ve, rfl, oe, be⟩; have se : Below w4.heap.size w4 we := below_next sd be) | ((with_reducible refine (qL.out _ su).mono ?_); rintro e wg ⟨vg, rfl, og, bg⟩; have sg : Below w4.heap.size w4 wg := below_next su bg)) | (go_at_call 34; (with_reducible refine (qU.out _ _ se (OwnRuns.at oe)).mono ?_); rintro e wu ⟨vu, rfl, ou, bu⟩; have su : Below w4.heap.size w4 wu := below_next se bu) | (go_at_call 18; (with_reducible refine (qS.out _ _ _ (RunsAt.below (B := 0) (OwnRuns.at ou) bg) (OwnRuns.at og)).mono ?_); rintro e wh ⟨rfl, bh⟩; have sh : Below w4.heap.size w4 wh := below_next sg bh) | (go_at_call 24; (with_reducible refine (ealive_any _).mono ?_); rintro e wi ⟨rfl, bi⟩; have si : Below w4.heap.size w4 wi := below_next sh bi))
    have YF := Lib.hid (Y4.out.trans (si.mono (by have := Y4.out.size; omega)))
    clear sa sb su sd se sg sh si ba bb bu bd be bg bh bi ou oe og qC qB qU qS qE qF qL
    go_wp2_with fail
    go_ret
    exact ⟨rfl, by rw [hX]; exact YF.out⟩

set_option maxRecDepth 100000 in
set_option maxHeartbeats 8000000 in
theorem gone_both_in {w : World} (ad : Option Addr) (cap : Nat) (l : EL) (fa fn place : Int) (hl : ExtsAt w (.slice ad l.length cap) l) (hs : SmallsE l) (hlen : (l.length : Int) ≤ 200) (hfa : -9223372036854775808 ≤ fa ∧ fa ≤ 9223372036854775807) (hfn : -9223372036854775808 ≤ fn ∧ fn ≤ 9223372036854775807) (hp : -9223372036854775808 ≤ place ∧ place ≤ 9223372036854775807) (hw : 0 ≤ fn ∧ fn ≤ 2048 ∧ 0 ≤ fa ∧ fa ≤ 2048) (OUT : EL) (FR : RL) (p1 n1 : Int) (o1 : Bool) (h4 : Exts.punchOut l fa fn = OUT) (h5 : Exts.punchFr l fa fn = FR) (h6 : Exts.punchE l fa fn = 0) (hRo : Exts.Row OUT) (hlo : OUT.length ≤ 1000) (hlg : FR.length ≤ 2000) (hsg : Smalls FR) (f3 : Exts.findR OUT place = (p1, n1, o1))
    (hUo : unionR (Exts.blocksR OUT) FR = Exts.blocksR l) (hMo : Runs.meetR (Exts.blocksR OUT) FR = [])
    (CUT : EL) (FC : RL) (pc nc pl nl ec el : Int) (oc ol : Bool) (h1 : Exts.cutOut l fa = CUT) (h2 : Exts.cutFr l fa = FC) (h3 : Exts.cutE l fa = 0) (hRc : Exts.Row CUT) (hlc : CUT.length ≤ 1000) (hlf : FC.length ≤ 2000) (hsf : Smalls FC) (f1 : Exts.findR CUT place = (pc, nc, oc)) (f2 : Exts.findR l place = (pl, nl, ol))
    (hU : unionR (Exts.blocksR CUT) FC = Exts.blocksR l) (hec : Exts.endR CUT = ec) (hel : Exts.endR l = el) (hle : ec ≤ min el fa)
    (k1 : fa ≤ place) (k2 : place < fa + fn) (e1 : p1 = 0) (e2 : o1 = false) (e3 : pc = 0) (e4 : oc = false) :
    Calls Try.prog 10 #[.slice ad l.length cap, .agg #[.int .i64 fa, .int .i64 fn], .int .i64 place] w fun e w' => e = .returned (.bool true) ∧ Below w.heap.size w w' := by
  have P1 := Lib.hid h4
  have P2 := Lib.hid h5
  have P3 := Lib.hid h6
  have SO := Lib.hid (SmallsE.row hRo)
  have KO := Lib.hid (Exts.check_row.2 hRo)
  have LO := Lib.hid hlo
  have LF := Lib.hid hlg
  have SF := Lib.hid hsg
  have LBO := Lib.hid (eblocks_len OUT)
  have F1 := Lib.hid f3
  have UO := Lib.hid hUo
  have MO := Lib.hid hMo
  have wf : IntKind.i64.wrap (fa + fn) = fa + fn := IntWalk.i64_in _ (by omega)
  have Y0 := Lib.hid (below_box (Below.refl w.heap.size w) (.cells #[.int .i64 fa, .int .i64 fn] 49))
  have L_0 := Lib.hid (hl.below (B := 0) Y0.out)
  have X_0 := Lib.hid (pair_lit w fa fn 49)
  obtain ⟨x0, x1⟩ := box2_cells X_0.out
  have S := Lib.hid hs
  have nb : ¬ 200 < (l.length : Int) := by omega
  have HPL := Lib.hid hp
  have HFA := Lib.hid hfa
  have HN9 := Lib.hid hfn
  have C1 := Lib.hid h1
  have C2 := Lib.hid h2
  have C3 := Lib.hid h3
  have SC := Lib.hid (SmallsE.row hRc)
  have KC := Lib.hid (Exts.check_row.2 hRc)
  have LC := Lib.hid hlc
  have LFC := Lib.hid hlf
  have SFC := Lib.hid hsf
  have LB := Lib.hid (eblocks_len l)
  have LBC := Lib.hid (eblocks_len CUT)
  have G1 := Lib.hid f1
  have G2 := Lib.hid f2
  have UC := Lib.hid hU
  have HEC := Lib.hid hec
  have HEL := Lib.hid hel
  clear h1 h2 h3 hRc hlc hlf hsf f1 f2 hU hec hel
  clear hl hs hp hfa hfn h4 h5 h6 hRo hlo hlg hsg f3 hUo hMo
  subst e1; subst e2; subst e3; subst e4
  go_enter Try.func10, Try.ntmps10
  have q1 := Lib.hid (ePunch_b _ l fa fn _ S.out L_0.out (by omega) HFA.out HN9.out OUT FR 0 P1.out P2.out P3.out)
  go_wp2_with fail
  refine q1.out.mono ?_
  rintro e w1 ⟨v1, f1, _, rfl, o1, _, _, p1, b1⟩
  have L_1 := Lib.hid (L_0.out.below (B := 0) b1)
  have X_1 := Lib.hid (X_0.out.below (B := 0) b1)
  have Y1 := Lib.hid (Y0.out.trans (b1.mono Y0.out.size))
  obtain ⟨ad1, c1, rfl⟩ := o1.slice
  obtain ⟨ae1, ce1, rfl⟩ := own_sliceR p1
  have OUT_1 := Lib.hid (OwnExts.at o1)
  have FR_1 := Lib.hid (OwnRuns.at p1)
  clear o1 p1 b1 q1 L_0 X_0 Y0
  have q2 := Lib.hid (efind_b _ OUT place _ SO.out OUT_1.out (by have := LO.out; omega) HPL.out _ n1 _ F1.out)
  go_wp2_with fail
  refine q2.out.mono ?_
  rintro e w2 ⟨rfl, b2⟩
  have L_2 := Lib.hid (L_1.out.below (B := 0) b2)
  have X_2 := Lib.hid (X_1.out.below (B := 0) b2)
  have OUT_2 := Lib.hid (OUT_1.out.below (B := 0) b2)
  have FR_2 := Lib.hid (FR_1.out.below (B := 0) b2)
  have Y2 := Lib.hid (Y1.out.trans (b2.mono Y1.out.size))
  clear b2 q2 L_1 X_1 OUT_1 FR_1 Y1
  have q3 := Lib.hid (efind_b _ l place _ S.out L_2.out (by omega) HPL.out _ nl _ G2.out)
  go_wp2_with fail
  refine q3.out.mono ?_
  rintro e w3 ⟨rfl, b3⟩
  have L_3 := Lib.hid (L_2.out.below (B := 0) b3)
  have X_3 := Lib.hid (X_2.out.below (B := 0) b3)
  have OUT_3 := Lib.hid (OUT_2.out.below (B := 0) b3)
  have FR_3 := Lib.hid (FR_2.out.below (B := 0) b3)
  have Y3 := Lib.hid (Y2.out.trans (b3.mono Y2.out.size))
  clear b3 q3 L_2 X_2 OUT_2 FR_2 Y2
  clear x0 x1
  obtain ⟨x0, x1⟩ := box2_cells X_3.out
  have q4 := Lib.hid (echeck_any _ OUT _ SO.out OUT_3.out (by have := LO.out; omega))
  rw [KO.out] at q4
  go_wp2_with fail
  refine q4.out.mono ?_
  rintro e w4 ⟨rfl, b4⟩
  have L_4 := Lib.hid (L_3.out.below (B := 0) b4)
  have X_4 := Lib.hid (X_3.out.below (B := 0) b4)
  have OUT_4 := Lib.hid (OUT_3.out.below (B := 0) b4)
  have FR_4 := Lib.hid (FR_3.out.below (B := 0) b4)
  have Y4 := Lib.hid (Y3.out.trans (b4.mono Y3.out.size))
  clear b4 q4 L_3 X_3 OUT_3 FR_3 Y3
  have q5 := Lib.hid (eblocks_any _ OUT _ SO.out OUT_4.out (by have := LO.out; omega))
  go_wp2_with fail
  refine q5.out.mono ?_
  rintro e w5 ⟨v5, rfl, o5, b5⟩
  have L_5 := Lib.hid (L_4.out.below (B := 0) b5)
  have X_5 := Lib.hid (X_4.out.below (B := 0) b5)
  have OUT_5 := Lib.hid (OUT_4.out.below (B := 0) b5)
  have FR_5 := Lib.hid (FR_4.out.below (B := 0) b5)
  have Y5 := Lib.hid (Y4.out.trans (b5.mono Y4.out.size))
  have BO_5 := Lib.hid (OwnRuns.at o5)
  obtain ⟨ad5, c5, rfl⟩ := own_sliceR o5
  clear o5 b5 q5 L_4 X_4 OUT_4 FR_4 Y4
  have q6 := Lib.hid (union_any _ _ (Exts.blocksR OUT) FR _ (blocks_small OUT) SF.out BO_5.out FR_5.out (by have := LBO.out; have := LO.out; omega) (by have := LF.out; omega))
  rw [UO.out] at q6
  go_wp2_with fail
  refine q6.out.mono ?_
  rintro e w6 ⟨v6, rfl, o6, b6⟩
  have L_6 := Lib.hid (L_5.out.below (B := 0) b6)
  have X_6 := Lib.hid (X_5.out.below (B := 0) b6)
  have OUT_6 := Lib.hid (OUT_5.out.below (B := 0) b6)
  have FR_6 := Lib.hid (FR_5.out.below (B := 0) b6)
  have Y6 := Lib.hid (Y5.out.trans (b6.mono Y5.out.size))
  have U_6 := Lib.hid (OwnRuns.at o6)
  obtain ⟨ad6, c6, rfl⟩ := own_sliceR o6
  clear o6 b6 q6 L_5 X_5 OUT_5 FR_5 BO_5 Y5
  have q7 := Lib.hid (eblocks_any _ l _ S.out L_6.out (by omega))
  go_wp2_with fail
  refine q7.out.mono ?_
  rintro e w7 ⟨v7, rfl, o7, b7⟩
  have L_7 := Lib.hid (L_6.out.below (B := 0) b7)
  have X_7 := Lib.hid (X_6.out.below (B := 0) b7)
  have OUT_7 := Lib.hid (OUT_6.out.below (B := 0) b7)
  have FR_7 := Lib.hid (FR_6.out.below (B := 0) b7)
  have U_7 := Lib.hid (U_6.out.below (B := 0) b7)
  have Y7 := Lib.hid (Y6.out.trans (b7.mono Y6.out.size))
  have BL_7 := Lib.hid (OwnRuns.at o7)
  obtain ⟨ad7, c7, rfl⟩ := own_sliceR o7
  clear o7 b7 q7 L_6 X_6 OUT_6 FR_6 U_6 Y6
  have q8 := Lib.hid (same_b _ _ _ (Exts.blocksR l) (Exts.blocksR l) U_7.out BL_7.out (by have := LB.out; omega) (by have := LB.out; omega) true (by simp))
  go_wp2_with fail
  refine q8.out.mono ?_
  rintro e w8 ⟨rfl, b8⟩
  have L_8 := Lib.hid (L_7.out.below (B := 0) b8)
  have X_8 := Lib.hid (X_7.out.below (B := 0) b8)
  have OUT_8 := Lib.hid (OUT_7.out.below (B := 0) b8)
  have FR_8 := Lib.hid (FR_7.out.below (B := 0) b8)
  have Y8 := Lib.hid (Y7.out.trans (b8.mono Y7.out.size))
  clear b8 q8 L_7 X_7 OUT_7 FR_7 U_7 BL_7 Y7
  have q9 := Lib.hid (eblocks_any _ OUT _ SO.out OUT_8.out (by have := LO.out; omega))
  go_wp2_with fail
  refine q9.out.mono ?_
  rintro e w9 ⟨v9, rfl, o9, b9⟩
  have L_9 := Lib.hid (L_8.out.below (B := 0) b9)
  have X_9 := Lib.hid (X_8.out.below (B := 0) b9)
  have FR_9 := Lib.hid (FR_8.out.below (B := 0) b9)
  have Y9 := Lib.hid (Y8.out.trans (b9.mono Y8.out.size))
  have BO_9 := Lib.hid (OwnRuns.at o9)
  obtain ⟨ad9, c9, rfl⟩ := own_sliceR o9
  clear o9 b9 q9 L_8 X_8 OUT_8 FR_8 Y8
  have q10 := Lib.hid (meet_any _ _ (Exts.blocksR OUT) FR _ (blocks_small OUT) SF.out BO_9.out FR_9.out (by have := LBO.out; have := LO.out; omega) (by have := LF.out; omega))
  rw [MO.out] at q10
  go_wp2_with fail
  refine q10.out.mono ?_
  rintro e w10 ⟨v10, rfl, o10, b10⟩
  have L_10 := Lib.hid (L_9.out.below (B := 0) b10)
  have X_10 := Lib.hid (X_9.out.below (B := 0) b10)
  have Y10 := Lib.hid (Y9.out.trans (b10.mono Y9.out.size))
  have M_10 := Lib.hid (OwnRuns.at o10)
  obtain ⟨ad10, c10, rfl⟩ := own_sliceR o10
  clear o10 b10 q10 L_9 X_9 FR_9 BO_9 Y9
  clear x0 x1
  obtain ⟨x0, x1⟩ := box2_cells X_10.out
  have q11 := Lib.hid (eCut_b _ l fa _ S.out L_10.out (by omega) HFA.out CUT FC 0 C1.out C2.out C3.out)
  go_wp2_with fail
  refine q11.out.mono ?_
  rintro e w11 ⟨v11, f11, _, rfl, o11, _, _, p11, b11⟩
  have L_11 := Lib.hid (L_10.out.below (B := 0) b11)
  have X_11 := Lib.hid (X_10.out.below (B := 0) b11)
  have Y11 := Lib.hid (Y10.out.trans (b11.mono Y10.out.size))
  obtain ⟨ad11, c11, rfl⟩ := o11.slice
  obtain ⟨ae11, ce11, rfl⟩ := own_sliceR p11
  have CUT_11 := Lib.hid (OwnExts.at o11)
  have FC_11 := Lib.hid (OwnRuns.at p11)
  clear o11 p11 b11 q11 L_10 X_10 Y10
  clear x0 x1
  obtain ⟨x0, x1⟩ := box2_cells X_11.out
  have q12 := Lib.hid (efind_b _ CUT place _ SC.out CUT_11.out (by have := LC.out; omega) HPL.out _ nc _ G1.out)
  go_wp2_with fail
  refine q12.out.mono ?_
  rintro e w12 ⟨rfl, b12⟩
  have L_12 := Lib.hid (L_11.out.below (B := 0) b12)
  have X_12 := Lib.hid (X_11.out.below (B := 0) b12)
  have CUT_12 := Lib.hid (CUT_11.out.below (B := 0) b12)
  have FC_12 := Lib.hid (FC_11.out.below (B := 0) b12)
  have Y12 := Lib.hid (Y11.out.trans (b12.mono Y11.out.size))
  clear b12 q12 L_11 X_11 CUT_11 FC_11 Y11
  have q13 := Lib.hid (efind_b _ l place _ S.out L_12.out (by omega) HPL.out _ nl _ G2.out)
  go_wp2_with fail
  refine q13.out.mono ?_
  rintro e w13 ⟨rfl, b13⟩
  have L_13 := Lib.hid (L_12.out.below (B := 0) b13)
  have X_13 := Lib.hid (X_12.out.below (B := 0) b13)
  have CUT_13 := Lib.hid (CUT_12.out.below (B := 0) b13)
  have FC_13 := Lib.hid (FC_12.out.below (B := 0) b13)
  have Y13 := Lib.hid (Y12.out.trans (b13.mono Y12.out.size))
  clear b13 q13 L_12 X_12 CUT_12 FC_12 Y12
  clear x0 x1
  obtain ⟨x0, x1⟩ := box2_cells X_13.out
  clear x0 x1
  have L_c := L_13
  have X_c := X_13
  have CUT_c := CUT_13
  have FC_c := FC_13
  obtain ⟨y0, y1⟩ := box2_cells X_c.out
  have zX := World.block_lt_of_cell? _ _ y0
  generalize hX : w.heap.size = X at *
  have KEEP : Hid (∀ wz, Below w13.heap.size w13 wz → wz.cell? ⟨X, 0, none⟩ = some (.int .i64 fa) ∧ wz.cell? ⟨X, 1, none⟩ = some (.int .i64 fn)) := Lib.hid (fun wz hz => ⟨(hz.cell (p := ⟨X, 0, none⟩) zX).trans y0, (hz.cell (p := ⟨X, 1, none⟩) zX).trans y1⟩)
  have s0 : Below w13.heap.size w13 w13.drew := (Below.refl _ _).drew
  have qC := Lib.hid (fun wz (hz : Below w13.heap.size w13 wz) => echeck_any _ CUT wz SC.out (CUT_c.out.below (B := 0) hz) (by have := LC.out; omega))
  simp only [KC.out] at qC
  have qB := Lib.hid (fun wz (hz : Below w13.heap.size w13 wz) => eblocks_any _ CUT wz SC.out (CUT_c.out.below (B := 0) hz) (by have := LC.out; omega))
  have qL := Lib.hid (fun wz (hz : Below w13.heap.size w13 wz) => eblocks_any _ l wz S.out (L_c.out.below (B := 0) hz) (by omega))
  have qU := Lib.hid (fun wz va (hz : Below w13.heap.size w13 wz) (h1 : RunsAt wz va (Exts.blocksR CUT)) => union_any va _ (Exts.blocksR CUT) FC wz (blocks_small CUT) SFC.out h1 (FC_c.out.below (B := 0) hz) (by have := LBC.out; have := LC.out; omega) (by have := LFC.out; omega))
  simp only [UC.out] at qU
  have qS := Lib.hid (fun wz va vb (h1 : RunsAt wz va (Exts.blocksR l)) (h2 : RunsAt wz vb (Exts.blocksR l)) => same_b wz va vb _ _ h1 h2 (by have := LB.out; omega) (by have := LB.out; omega) true (by simp))
  have qE := Lib.hid (fun wz (hz : Below w13.heap.size w13 wz) => eEnd_c _ CUT wz ec SC.out (CUT_c.out.below (B := 0) hz) (by have := LC.out; omega) HEC.out)
  have qF := Lib.hid (fun wz (hz : Below w13.heap.size w13 wz) => eEnd_c _ l wz el S.out (L_c.out.below (B := 0) hz) (by omega) HEL.out)
  go_upto_region 18 with fail
  go_region_held3 (fun w' => w'.cell? ⟨X, 0, none⟩ = some (.int .i64 fa) ∧ w'.cell? ⟨X, 1, none⟩ = some (.int .i64 fn))
    (first | (refine KEEP.out _ ?_; assumption) | (refine KEEP.out _ (below_box ?_ _); assumption))
    (first | (go_at_call 19; first | ((with_reducible refine (qE.out _ s0).mono ?_); rintro e wa ⟨rfl, ba⟩; have sa : Below w13.heap.size w13 wa := below_next s0 ba) | ((with_reducible refine (qF.out _ sa).mono ?_); rintro e wb ⟨rfl, bb⟩; have sb : Below w13.heap.size w13 wb := below_next sa bb)) | (go_at_call 16; (with_reducible refine (qC.out _ sb).mono ?_); rintro e wd ⟨rfl, bd⟩; have sd : Below w13.heap.size w13 wd := below_next sb bd) | (go_at_call 14; first | ((with_reducible refine (qB.out _ sd).mono ?_); rintro e we ⟨ve, rfl, oe, be⟩; have se : Below w13.heap.size w13 we := below_next sd be) | ((with_reducible refine (qL.out _ su).mono ?_); rintro e wg ⟨vg, rfl, og, bg⟩; have sg : Below w13.heap.size w13 wg := below_next su bg)) | (go_at_call 34; (with_reducible refine (qU.out _ _ se (OwnRuns.at oe)).mono ?_); rintro e wu ⟨vu, rfl, ou, bu⟩; have su : Below w13.heap.size w13 wu := below_next se bu) | (go_at_call 18; (with_reducible refine (qS.out _ _ _ (RunsAt.below (B := 0) (OwnRuns.at ou) bg) (OwnRuns.at og)).mono ?_); rintro e wh ⟨rfl, bh⟩; have sh : Below w13.heap.size w13 wh := below_next sg bh) | (go_at_call 24; (with_reducible refine (ealive_any _).mono ?_); rintro e wi ⟨rfl, bi⟩; have si : Below w13.heap.size w13 wi := below_next sh bi))
  have YF := Lib.hid (Y13.out.trans (si.mono (by have := Y13.out.size; omega)))
  clear sa sb su sd se sg sh si ba bb bu bd be bg bh bi ou oe og qC qB qU qS qE qF qL
  go_wp2_with fail
  go_ret
  exact ⟨rfl, by rw [hX]; exact YF.out⟩

set_option maxRecDepth 100000 in
set_option maxHeartbeats 8000000 in
theorem gone_both_lo {w : World} (ad : Option Addr) (cap : Nat) (l : EL) (fa fn place : Int) (hl : ExtsAt w (.slice ad l.length cap) l) (hs : SmallsE l) (hlen : (l.length : Int) ≤ 200) (hfa : -9223372036854775808 ≤ fa ∧ fa ≤ 9223372036854775807) (hfn : -9223372036854775808 ≤ fn ∧ fn ≤ 9223372036854775807) (hp : -9223372036854775808 ≤ place ∧ place ≤ 9223372036854775807) (hw : 0 ≤ fn ∧ fn ≤ 2048 ∧ 0 ≤ fa ∧ fa ≤ 2048) (OUT : EL) (FR : RL) (p1 n1 : Int) (o1 : Bool) (h4 : Exts.punchOut l fa fn = OUT) (h5 : Exts.punchFr l fa fn = FR) (h6 : Exts.punchE l fa fn = 0) (hRo : Exts.Row OUT) (hlo : OUT.length ≤ 1000) (hlg : FR.length ≤ 2000) (hsg : Smalls FR) (f3 : Exts.findR OUT place = (p1, n1, o1))
    (hUo : unionR (Exts.blocksR OUT) FR = Exts.blocksR l) (hMo : Runs.meetR (Exts.blocksR OUT) FR = [])
    (CUT : EL) (FC : RL) (pc nc pl nl ec el : Int) (oc ol : Bool) (h1 : Exts.cutOut l fa = CUT) (h2 : Exts.cutFr l fa = FC) (h3 : Exts.cutE l fa = 0) (hRc : Exts.Row CUT) (hlc : CUT.length ≤ 1000) (hlf : FC.length ≤ 2000) (hsf : Smalls FC) (f1 : Exts.findR CUT place = (pc, nc, oc)) (f2 : Exts.findR l place = (pl, nl, ol))
    (hU : unionR (Exts.blocksR CUT) FC = Exts.blocksR l) (hec : Exts.endR CUT = ec) (hel : Exts.endR l = el) (hle : ec ≤ min el fa)
    (k1 : place < fa) (e1 : p1 = pl) (e2 : o1 = ol) (e3 : pc = pl) (e4 : oc = ol) :
    Calls Try.prog 10 #[.slice ad l.length cap, .agg #[.int .i64 fa, .int .i64 fn], .int .i64 place] w fun e w' => e = .returned (.bool true) ∧ Below w.heap.size w w' := by
  have P1 := Lib.hid h4
  have P2 := Lib.hid h5
  have P3 := Lib.hid h6
  have SO := Lib.hid (SmallsE.row hRo)
  have KO := Lib.hid (Exts.check_row.2 hRo)
  have LO := Lib.hid hlo
  have LF := Lib.hid hlg
  have SF := Lib.hid hsg
  have LBO := Lib.hid (eblocks_len OUT)
  have F1 := Lib.hid f3
  have UO := Lib.hid hUo
  have MO := Lib.hid hMo
  have wf : IntKind.i64.wrap (fa + fn) = fa + fn := IntWalk.i64_in _ (by omega)
  have Y0 := Lib.hid (below_box (Below.refl w.heap.size w) (.cells #[.int .i64 fa, .int .i64 fn] 49))
  have L_0 := Lib.hid (hl.below (B := 0) Y0.out)
  have X_0 := Lib.hid (pair_lit w fa fn 49)
  obtain ⟨x0, x1⟩ := box2_cells X_0.out
  have S := Lib.hid hs
  have nb : ¬ 200 < (l.length : Int) := by omega
  have HPL := Lib.hid hp
  have HFA := Lib.hid hfa
  have HN9 := Lib.hid hfn
  have C1 := Lib.hid h1
  have C2 := Lib.hid h2
  have C3 := Lib.hid h3
  have SC := Lib.hid (SmallsE.row hRc)
  have KC := Lib.hid (Exts.check_row.2 hRc)
  have LC := Lib.hid hlc
  have LFC := Lib.hid hlf
  have SFC := Lib.hid hsf
  have LB := Lib.hid (eblocks_len l)
  have LBC := Lib.hid (eblocks_len CUT)
  have G1 := Lib.hid f1
  have G2 := Lib.hid f2
  have UC := Lib.hid hU
  have HEC := Lib.hid hec
  have HEL := Lib.hid hel
  clear h1 h2 h3 hRc hlc hlf hsf f1 f2 hU hec hel
  clear hl hs hp hfa hfn h4 h5 h6 hRo hlo hlg hsg f3 hUo hMo
  subst e1; subst e2; subst e3; subst e4
  have k2 : ¬ fa ≤ place := by omega
  go_enter Try.func10, Try.ntmps10
  have q1 := Lib.hid (ePunch_b _ l fa fn _ S.out L_0.out (by omega) HFA.out HN9.out OUT FR 0 P1.out P2.out P3.out)
  go_wp2_with fail
  refine q1.out.mono ?_
  rintro e w1 ⟨v1, f1, _, rfl, o1, _, _, p1, b1⟩
  have L_1 := Lib.hid (L_0.out.below (B := 0) b1)
  have X_1 := Lib.hid (X_0.out.below (B := 0) b1)
  have Y1 := Lib.hid (Y0.out.trans (b1.mono Y0.out.size))
  obtain ⟨ad1, c1, rfl⟩ := o1.slice
  obtain ⟨ae1, ce1, rfl⟩ := own_sliceR p1
  have OUT_1 := Lib.hid (OwnExts.at o1)
  have FR_1 := Lib.hid (OwnRuns.at p1)
  clear o1 p1 b1 q1 L_0 X_0 Y0
  have q2 := Lib.hid (efind_b _ OUT place _ SO.out OUT_1.out (by have := LO.out; omega) HPL.out _ n1 _ F1.out)
  go_wp2_with fail
  refine q2.out.mono ?_
  rintro e w2 ⟨rfl, b2⟩
  have L_2 := Lib.hid (L_1.out.below (B := 0) b2)
  have X_2 := Lib.hid (X_1.out.below (B := 0) b2)
  have OUT_2 := Lib.hid (OUT_1.out.below (B := 0) b2)
  have FR_2 := Lib.hid (FR_1.out.below (B := 0) b2)
  have Y2 := Lib.hid (Y1.out.trans (b2.mono Y1.out.size))
  clear b2 q2 L_1 X_1 OUT_1 FR_1 Y1
  have q3 := Lib.hid (efind_b _ l place _ S.out L_2.out (by omega) HPL.out _ nl _ G2.out)
  go_wp2_with fail
  refine q3.out.mono ?_
  rintro e w3 ⟨rfl, b3⟩
  have L_3 := Lib.hid (L_2.out.below (B := 0) b3)
  have X_3 := Lib.hid (X_2.out.below (B := 0) b3)
  have OUT_3 := Lib.hid (OUT_2.out.below (B := 0) b3)
  have FR_3 := Lib.hid (FR_2.out.below (B := 0) b3)
  have Y3 := Lib.hid (Y2.out.trans (b3.mono Y2.out.size))
  clear b3 q3 L_2 X_2 OUT_2 FR_2 Y2
  clear x0 x1
  obtain ⟨x0, x1⟩ := box2_cells X_3.out
  have q4 := Lib.hid (echeck_any _ OUT _ SO.out OUT_3.out (by have := LO.out; omega))
  rw [KO.out] at q4
  go_wp2_with fail
  refine q4.out.mono ?_
  rintro e w4 ⟨rfl, b4⟩
  have L_4 := Lib.hid (L_3.out.below (B := 0) b4)
  have X_4 := Lib.hid (X_3.out.below (B := 0) b4)
  have OUT_4 := Lib.hid (OUT_3.out.below (B := 0) b4)
  have FR_4 := Lib.hid (FR_3.out.below (B := 0) b4)
  have Y4 := Lib.hid (Y3.out.trans (b4.mono Y3.out.size))
  clear b4 q4 L_3 X_3 OUT_3 FR_3 Y3
  have q5 := Lib.hid (eblocks_any _ OUT _ SO.out OUT_4.out (by have := LO.out; omega))
  go_wp2_with fail
  refine q5.out.mono ?_
  rintro e w5 ⟨v5, rfl, o5, b5⟩
  have L_5 := Lib.hid (L_4.out.below (B := 0) b5)
  have X_5 := Lib.hid (X_4.out.below (B := 0) b5)
  have OUT_5 := Lib.hid (OUT_4.out.below (B := 0) b5)
  have FR_5 := Lib.hid (FR_4.out.below (B := 0) b5)
  have Y5 := Lib.hid (Y4.out.trans (b5.mono Y4.out.size))
  have BO_5 := Lib.hid (OwnRuns.at o5)
  obtain ⟨ad5, c5, rfl⟩ := own_sliceR o5
  clear o5 b5 q5 L_4 X_4 OUT_4 FR_4 Y4
  have q6 := Lib.hid (union_any _ _ (Exts.blocksR OUT) FR _ (blocks_small OUT) SF.out BO_5.out FR_5.out (by have := LBO.out; have := LO.out; omega) (by have := LF.out; omega))
  rw [UO.out] at q6
  go_wp2_with fail
  refine q6.out.mono ?_
  rintro e w6 ⟨v6, rfl, o6, b6⟩
  have L_6 := Lib.hid (L_5.out.below (B := 0) b6)
  have X_6 := Lib.hid (X_5.out.below (B := 0) b6)
  have OUT_6 := Lib.hid (OUT_5.out.below (B := 0) b6)
  have FR_6 := Lib.hid (FR_5.out.below (B := 0) b6)
  have Y6 := Lib.hid (Y5.out.trans (b6.mono Y5.out.size))
  have U_6 := Lib.hid (OwnRuns.at o6)
  obtain ⟨ad6, c6, rfl⟩ := own_sliceR o6
  clear o6 b6 q6 L_5 X_5 OUT_5 FR_5 BO_5 Y5
  have q7 := Lib.hid (eblocks_any _ l _ S.out L_6.out (by omega))
  go_wp2_with fail
  refine q7.out.mono ?_
  rintro e w7 ⟨v7, rfl, o7, b7⟩
  have L_7 := Lib.hid (L_6.out.below (B := 0) b7)
  have X_7 := Lib.hid (X_6.out.below (B := 0) b7)
  have OUT_7 := Lib.hid (OUT_6.out.below (B := 0) b7)
  have FR_7 := Lib.hid (FR_6.out.below (B := 0) b7)
  have U_7 := Lib.hid (U_6.out.below (B := 0) b7)
  have Y7 := Lib.hid (Y6.out.trans (b7.mono Y6.out.size))
  have BL_7 := Lib.hid (OwnRuns.at o7)
  obtain ⟨ad7, c7, rfl⟩ := own_sliceR o7
  clear o7 b7 q7 L_6 X_6 OUT_6 FR_6 U_6 Y6
  have q8 := Lib.hid (same_b _ _ _ (Exts.blocksR l) (Exts.blocksR l) U_7.out BL_7.out (by have := LB.out; omega) (by have := LB.out; omega) true (by simp))
  go_wp2_with fail
  refine q8.out.mono ?_
  rintro e w8 ⟨rfl, b8⟩
  have L_8 := Lib.hid (L_7.out.below (B := 0) b8)
  have X_8 := Lib.hid (X_7.out.below (B := 0) b8)
  have OUT_8 := Lib.hid (OUT_7.out.below (B := 0) b8)
  have FR_8 := Lib.hid (FR_7.out.below (B := 0) b8)
  have Y8 := Lib.hid (Y7.out.trans (b8.mono Y7.out.size))
  clear b8 q8 L_7 X_7 OUT_7 FR_7 U_7 BL_7 Y7
  have q9 := Lib.hid (eblocks_any _ OUT _ SO.out OUT_8.out (by have := LO.out; omega))
  go_wp2_with fail
  refine q9.out.mono ?_
  rintro e w9 ⟨v9, rfl, o9, b9⟩
  have L_9 := Lib.hid (L_8.out.below (B := 0) b9)
  have X_9 := Lib.hid (X_8.out.below (B := 0) b9)
  have FR_9 := Lib.hid (FR_8.out.below (B := 0) b9)
  have Y9 := Lib.hid (Y8.out.trans (b9.mono Y8.out.size))
  have BO_9 := Lib.hid (OwnRuns.at o9)
  obtain ⟨ad9, c9, rfl⟩ := own_sliceR o9
  clear o9 b9 q9 L_8 X_8 OUT_8 FR_8 Y8
  have q10 := Lib.hid (meet_any _ _ (Exts.blocksR OUT) FR _ (blocks_small OUT) SF.out BO_9.out FR_9.out (by have := LBO.out; have := LO.out; omega) (by have := LF.out; omega))
  rw [MO.out] at q10
  go_wp2_with fail
  refine q10.out.mono ?_
  rintro e w10 ⟨v10, rfl, o10, b10⟩
  have L_10 := Lib.hid (L_9.out.below (B := 0) b10)
  have X_10 := Lib.hid (X_9.out.below (B := 0) b10)
  have Y10 := Lib.hid (Y9.out.trans (b10.mono Y9.out.size))
  have M_10 := Lib.hid (OwnRuns.at o10)
  obtain ⟨ad10, c10, rfl⟩ := own_sliceR o10
  clear o10 b10 q10 L_9 X_9 FR_9 BO_9 Y9
  clear x0 x1
  obtain ⟨x0, x1⟩ := box2_cells X_10.out
  have q11 := Lib.hid (eCut_b _ l fa _ S.out L_10.out (by omega) HFA.out CUT FC 0 C1.out C2.out C3.out)
  go_wp2_with fail
  refine q11.out.mono ?_
  rintro e w11 ⟨v11, f11, _, rfl, o11, _, _, p11, b11⟩
  have L_11 := Lib.hid (L_10.out.below (B := 0) b11)
  have X_11 := Lib.hid (X_10.out.below (B := 0) b11)
  have Y11 := Lib.hid (Y10.out.trans (b11.mono Y10.out.size))
  obtain ⟨ad11, c11, rfl⟩ := o11.slice
  obtain ⟨ae11, ce11, rfl⟩ := own_sliceR p11
  have CUT_11 := Lib.hid (OwnExts.at o11)
  have FC_11 := Lib.hid (OwnRuns.at p11)
  clear o11 p11 b11 q11 L_10 X_10 Y10
  clear x0 x1
  obtain ⟨x0, x1⟩ := box2_cells X_11.out
  have q12 := Lib.hid (efind_b _ CUT place _ SC.out CUT_11.out (by have := LC.out; omega) HPL.out _ nc _ G1.out)
  go_wp2_with fail
  refine q12.out.mono ?_
  rintro e w12 ⟨rfl, b12⟩
  have L_12 := Lib.hid (L_11.out.below (B := 0) b12)
  have X_12 := Lib.hid (X_11.out.below (B := 0) b12)
  have CUT_12 := Lib.hid (CUT_11.out.below (B := 0) b12)
  have FC_12 := Lib.hid (FC_11.out.below (B := 0) b12)
  have Y12 := Lib.hid (Y11.out.trans (b12.mono Y11.out.size))
  clear b12 q12 L_11 X_11 CUT_11 FC_11 Y11
  have q13 := Lib.hid (efind_b _ l place _ S.out L_12.out (by omega) HPL.out _ nl _ G2.out)
  go_wp2_with fail
  refine q13.out.mono ?_
  rintro e w13 ⟨rfl, b13⟩
  have L_13 := Lib.hid (L_12.out.below (B := 0) b13)
  have X_13 := Lib.hid (X_12.out.below (B := 0) b13)
  have CUT_13 := Lib.hid (CUT_12.out.below (B := 0) b13)
  have FC_13 := Lib.hid (FC_12.out.below (B := 0) b13)
  have Y13 := Lib.hid (Y12.out.trans (b13.mono Y12.out.size))
  clear b13 q13 L_12 X_12 CUT_12 FC_12 Y12
  clear x0 x1
  obtain ⟨x0, x1⟩ := box2_cells X_13.out
  clear x0 x1
  have L_c := L_13
  have X_c := X_13
  have CUT_c := CUT_13
  have FC_c := FC_13
  obtain ⟨y0, y1⟩ := box2_cells X_c.out
  have zX := World.block_lt_of_cell? _ _ y0
  generalize hX : w.heap.size = X at *
  have KEEP : Hid (∀ wz, Below w13.heap.size w13 wz → wz.cell? ⟨X, 0, none⟩ = some (.int .i64 fa) ∧ wz.cell? ⟨X, 1, none⟩ = some (.int .i64 fn)) := Lib.hid (fun wz hz => ⟨(hz.cell (p := ⟨X, 0, none⟩) zX).trans y0, (hz.cell (p := ⟨X, 1, none⟩) zX).trans y1⟩)
  have s0 : Below w13.heap.size w13 w13.drew := (Below.refl _ _).drew
  have qC := Lib.hid (fun wz (hz : Below w13.heap.size w13 wz) => echeck_any _ CUT wz SC.out (CUT_c.out.below (B := 0) hz) (by have := LC.out; omega))
  simp only [KC.out] at qC
  have qB := Lib.hid (fun wz (hz : Below w13.heap.size w13 wz) => eblocks_any _ CUT wz SC.out (CUT_c.out.below (B := 0) hz) (by have := LC.out; omega))
  have qL := Lib.hid (fun wz (hz : Below w13.heap.size w13 wz) => eblocks_any _ l wz S.out (L_c.out.below (B := 0) hz) (by omega))
  have qU := Lib.hid (fun wz va (hz : Below w13.heap.size w13 wz) (h1 : RunsAt wz va (Exts.blocksR CUT)) => union_any va _ (Exts.blocksR CUT) FC wz (blocks_small CUT) SFC.out h1 (FC_c.out.below (B := 0) hz) (by have := LBC.out; have := LC.out; omega) (by have := LFC.out; omega))
  simp only [UC.out] at qU
  have qS := Lib.hid (fun wz va vb (h1 : RunsAt wz va (Exts.blocksR l)) (h2 : RunsAt wz vb (Exts.blocksR l)) => same_b wz va vb _ _ h1 h2 (by have := LB.out; omega) (by have := LB.out; omega) true (by simp))
  have qE := Lib.hid (fun wz (hz : Below w13.heap.size w13 wz) => eEnd_c _ CUT wz ec SC.out (CUT_c.out.below (B := 0) hz) (by have := LC.out; omega) HEC.out)
  have qF := Lib.hid (fun wz (hz : Below w13.heap.size w13 wz) => eEnd_c _ l wz el S.out (L_c.out.below (B := 0) hz) (by omega) HEL.out)
  go_upto_region 18 with fail
  go_region_held3 (fun w' => w'.cell? ⟨X, 0, none⟩ = some (.int .i64 fa) ∧ w'.cell? ⟨X, 1, none⟩ = some (.int .i64 fn))
    (first | (refine KEEP.out _ ?_; assumption) | (refine KEEP.out _ (below_box ?_ _); assumption))
    (first | (go_at_call 19; first | ((with_reducible refine (qE.out _ s0).mono ?_); rintro e wa ⟨rfl, ba⟩; have sa : Below w13.heap.size w13 wa := below_next s0 ba) | ((with_reducible refine (qF.out _ sa).mono ?_); rintro e wb ⟨rfl, bb⟩; have sb : Below w13.heap.size w13 wb := below_next sa bb)) | (go_at_call 16; (with_reducible refine (qC.out _ sb).mono ?_); rintro e wd ⟨rfl, bd⟩; have sd : Below w13.heap.size w13 wd := below_next sb bd) | (go_at_call 14; first | ((with_reducible refine (qB.out _ sd).mono ?_); rintro e we ⟨ve, rfl, oe, be⟩; have se : Below w13.heap.size w13 we := below_next sd be) | ((with_reducible refine (qL.out _ su).mono ?_); rintro e wg ⟨vg, rfl, og, bg⟩; have sg : Below w13.heap.size w13 wg := below_next su bg)) | (go_at_call 34; (with_reducible refine (qU.out _ _ se (OwnRuns.at oe)).mono ?_); rintro e wu ⟨vu, rfl, ou, bu⟩; have su : Below w13.heap.size w13 wu := below_next se bu) | (go_at_call 18; (with_reducible refine (qS.out _ _ _ (RunsAt.below (B := 0) (OwnRuns.at ou) bg) (OwnRuns.at og)).mono ?_); rintro e wh ⟨rfl, bh⟩; have sh : Below w13.heap.size w13 wh := below_next sg bh) | (go_at_call 24; (with_reducible refine (ealive_any _).mono ?_); rintro e wi ⟨rfl, bi⟩; have si : Below w13.heap.size w13 wi := below_next sh bi))
  have YF := Lib.hid (Y13.out.trans (si.mono (by have := Y13.out.size; omega)))
  clear sa sb su sd se sg sh si ba bb bu bd be bg bh bi ou oe og qC qB qU qS qE qF qL
  go_wp2_with fail
  go_ret
  exact ⟨rfl, by rw [hX]; exact YF.out⟩

set_option maxRecDepth 100000 in
set_option maxHeartbeats 8000000 in
theorem gone_both_hi {w : World} (ad : Option Addr) (cap : Nat) (l : EL) (fa fn place : Int) (hl : ExtsAt w (.slice ad l.length cap) l) (hs : SmallsE l) (hlen : (l.length : Int) ≤ 200) (hfa : -9223372036854775808 ≤ fa ∧ fa ≤ 9223372036854775807) (hfn : -9223372036854775808 ≤ fn ∧ fn ≤ 9223372036854775807) (hp : -9223372036854775808 ≤ place ∧ place ≤ 9223372036854775807) (hw : 0 ≤ fn ∧ fn ≤ 2048 ∧ 0 ≤ fa ∧ fa ≤ 2048) (OUT : EL) (FR : RL) (p1 n1 : Int) (o1 : Bool) (h4 : Exts.punchOut l fa fn = OUT) (h5 : Exts.punchFr l fa fn = FR) (h6 : Exts.punchE l fa fn = 0) (hRo : Exts.Row OUT) (hlo : OUT.length ≤ 1000) (hlg : FR.length ≤ 2000) (hsg : Smalls FR) (f3 : Exts.findR OUT place = (p1, n1, o1))
    (hUo : unionR (Exts.blocksR OUT) FR = Exts.blocksR l) (hMo : Runs.meetR (Exts.blocksR OUT) FR = [])
    (CUT : EL) (FC : RL) (pc nc pl nl ec el : Int) (oc ol : Bool) (h1 : Exts.cutOut l fa = CUT) (h2 : Exts.cutFr l fa = FC) (h3 : Exts.cutE l fa = 0) (hRc : Exts.Row CUT) (hlc : CUT.length ≤ 1000) (hlf : FC.length ≤ 2000) (hsf : Smalls FC) (f1 : Exts.findR CUT place = (pc, nc, oc)) (f2 : Exts.findR l place = (pl, nl, ol))
    (hU : unionR (Exts.blocksR CUT) FC = Exts.blocksR l) (hec : Exts.endR CUT = ec) (hel : Exts.endR l = el) (hle : ec ≤ min el fa)
    (k1 : fa ≤ place) (k2 : fa + fn ≤ place) (e1 : p1 = pl) (e2 : o1 = ol) (e3 : pc = 0) (e4 : oc = false) :
    Calls Try.prog 10 #[.slice ad l.length cap, .agg #[.int .i64 fa, .int .i64 fn], .int .i64 place] w fun e w' => e = .returned (.bool true) ∧ Below w.heap.size w w' := by
  have P1 := Lib.hid h4
  have P2 := Lib.hid h5
  have P3 := Lib.hid h6
  have SO := Lib.hid (SmallsE.row hRo)
  have KO := Lib.hid (Exts.check_row.2 hRo)
  have LO := Lib.hid hlo
  have LF := Lib.hid hlg
  have SF := Lib.hid hsg
  have LBO := Lib.hid (eblocks_len OUT)
  have F1 := Lib.hid f3
  have UO := Lib.hid hUo
  have MO := Lib.hid hMo
  have wf : IntKind.i64.wrap (fa + fn) = fa + fn := IntWalk.i64_in _ (by omega)
  have Y0 := Lib.hid (below_box (Below.refl w.heap.size w) (.cells #[.int .i64 fa, .int .i64 fn] 49))
  have L_0 := Lib.hid (hl.below (B := 0) Y0.out)
  have X_0 := Lib.hid (pair_lit w fa fn 49)
  obtain ⟨x0, x1⟩ := box2_cells X_0.out
  have S := Lib.hid hs
  have nb : ¬ 200 < (l.length : Int) := by omega
  have HPL := Lib.hid hp
  have HFA := Lib.hid hfa
  have HN9 := Lib.hid hfn
  have C1 := Lib.hid h1
  have C2 := Lib.hid h2
  have C3 := Lib.hid h3
  have SC := Lib.hid (SmallsE.row hRc)
  have KC := Lib.hid (Exts.check_row.2 hRc)
  have LC := Lib.hid hlc
  have LFC := Lib.hid hlf
  have SFC := Lib.hid hsf
  have LB := Lib.hid (eblocks_len l)
  have LBC := Lib.hid (eblocks_len CUT)
  have G1 := Lib.hid f1
  have G2 := Lib.hid f2
  have UC := Lib.hid hU
  have HEC := Lib.hid hec
  have HEL := Lib.hid hel
  clear h1 h2 h3 hRc hlc hlf hsf f1 f2 hU hec hel
  clear hl hs hp hfa hfn h4 h5 h6 hRo hlo hlg hsg f3 hUo hMo
  subst e1; subst e2; subst e3; subst e4
  have k3 : ¬ place < fa + fn := by omega
  go_enter Try.func10, Try.ntmps10
  have q1 := Lib.hid (ePunch_b _ l fa fn _ S.out L_0.out (by omega) HFA.out HN9.out OUT FR 0 P1.out P2.out P3.out)
  go_wp2_with fail
  refine q1.out.mono ?_
  rintro e w1 ⟨v1, f1, _, rfl, o1, _, _, p1, b1⟩
  have L_1 := Lib.hid (L_0.out.below (B := 0) b1)
  have X_1 := Lib.hid (X_0.out.below (B := 0) b1)
  have Y1 := Lib.hid (Y0.out.trans (b1.mono Y0.out.size))
  obtain ⟨ad1, c1, rfl⟩ := o1.slice
  obtain ⟨ae1, ce1, rfl⟩ := own_sliceR p1
  have OUT_1 := Lib.hid (OwnExts.at o1)
  have FR_1 := Lib.hid (OwnRuns.at p1)
  clear o1 p1 b1 q1 L_0 X_0 Y0
  have q2 := Lib.hid (efind_b _ OUT place _ SO.out OUT_1.out (by have := LO.out; omega) HPL.out _ n1 _ F1.out)
  go_wp2_with fail
  refine q2.out.mono ?_
  rintro e w2 ⟨rfl, b2⟩
  have L_2 := Lib.hid (L_1.out.below (B := 0) b2)
  have X_2 := Lib.hid (X_1.out.below (B := 0) b2)
  have OUT_2 := Lib.hid (OUT_1.out.below (B := 0) b2)
  have FR_2 := Lib.hid (FR_1.out.below (B := 0) b2)
  have Y2 := Lib.hid (Y1.out.trans (b2.mono Y1.out.size))
  clear b2 q2 L_1 X_1 OUT_1 FR_1 Y1
  have q3 := Lib.hid (efind_b _ l place _ S.out L_2.out (by omega) HPL.out _ nl _ G2.out)
  go_wp2_with fail
  refine q3.out.mono ?_
  rintro e w3 ⟨rfl, b3⟩
  have L_3 := Lib.hid (L_2.out.below (B := 0) b3)
  have X_3 := Lib.hid (X_2.out.below (B := 0) b3)
  have OUT_3 := Lib.hid (OUT_2.out.below (B := 0) b3)
  have FR_3 := Lib.hid (FR_2.out.below (B := 0) b3)
  have Y3 := Lib.hid (Y2.out.trans (b3.mono Y2.out.size))
  clear b3 q3 L_2 X_2 OUT_2 FR_2 Y2
  clear x0 x1
  obtain ⟨x0, x1⟩ := box2_cells X_3.out
  have q4 := Lib.hid (echeck_any _ OUT _ SO.out OUT_3.out (by have := LO.out; omega))
  rw [KO.out] at q4
  go_wp2_with fail
  refine q4.out.mono ?_
  rintro e w4 ⟨rfl, b4⟩
  have L_4 := Lib.hid (L_3.out.below (B := 0) b4)
  have X_4 := Lib.hid (X_3.out.below (B := 0) b4)
  have OUT_4 := Lib.hid (OUT_3.out.below (B := 0) b4)
  have FR_4 := Lib.hid (FR_3.out.below (B := 0) b4)
  have Y4 := Lib.hid (Y3.out.trans (b4.mono Y3.out.size))
  clear b4 q4 L_3 X_3 OUT_3 FR_3 Y3
  have q5 := Lib.hid (eblocks_any _ OUT _ SO.out OUT_4.out (by have := LO.out; omega))
  go_wp2_with fail
  refine q5.out.mono ?_
  rintro e w5 ⟨v5, rfl, o5, b5⟩
  have L_5 := Lib.hid (L_4.out.below (B := 0) b5)
  have X_5 := Lib.hid (X_4.out.below (B := 0) b5)
  have OUT_5 := Lib.hid (OUT_4.out.below (B := 0) b5)
  have FR_5 := Lib.hid (FR_4.out.below (B := 0) b5)
  have Y5 := Lib.hid (Y4.out.trans (b5.mono Y4.out.size))
  have BO_5 := Lib.hid (OwnRuns.at o5)
  obtain ⟨ad5, c5, rfl⟩ := own_sliceR o5
  clear o5 b5 q5 L_4 X_4 OUT_4 FR_4 Y4
  have q6 := Lib.hid (union_any _ _ (Exts.blocksR OUT) FR _ (blocks_small OUT) SF.out BO_5.out FR_5.out (by have := LBO.out; have := LO.out; omega) (by have := LF.out; omega))
  rw [UO.out] at q6
  go_wp2_with fail
  refine q6.out.mono ?_
  rintro e w6 ⟨v6, rfl, o6, b6⟩
  have L_6 := Lib.hid (L_5.out.below (B := 0) b6)
  have X_6 := Lib.hid (X_5.out.below (B := 0) b6)
  have OUT_6 := Lib.hid (OUT_5.out.below (B := 0) b6)
  have FR_6 := Lib.hid (FR_5.out.below (B := 0) b6)
  have Y6 := Lib.hid (Y5.out.trans (b6.mono Y5.out.size))
  have U_6 := Lib.hid (OwnRuns.at o6)
  obtain ⟨ad6, c6, rfl⟩ := own_sliceR o6
  clear o6 b6 q6 L_5 X_5 OUT_5 FR_5 BO_5 Y5
  have q7 := Lib.hid (eblocks_any _ l _ S.out L_6.out (by omega))
  go_wp2_with fail
  refine q7.out.mono ?_
  rintro e w7 ⟨v7, rfl, o7, b7⟩
  have L_7 := Lib.hid (L_6.out.below (B := 0) b7)
  have X_7 := Lib.hid (X_6.out.below (B := 0) b7)
  have OUT_7 := Lib.hid (OUT_6.out.below (B := 0) b7)
  have FR_7 := Lib.hid (FR_6.out.below (B := 0) b7)
  have U_7 := Lib.hid (U_6.out.below (B := 0) b7)
  have Y7 := Lib.hid (Y6.out.trans (b7.mono Y6.out.size))
  have BL_7 := Lib.hid (OwnRuns.at o7)
  obtain ⟨ad7, c7, rfl⟩ := own_sliceR o7
  clear o7 b7 q7 L_6 X_6 OUT_6 FR_6 U_6 Y6
  have q8 := Lib.hid (same_b _ _ _ (Exts.blocksR l) (Exts.blocksR l) U_7.out BL_7.out (by have := LB.out; omega) (by have := LB.out; omega) true (by simp))
  go_wp2_with fail
  refine q8.out.mono ?_
  rintro e w8 ⟨rfl, b8⟩
  have L_8 := Lib.hid (L_7.out.below (B := 0) b8)
  have X_8 := Lib.hid (X_7.out.below (B := 0) b8)
  have OUT_8 := Lib.hid (OUT_7.out.below (B := 0) b8)
  have FR_8 := Lib.hid (FR_7.out.below (B := 0) b8)
  have Y8 := Lib.hid (Y7.out.trans (b8.mono Y7.out.size))
  clear b8 q8 L_7 X_7 OUT_7 FR_7 U_7 BL_7 Y7
  have q9 := Lib.hid (eblocks_any _ OUT _ SO.out OUT_8.out (by have := LO.out; omega))
  go_wp2_with fail
  refine q9.out.mono ?_
  rintro e w9 ⟨v9, rfl, o9, b9⟩
  have L_9 := Lib.hid (L_8.out.below (B := 0) b9)
  have X_9 := Lib.hid (X_8.out.below (B := 0) b9)
  have FR_9 := Lib.hid (FR_8.out.below (B := 0) b9)
  have Y9 := Lib.hid (Y8.out.trans (b9.mono Y8.out.size))
  have BO_9 := Lib.hid (OwnRuns.at o9)
  obtain ⟨ad9, c9, rfl⟩ := own_sliceR o9
  clear o9 b9 q9 L_8 X_8 OUT_8 FR_8 Y8
  have q10 := Lib.hid (meet_any _ _ (Exts.blocksR OUT) FR _ (blocks_small OUT) SF.out BO_9.out FR_9.out (by have := LBO.out; have := LO.out; omega) (by have := LF.out; omega))
  rw [MO.out] at q10
  go_wp2_with fail
  refine q10.out.mono ?_
  rintro e w10 ⟨v10, rfl, o10, b10⟩
  have L_10 := Lib.hid (L_9.out.below (B := 0) b10)
  have X_10 := Lib.hid (X_9.out.below (B := 0) b10)
  have Y10 := Lib.hid (Y9.out.trans (b10.mono Y9.out.size))
  have M_10 := Lib.hid (OwnRuns.at o10)
  obtain ⟨ad10, c10, rfl⟩ := own_sliceR o10
  clear o10 b10 q10 L_9 X_9 FR_9 BO_9 Y9
  clear x0 x1
  obtain ⟨x0, x1⟩ := box2_cells X_10.out
  have q11 := Lib.hid (eCut_b _ l fa _ S.out L_10.out (by omega) HFA.out CUT FC 0 C1.out C2.out C3.out)
  go_wp2_with fail
  refine q11.out.mono ?_
  rintro e w11 ⟨v11, f11, _, rfl, o11, _, _, p11, b11⟩
  have L_11 := Lib.hid (L_10.out.below (B := 0) b11)
  have X_11 := Lib.hid (X_10.out.below (B := 0) b11)
  have Y11 := Lib.hid (Y10.out.trans (b11.mono Y10.out.size))
  obtain ⟨ad11, c11, rfl⟩ := o11.slice
  obtain ⟨ae11, ce11, rfl⟩ := own_sliceR p11
  have CUT_11 := Lib.hid (OwnExts.at o11)
  have FC_11 := Lib.hid (OwnRuns.at p11)
  clear o11 p11 b11 q11 L_10 X_10 Y10
  clear x0 x1
  obtain ⟨x0, x1⟩ := box2_cells X_11.out
  have q12 := Lib.hid (efind_b _ CUT place _ SC.out CUT_11.out (by have := LC.out; omega) HPL.out _ nc _ G1.out)
  go_wp2_with fail
  refine q12.out.mono ?_
  rintro e w12 ⟨rfl, b12⟩
  have L_12 := Lib.hid (L_11.out.below (B := 0) b12)
  have X_12 := Lib.hid (X_11.out.below (B := 0) b12)
  have CUT_12 := Lib.hid (CUT_11.out.below (B := 0) b12)
  have FC_12 := Lib.hid (FC_11.out.below (B := 0) b12)
  have Y12 := Lib.hid (Y11.out.trans (b12.mono Y11.out.size))
  clear b12 q12 L_11 X_11 CUT_11 FC_11 Y11
  have q13 := Lib.hid (efind_b _ l place _ S.out L_12.out (by omega) HPL.out _ nl _ G2.out)
  go_wp2_with fail
  refine q13.out.mono ?_
  rintro e w13 ⟨rfl, b13⟩
  have L_13 := Lib.hid (L_12.out.below (B := 0) b13)
  have X_13 := Lib.hid (X_12.out.below (B := 0) b13)
  have CUT_13 := Lib.hid (CUT_12.out.below (B := 0) b13)
  have FC_13 := Lib.hid (FC_12.out.below (B := 0) b13)
  have Y13 := Lib.hid (Y12.out.trans (b13.mono Y12.out.size))
  clear b13 q13 L_12 X_12 CUT_12 FC_12 Y12
  clear x0 x1
  obtain ⟨x0, x1⟩ := box2_cells X_13.out
  clear x0 x1
  have L_c := L_13
  have X_c := X_13
  have CUT_c := CUT_13
  have FC_c := FC_13
  obtain ⟨y0, y1⟩ := box2_cells X_c.out
  have zX := World.block_lt_of_cell? _ _ y0
  generalize hX : w.heap.size = X at *
  have KEEP : Hid (∀ wz, Below w13.heap.size w13 wz → wz.cell? ⟨X, 0, none⟩ = some (.int .i64 fa) ∧ wz.cell? ⟨X, 1, none⟩ = some (.int .i64 fn)) := Lib.hid (fun wz hz => ⟨(hz.cell (p := ⟨X, 0, none⟩) zX).trans y0, (hz.cell (p := ⟨X, 1, none⟩) zX).trans y1⟩)
  have s0 : Below w13.heap.size w13 w13.drew := (Below.refl _ _).drew
  have qC := Lib.hid (fun wz (hz : Below w13.heap.size w13 wz) => echeck_any _ CUT wz SC.out (CUT_c.out.below (B := 0) hz) (by have := LC.out; omega))
  simp only [KC.out] at qC
  have qB := Lib.hid (fun wz (hz : Below w13.heap.size w13 wz) => eblocks_any _ CUT wz SC.out (CUT_c.out.below (B := 0) hz) (by have := LC.out; omega))
  have qL := Lib.hid (fun wz (hz : Below w13.heap.size w13 wz) => eblocks_any _ l wz S.out (L_c.out.below (B := 0) hz) (by omega))
  have qU := Lib.hid (fun wz va (hz : Below w13.heap.size w13 wz) (h1 : RunsAt wz va (Exts.blocksR CUT)) => union_any va _ (Exts.blocksR CUT) FC wz (blocks_small CUT) SFC.out h1 (FC_c.out.below (B := 0) hz) (by have := LBC.out; have := LC.out; omega) (by have := LFC.out; omega))
  simp only [UC.out] at qU
  have qS := Lib.hid (fun wz va vb (h1 : RunsAt wz va (Exts.blocksR l)) (h2 : RunsAt wz vb (Exts.blocksR l)) => same_b wz va vb _ _ h1 h2 (by have := LB.out; omega) (by have := LB.out; omega) true (by simp))
  have qE := Lib.hid (fun wz (hz : Below w13.heap.size w13 wz) => eEnd_c _ CUT wz ec SC.out (CUT_c.out.below (B := 0) hz) (by have := LC.out; omega) HEC.out)
  have qF := Lib.hid (fun wz (hz : Below w13.heap.size w13 wz) => eEnd_c _ l wz el S.out (L_c.out.below (B := 0) hz) (by omega) HEL.out)
  go_upto_region 18 with fail
  go_region_held3 (fun w' => w'.cell? ⟨X, 0, none⟩ = some (.int .i64 fa) ∧ w'.cell? ⟨X, 1, none⟩ = some (.int .i64 fn))
    (first | (refine KEEP.out _ ?_; assumption) | (refine KEEP.out _ (below_box ?_ _); assumption))
    (first | (go_at_call 19; first | ((with_reducible refine (qE.out _ s0).mono ?_); rintro e wa ⟨rfl, ba⟩; have sa : Below w13.heap.size w13 wa := below_next s0 ba) | ((with_reducible refine (qF.out _ sa).mono ?_); rintro e wb ⟨rfl, bb⟩; have sb : Below w13.heap.size w13 wb := below_next sa bb)) | (go_at_call 16; (with_reducible refine (qC.out _ sb).mono ?_); rintro e wd ⟨rfl, bd⟩; have sd : Below w13.heap.size w13 wd := below_next sb bd) | (go_at_call 14; first | ((with_reducible refine (qB.out _ sd).mono ?_); rintro e we ⟨ve, rfl, oe, be⟩; have se : Below w13.heap.size w13 we := below_next sd be) | ((with_reducible refine (qL.out _ su).mono ?_); rintro e wg ⟨vg, rfl, og, bg⟩; have sg : Below w13.heap.size w13 wg := below_next su bg)) | (go_at_call 34; (with_reducible refine (qU.out _ _ se (OwnRuns.at oe)).mono ?_); rintro e wu ⟨vu, rfl, ou, bu⟩; have su : Below w13.heap.size w13 wu := below_next se bu) | (go_at_call 18; (with_reducible refine (qS.out _ _ _ (RunsAt.below (B := 0) (OwnRuns.at ou) bg) (OwnRuns.at og)).mono ?_); rintro e wh ⟨rfl, bh⟩; have sh : Below w13.heap.size w13 wh := below_next sg bh) | (go_at_call 24; (with_reducible refine (ealive_any _).mono ?_); rintro e wi ⟨rfl, bi⟩; have si : Below w13.heap.size w13 wi := below_next sh bi))
  have YF := Lib.hid (Y13.out.trans (si.mono (by have := Y13.out.size; omega)))
  clear sa sb su sd se sg sh si ba bb bu bd be bg bh bi ou oe og qC qB qU qS qE qF qL
  go_wp2_with fail
  go_ret
  exact ⟨rfl, by rw [hX]; exact YF.out⟩

end Go.Proofs.Ytgpjldmndibalaa
