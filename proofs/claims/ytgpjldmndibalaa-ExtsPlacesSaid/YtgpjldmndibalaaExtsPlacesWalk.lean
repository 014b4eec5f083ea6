/- ExtsPlaces' walk. -/
import Derived.Test.YtgpjldmndibalaaExtsSets
import Derived.Test.YtgpjldmndibalaaExtsRead
namespace Go.Proofs.Ytgpjldmndibalaa
open Go Go.RowKit

theorem eEnd_b (v : Value) (l : EL) (w : World) (k : Int) (hs : SmallsE l) (h : ExtsAt w v l) (hl : l.length ≤ 1000000000) (hk : Exts.endR l = k) :
    Calls Try.prog 19 #[v] w fun e w' => e = .returned (.int .i64 k) ∧ Below w.heap.size w w' := by
  subst hk
  exact eEnd_any v l w hs h hl
theorem box_cells {w : World} {X : Nat} {a b c : Int} (h : ExtsAt w (.slice (some ⟨X, 0, none⟩) 1 1) [(a, b, c)]) : w.cell? ⟨X, 0, none⟩ = some (.int .i64 a) ∧ w.cell? ⟨X, 1, none⟩ = some (.int .i64 b) ∧ w.cell? ⟨X, 2, none⟩ = some (.int .i64 c) := by
  obtain ⟨_, g, off, e, h0, h1, h2⟩ := h.cells 0 (by simp)
  cases e
  exact ⟨h0, h1, h2⟩

set_option maxRecDepth 100000 in
set_option maxHeartbeats 4000000 in
theorem places_no {w : World} (ad : Option Addr) (cap : Nat) (l : EL) (xa xb xc place : Int) (hl : ExtsAt w (.slice ad l.length cap) l) (hs : SmallsE l) (hx : SmallE (xa, xb, xc)) (hlen : (l.length : Int) ≤ 200) (hno : ¬ (Exts.okTo l l.length = true ∧ Exts.may (xa, xb, xc))) :
    Calls Try.prog 9 #[.slice ad l.length cap, .agg #[.int .i64 xa, .int .i64 xb, .int .i64 xc], .int .i64 place] w fun e w' => e = .returned (.bool true) ∧ Below w.heap.size w w' := by
  obtain ⟨p1, p2, p3⟩ := put_no hno
  have Y0 := Lib.hid (below_box (Below.refl w.heap.size w) (.cells #[.int .i64 xa, .int .i64 xb, .int .i64 xc] 37))
  have L_0 := Lib.hid (hl.below (B := 0) Y0.out)
  have X_0 : Hid (ExtsAt _ (.slice (some ⟨w.heap.size, 0, none⟩) 1 1) [(xa, xb, xc)]) := Lib.hid (extsAt_lit w [(xa, xb, xc)] #[.int .i64 xa, .int .i64 xb, .int .i64 xc] rfl 1)
  obtain ⟨x0, x1, x2⟩ := box_cells X_0.out
  have S := Lib.hid hs
  have SX := Lib.hid hx
  have nb : ¬ 200 < (l.length : Int) := by omega
  clear hl hs hx
  cases hok : Exts.okTo l l.length
  · clear hno
    go_enter Try.func9, Try.ntmps9
    have q1 := Lib.hid (ePut_b _ l (xa, xb, xc) _ S.out SX.out L_0.out (by omega) [] [] 2 p1 p2 p3)
    go_wp2_with fail
    refine q1.out.mono ?_
    rintro e w1 ⟨v1, f1, _, rfl, o1, _, _, p1, b1⟩
    have L_1 := Lib.hid (L_0.out.below (B := 0) b1)
    have X_1 := Lib.hid (X_0.out.below (B := 0) b1)
    have Y1 := Lib.hid (Y0.out.trans (b1.mono Y0.out.size))
    obtain ⟨ad1, c1, rfl⟩ := o1.slice
    obtain ⟨ae1, ce1, rfl⟩ := own_sliceR p1
    clear o1 p1 b1 q1 L_0 X_0 Y0
    have q2 := Lib.hid (echeck_any _ l _ S.out L_1.out (by omega))
    rw [hok] at q2
    go_wp2_with fail
    refine q2.out.mono ?_
    rintro e w2 ⟨rfl, b2⟩
    have L_2 := Lib.hid (L_1.out.below (B := 0) b2)
    have X_2 := Lib.hid (X_1.out.below (B := 0) b2)
    have Y2 := Lib.hid (Y1.out.trans (b2.mono Y1.out.size))
    clear b2 q2 L_1 X_1 Y1
    have q3 := Lib.hid (ealive_any w2)
    go_wp2_with fail
    refine q3.out.mono ?_
    rintro e w3 ⟨rfl, b3⟩
    have L_3 := Lib.hid (L_2.out.below (B := 0) b3)
    have X_3 := Lib.hid (X_2.out.below (B := 0) b3)
    have Y3 := Lib.hid (Y2.out.trans (b3.mono Y2.out.size))
    clear b3 q3 L_2 X_2 Y2
    go_wp2_with fail
    go_ret
    exact ⟨rfl, Y3.out⟩
  · have hm : decide (Exts.may (xa, xb, xc)) = false := decide_eq_false (fun h => hno ⟨hok, h⟩)
    have SXL : Hid (SmallsE [(xa, xb, xc)]) := Lib.hid (fun y hy => by obtain rfl := List.mem_singleton.1 hy; exact SX.out)
    clear hno
    go_enter Try.func9, Try.ntmps9
    have q1 := Lib.hid (ePut_b _ l (xa, xb, xc) _ S.out SX.out L_0.out (by omega) [] [] 2 p1 p2 p3)
    go_wp2_with fail
    refine q1.out.mono ?_
    rintro e w1 ⟨v1, f1, _, rfl, o1, _, _, p1, b1⟩
    have L_1 := Lib.hid (L_0.out.below (B := 0) b1)
    have X_1 := Lib.hid (X_0.out.below (B := 0) b1)
    have Y1 := Lib.hid (Y0.out.trans (b1.mono Y0.out.size))
    obtain ⟨ad1, c1, rfl⟩ := o1.slice
    obtain ⟨ae1, ce1, rfl⟩ := own_sliceR p1
    clear o1 p1 b1 q1 L_0 X_0 Y0
    have q2 := Lib.hid (echeck_any _ l _ S.out L_1.out (by omega))
    rw [hok] at q2
    go_wp2_with fail
    refine q2.out.mono ?_
    rintro e w2 ⟨rfl, b2⟩
    have L_2 := Lib.hid (L_1.out.below (B := 0) b2)
    have X_2 := Lib.hid (X_1.out.below (B := 0) b2)
    have Y2 := Lib.hid (Y1.out.trans (b2.mono Y1.out.size))
    clear b2 q2 L_1 X_1 Y1
    obtain ⟨y0, y1, y2⟩ := box_cells X_2.out
    have L_3 := Lib.hid (L_2.out.below (B := 0) (below_box (Below.refl w2.heap.size w2) (.cells #[.int .i64 xa, .int .i64 xb, .int .i64 xc] 37)))
    have X_3 := Lib.hid (X_2.out.below (B := 0) (below_box (Below.refl w2.heap.size w2) (.cells #[.int .i64 xa, .int .i64 xb, .int .i64 xc] 37)))
    have Y3 := Lib.hid (Y2.out.trans ((below_box (Below.refl w2.heap.size w2) (.cells #[.int .i64 xa, .int .i64 xb, .int .i64 xc] 37)).mono Y2.out.size))
    have X2_3 : Hid (ExtsAt _ (.slice (some ⟨w2.heap.size, 0, none⟩) 1 1) [(xa, xb, xc)]) := Lib.hid (extsAt_lit w2 [(xa, xb, xc)] #[.int .i64 xa, .int .i64 xb, .int .i64 xc] rfl 1)
    clear L_2 X_2 Y2
    have q4 := Lib.hid (echeck_any _ [(xa, xb, xc)] _ SXL.out X2_3.out (by simp))
    rw [okTo_one] at q4
    rw [hm] at q4
    go_wp2_with fail
    refine q4.out.mono ?_
    rintro e w4 ⟨rfl, b4⟩
    have L_4 := Lib.hid (L_3.out.below (B := 0) b4)
    have X_4 := Lib.hid (X_3.out.below (B := 0) b4)
    have X2_4 := Lib.hid (X2_3.out.below (B := 0) b4)
    have Y4 := Lib.hid (Y3.out.trans (b4.mono Y3.out.size))
    clear b4 q4 L_3 X_3 X2_3 Y3
    have q5 := Lib.hid (ealive_any w4)
    go_wp2_with fail
    refine q5.out.mono ?_
    rintro e w5 ⟨rfl, b5⟩
    have L_5 := Lib.hid (L_4.out.below (B := 0) b5)
    have X_5 := Lib.hid (X_4.out.below (B := 0) b5)
    have X2_5 := Lib.hid (X2_4.out.below (B := 0) b5)
    have Y5 := Lib.hid (Y4.out.trans (b5.mono Y4.out.size))
    clear b5 q5 L_4 X_4 X2_4 Y4
    go_wp2_with fail
    go_ret
    exact ⟨rfl, Y5.out⟩

set_option maxRecDepth 100000 in
set_option maxHeartbeats 8000000 in
theorem places_yes {w : World} (ad : Option Addr) (cap : Nat) (l : EL) (xa xb xc place : Int) (hl : ExtsAt w (.slice ad l.length cap) l) (hs : SmallsE l) (hx : SmallE (xa, xb, xc)) (hlen : (l.length : Int) ≤ 200) (hp : -9223372036854775808 ≤ place ∧ place ≤ 9223372036854775807)
    (OUT : EL) (FR : RL) (p n1 q2 n2 : Int) (o o2 : Bool) (hok : Exts.okTo l l.length = true) (hm : Exts.may (xa, xb, xc)) (h1 : Exts.putOut l (xa, xb, xc) = OUT) (h2 : Exts.putFr l (xa, xb, xc) = FR) (h3 : Exts.putE l (xa, xb, xc) = 0)
    (hRo : Exts.Row OUT) (hlo : OUT.length ≤ 1000) (hlf : FR.length ≤ 2000) (hsf : Smalls FR) (f1 : Exts.findR OUT place = (p, n1, o)) (f2 : Exts.findR l place = (q2, n2, o2))
    (hcase : (xa ≤ place ∧ place < xa + xc ∧ p = xb + place - xa ∧ o = true) ∨ (place < xa ∧ q2 = p ∧ o2 = o) ∨ (xa + xc ≤ place ∧ q2 = p ∧ o2 = o))
    (U : RL) (hU0 : unionR (Exts.blocksR l) [(xb, xc)] = U) (hU : unionR (Exts.blocksR OUT) FR = U) (hM : Runs.meetR (Exts.blocksR OUT) FR = []) (hE : Exts.endR OUT = max (Exts.endR l) (xa + xc)) :
    Calls Try.prog 9 #[.slice ad l.length cap, .agg #[.int .i64 xa, .int .i64 xb, .int .i64 xc], .int .i64 place] w fun e w' => e = .returned (.bool true) ∧ Below w.heap.size w w' := by
  have Y0 := Lib.hid (below_box (Below.refl w.heap.size w) (.cells #[.int .i64 xa, .int .i64 xb, .int .i64 xc] 37))
  have L_0 := Lib.hid (hl.below (B := 0) Y0.out)
  have X_0 : Hid (ExtsAt _ (.slice (some ⟨w.heap.size, 0, none⟩) 1 1) [(xa, xb, xc)]) := Lib.hid (extsAt_lit w [(xa, xb, xc)] #[.int .i64 xa, .int .i64 xb, .int .i64 xc] rfl 1)
  obtain ⟨x0, x1, x2⟩ := box_cells X_0.out
  have S := Lib.hid hs
  have SX := Lib.hid hx
  have SO := Lib.hid (SmallsE.row hRo)
  have nb : ¬ 200 < (l.length : Int) := by omega
  have KO := Lib.hid (Exts.check_row.2 hRo)
  have LO := Lib.hid hlo
  have LF := Lib.hid hlf
  have SF := Lib.hid hsf
  have LB := Lib.hid (eblocks_len l)
  have LBO := Lib.hid (eblocks_len OUT)
  have SR : Hid (Smalls [(xb, xc)]) := Lib.hid (fun y hy => by obtain rfl := List.mem_singleton.1 hy; exact ⟨hx.2.1, hx.2.2⟩)
  have F1 := Lib.hid f1
  have F2 := Lib.hid f2
  have P1 := Lib.hid h1
  have P2 := Lib.hid h2
  have P3 := Lib.hid h3
  have U0 := Lib.hid hU0
  have U1 := Lib.hid hU
  have M1 := Lib.hid hM
  have E1 := Lib.hid hE
  have LU : Hid (U.length ≤ 2000) := Lib.hid (by have h := union_len (Exts.blocksR l) [(xb, xc)]; have := eblocks_len l; rw [hU0] at h; simp only [List.length_cons, List.length_nil] at h; omega)
  unfold Exts.may at hm
  dsimp only at hm
  have e0 := Exts.endR_nonneg (Exts.check_row.1 hok)
  have e1 := Exts.endR_high (Exts.check_row.1 hok)
  have HPL := Lib.hid hp
  clear hl hs hx hok h1 h2 h3 hRo hlo hlf hsf f1 f2 hU0 hU hM hE hp
  obtain ⟨el, hel⟩ : ∃ el, Exts.endR l = el := ⟨_, rfl⟩
  have HEL := Lib.hid hel
  rw [hel] at e0 e1 E1
  clear hel
  have wx : IntKind.i64.wrap (xa + xc) = xa + xc := IntWalk.i64_in _ (by omega)
  rcases hcase with ⟨c1, c2, rfl, rfl⟩ | ⟨c1, rfl, rfl⟩ | ⟨c1, rfl, rfl⟩
  · skip
    go_enter Try.func9, Try.ntmps9
    have q1 := Lib.hid (ePut_b _ l (xa, xb, xc) _ S.out SX.out L_0.out (by omega) OUT FR 0 P1.out P2.out P3.out)
    go_wp2_with fail
    refine q1.out.mono ?_
    rintro e w1 ⟨v1, f1, _, rfl, o1, _, _, p1, b1⟩
    have L_1 := Lib.hid (L_0.out.below (B := 0) b1)
    have X_1 := Lib.hid (X_0.out.below (B := 0) b1)
    have Y1 := Lib.hid (Y0.out.trans (b1.mono Y0.out.size))
    obtain ⟨ad1, c1, rfl⟩ := o1.slice
    obtain ⟨ae1, ce1, rfl⟩ := own_sliceR p1
    have OUT_1 := Lib.hid (OwnExts.at o1)
    have FR_1 := Lib.hid (OwnRuns.at p1)
    clear o1 p1 b1 q1 L_0 X_0 Y0
    have q2 := Lib.hid (efind_b _ OUT place _ SO.out OUT_1.out (by have := LO.out; omega) HPL.out _ n1 _ F1.out)
    go_wp2_with fail
    refine q2.out.mono ?_
    rintro e w2 ⟨rfl, b2⟩
    have L_2 := Lib.hid (L_1.out.below (B := 0) b2)
    have X_2 := Lib.hid (X_1.out.below (B := 0) b2)
    have OUT_2 := Lib.hid (OUT_1.out.below (B := 0) b2)
    have FR_2 := Lib.hid (FR_1.out.below (B := 0) b2)
    have Y2 := Lib.hid (Y1.out.trans (b2.mono Y1.out.size))
    clear b2 q2 L_1 X_1 OUT_1 FR_1 Y1
    have q3 := Lib.hid (efind_b _ l place _ S.out L_2.out (by omega) HPL.out _ n2 _ F2.out)
    go_wp2_with fail
    refine q3.out.mono ?_
    rintro e w3 ⟨rfl, b3⟩
    have L_3 := Lib.hid (L_2.out.below (B := 0) b3)
    have X_3 := Lib.hid (X_2.out.below (B := 0) b3)
    have OUT_3 := Lib.hid (OUT_2.out.below (B := 0) b3)
    have FR_3 := Lib.hid (FR_2.out.below (B := 0) b3)
    have Y3 := Lib.hid (Y2.out.trans (b3.mono Y2.out.size))
    clear b3 q3 L_2 X_2 OUT_2 FR_2 Y2
    have wq1 : IntKind.i64.wrap (xb + place) = xb + place := IntWalk.i64_in _ (by omega)
    have wq2 : IntKind.i64.wrap (xb + place - xa) = xb + place - xa := IntWalk.i64_in _ (by omega)
    obtain ⟨y0, y1, y2⟩ := box_cells X_3.out
    have zX := World.block_lt_of_cell? _ _ y0
    generalize hX : w.heap.size = X at *
    go_upto_region 10 with fail
    have KEEP : Hid (∀ wz, Below w3.heap.size w3 wz → wz.cell? ⟨X, 0, none⟩ = some (.int .i64 xa) ∧ wz.cell? ⟨X, 1, none⟩ = some (.int .i64 xb) ∧ wz.cell? ⟨X, 2, none⟩ = some (.int .i64 xc)) := Lib.hid (fun wz hz => ⟨(hz.cell (p := ⟨X, 0, none⟩) zX).trans y0, (hz.cell (p := ⟨X, 1, none⟩) zX).trans y1, (hz.cell (p := ⟨X, 2, none⟩) zX).trans y2⟩)
    have s0 : Below w3.heap.size w3 w3.drew := (Below.refl _ _).drew
    have s1 : Below w3.heap.size w3 (w3.alloc (.cells #[.int .i64 xb, .int .i64 xc] 32)).drew := (below_box (Below.refl _ _) _).drew
    have hl1 : Hid (RunsAt (w3.alloc (.cells #[.int .i64 xb, .int .i64 xc] 32)).drew (.slice (some ⟨w3.heap.size, 0, none⟩) 1 1) [(xb, xc)]) := Lib.hid (runsAt_lit w3 [(xb, xc)] #[.int .i64 xb, .int .i64 xc] rfl 1)
    have hl2 : Hid (∀ w4 : World, RunsAt (w4.alloc (.cells #[.int .i64 xb, .int .i64 xc] 32)) (.slice (some ⟨w4.heap.size, 0, none⟩) 1 1) [(xb, xc)]) := Lib.hid (fun w4 => runsAt_lit w4 [(xb, xc)] #[.int .i64 xb, .int .i64 xc] rfl 1)
    have qB := Lib.hid (fun wz (hz : Below w3.heap.size w3 wz) => eblocks_any _ l wz S.out (L_3.out.below (B := 0) hz) (by omega))
    have qU := Lib.hid (fun wz va vb (h1 : RunsAt wz va (Exts.blocksR l)) (h2 : RunsAt wz vb [(xb, xc)]) => union_any va vb (Exts.blocksR l) [(xb, xc)] wz (blocks_small l) SR.out h1 h2 (by have := LB.out; omega) (by simp))
    simp only [U0.out] at qU
    go_cut [16] from 89 to 97 (fun pv wx => ∃ (u : Value), u = pv ∧ Hid (RunsAt wx u U) ∧ Hid (Below w3.heap.size w3 wx))
    case first =>
      go_region_held3 (fun w' => w'.cell? ⟨X, 0, none⟩ = some (.int .i64 xa) ∧ w'.cell? ⟨X, 1, none⟩ = some (.int .i64 xb) ∧ w'.cell? ⟨X, 2, none⟩ = some (.int .i64 xc))
        (first | (refine KEEP.out _ ?_; assumption) | (refine KEEP.out _ (below_box ?_ _); assumption))
        (first | (go_at_call 14; first | ((with_reducible refine (qB.out _ s0).mono ?_); rintro e wa ⟨va, rfl, oa, ba⟩; have sa : Below w3.heap.size w3 wa := below_next s0 ba; obtain ⟨aa, ca, rfl⟩ := own_sliceR oa) | ((with_reducible refine (qB.out _ s1).mono ?_); rintro e wa ⟨va, rfl, oa, ba⟩; have sa : Below w3.heap.size w3 wa := below_next s1 ba; obtain ⟨aa, ca, rfl⟩ := own_sliceR oa)) | (go_at_call 34; first | ((with_reducible refine (qU.out _ _ _ (RunsAt.below (B := 0) (OwnRuns.at oa) (below_box (Below.refl _ _) _)) (hl2.out wa)).mono ?_); rintro e wu ⟨vu, rfl, ou, bu⟩; have su : Below w3.heap.size w3 wu := below_next (below_box sa _) bu) | ((with_reducible refine (qU.out _ _ _ (OwnRuns.at oa) (hl1.out.below (B := 0) ba)).mono ?_); rintro e wu ⟨vu, rfl, ou, bu⟩; have su : Below w3.heap.size w3 wu := below_next sa bu)))
      all_goals (go_step; go_step; go_meet; exact ⟨_, rfl, Lib.hid (OwnRuns.at ou), Lib.hid su⟩)
    obtain ⟨u, rfl, RU, SU⟩ := hcut
    obtain ⟨au, cu, rfl⟩ : ∃ ad c, u = .slice ad U.length c := by
      rcases RU.out with ⟨rfl, h⟩ | ⟨b, off, cap, rfl, _⟩
      · exact ⟨_, _, by rw [h]; rfl⟩
      · exact ⟨_, _, rfl⟩
    have L_c := Lib.hid (L_3.out.below (B := 0) SU.out)
    have X_c := Lib.hid (X_3.out.below (B := 0) SU.out)
    have OUT_c := Lib.hid (OUT_3.out.below (B := 0) SU.out)
    have FR_c := Lib.hid (FR_3.out.below (B := 0) SU.out)
    have YC := Lib.hid (Y3.out.trans (SU.out.mono (by have := Y3.out.size; omega)))
    clear qB qU hl1 hl2 s0 s1 KEEP y0 y1 y2 zX
    rename_i wq
    obtain ⟨y0, y1, y2⟩ := box_cells X_c.out
    have zX := World.block_lt_of_cell? _ _ y0
    have KEEP : Hid (∀ wz, Below wc.heap.size wc wz → wz.cell? ⟨X, 0, none⟩ = some (.int .i64 xa) ∧ wz.cell? ⟨X, 1, none⟩ = some (.int .i64 xb) ∧ wz.cell? ⟨X, 2, none⟩ = some (.int .i64 xc)) := Lib.hid (fun wz hz => ⟨(hz.cell (p := ⟨X, 0, none⟩) zX).trans y0, (hz.cell (p := ⟨X, 1, none⟩) zX).trans y1, (hz.cell (p := ⟨X, 2, none⟩) zX).trans y2⟩)
    have s0 : Below wc.heap.size wc wc.drew := (Below.refl _ _).drew
    have qC := Lib.hid (fun wz (hz : Below wc.heap.size wc wz) => echeck_any _ OUT wz SO.out (OUT_c.out.below (B := 0) hz) (by have := LO.out; omega))
    simp only [KO.out] at qC
    have qB := Lib.hid (fun wz (hz : Below wc.heap.size wc wz) => eblocks_any _ OUT wz SO.out (OUT_c.out.below (B := 0) hz) (by have := LO.out; omega))
    have qU := Lib.hid (fun wz va (hz : Below wc.heap.size wc wz) (h1 : RunsAt wz va (Exts.blocksR OUT)) => union_any va _ (Exts.blocksR OUT) FR wz (blocks_small OUT) SF.out h1 (FR_c.out.below (B := 0) hz) (by have := LBO.out; have := LO.out; omega) (by have := LF.out; omega))
    simp only [U1.out] at qU
    have qS := Lib.hid (fun wz va (hz : Below wc.heap.size wc wz) (h1 : RunsAt wz va U) => same_b wz va _ U U h1 (RU.out.below (B := 0) hz) (by have := LU.out; omega) (by have := LU.out; omega) true (by simp))
    have qM := Lib.hid (fun wz va (hz : Below wc.heap.size wc wz) (h1 : RunsAt wz va (Exts.blocksR OUT)) => meet_any va _ (Exts.blocksR OUT) FR wz (blocks_small OUT) SF.out h1 (FR_c.out.below (B := 0) hz) (by have := LBO.out; have := LO.out; omega) (by have := LF.out; omega))
    simp only [M1.out] at qM
    have qE := Lib.hid (fun wz (hz : Below wc.heap.size wc wz) => eEnd_any _ OUT wz SO.out (OUT_c.out.below (B := 0) hz) (by have := LO.out; omega))
    simp only [E1.out] at qE
    have qF := Lib.hid (fun wz (hz : Below wc.heap.size wc wz) => eEnd_b _ l wz el S.out (L_c.out.below (B := 0) hz) (by omega) HEL.out)
    go_upto_region 11 with fail
    go_region_held3 (fun w' => w'.cell? ⟨X, 0, none⟩ = some (.int .i64 xa) ∧ w'.cell? ⟨X, 1, none⟩ = some (.int .i64 xb) ∧ w'.cell? ⟨X, 2, none⟩ = some (.int .i64 xc))
      (first | (refine KEEP.out _ ?_; assumption) | (refine KEEP.out _ (below_box ?_ _); assumption))
      (first | (go_at_call 16; (with_reducible refine (qC.out _ s0).mono ?_); rintro e wa ⟨rfl, ba⟩; have sa : Below wc.heap.size wc wa := below_next s0 ba) | (go_at_call 14; first | ((with_reducible refine (qB.out _ sa).mono ?_); rintro e wb ⟨vb, rfl, ob, bb⟩; have sb : Below wc.heap.size wc wb := below_next sa bb) | ((with_reducible refine (qB.out _ sd).mono ?_); rintro e we ⟨ve, rfl, oe, be⟩; have se : Below wc.heap.size wc we := below_next sd be)) | (go_at_call 34; (with_reducible refine (qU.out _ _ sb (OwnRuns.at ob)).mono ?_); rintro e wu ⟨vu, rfl, ou, bu⟩; have su : Below wc.heap.size wc wu := below_next sb bu) | (go_at_call 18; (with_reducible refine (qS.out _ _ su (OwnRuns.at ou)).mono ?_); rintro e wd ⟨rfl, bd⟩; have sd : Below wc.heap.size wc wd := below_next su bd) | (go_at_call 35; (with_reducible refine (qM.out _ _ se (OwnRuns.at oe)).mono ?_); rintro e wm ⟨vm, rfl, om, bm⟩; have sm : Below wc.heap.size wc wm := below_next se bm; obtain ⟨am, cm, rfl⟩ := own_sliceR om) | (go_at_call 19; first | ((with_reducible refine (qE.out _ sm).mono ?_); rintro e wg ⟨rfl, bg⟩; have sg : Below wc.heap.size wc wg := below_next sm bg) | ((with_reducible refine (qF.out _ sg).mono ?_); rintro e wh ⟨rfl, bh⟩; have sh : Below wc.heap.size wc wh := below_next sg bh)) | (go_at_call 24; (with_reducible refine (ealive_any _).mono ?_); rintro e wi ⟨rfl, bi⟩; have si : Below wc.heap.size wc wi := below_next sh bi))
    have YF := Lib.hid (YC.out.trans (si.mono (by have := YC.out.size; omega)))
    clear sa sb su sd se sm sg sh si ba bb bu bd be bm bg bh bi ob ou oe om qC qB qU qS qM qE qF
    go_wp2_with fail
    go_ret
    exact ⟨rfl, by rw [hX]; exact YF.out⟩
  · skip
    go_enter Try.func9, Try.ntmps9
    have q1 := Lib.hid (ePut_b _ l (xa, xb, xc) _ S.out SX.out L_0.out (by omega) OUT FR 0 P1.out P2.out P3.out)
    go_wp2_with fail
    refine q1.out.mono ?_
    rintro e w1 ⟨v1, f1, _, rfl, o1, _, _, p1, b1⟩
    have L_1 := Lib.hid (L_0.out.below (B := 0) b1)
    have X_1 := Lib.hid (X_0.out.below (B := 0) b1)
    have Y1 := Lib.hid (Y0.out.trans (b1.mono Y0.out.size))
    obtain ⟨ad1, c1, rfl⟩ := o1.slice
    obtain ⟨ae1, ce1, rfl⟩ := own_sliceR p1
    have OUT_1 := Lib.hid (OwnExts.at o1)
    have FR_1 := Lib.hid (OwnRuns.at p1)
    clear o1 p1 b1 q1 L_0 X_0 Y0
    have q2 := Lib.hid (efind_b _ OUT place _ SO.out OUT_1.out (by have := LO.out; omega) HPL.out _ n1 _ F1.out)
    go_wp2_with fail
    refine q2.out.mono ?_
    rintro e w2 ⟨rfl, b2⟩
    have L_2 := Lib.hid (L_1.out.below (B := 0) b2)
    have X_2 := Lib.hid (X_1.out.below (B := 0) b2)
    have OUT_2 := Lib.hid (OUT_1.out.below (B := 0) b2)
    have FR_2 := Lib.hid (FR_1.out.below (B := 0) b2)
    have Y2 := Lib.hid (Y1.out.trans (b2.mono Y1.out.size))
    clear b2 q2 L_1 X_1 OUT_1 FR_1 Y1
    have q3 := Lib.hid (efind_b _ l place _ S.out L_2.out (by omega) HPL.out _ n2 _ F2.out)
    go_wp2_with fail
    refine q3.out.mono ?_
    rintro e w3 ⟨rfl, b3⟩
    have L_3 := Lib.hid (L_2.out.below (B := 0) b3)
    have X_3 := Lib.hid (X_2.out.below (B := 0) b3)
    have OUT_3 := Lib.hid (OUT_2.out.below (B := 0) b3)
    have FR_3 := Lib.hid (FR_2.out.below (B := 0) b3)
    have Y3 := Lib.hid (Y2.out.trans (b3.mono Y2.out.size))
    clear b3 q3 L_2 X_2 OUT_2 FR_2 Y2
    obtain ⟨y0, y1, y2⟩ := box_cells X_3.out
    have zX := World.block_lt_of_cell? _ _ y0
    generalize hX : w.heap.size = X at *
    go_upto_region 10 with fail
    have KEEP : Hid (∀ wz, Below w3.heap.size w3 wz → wz.cell? ⟨X, 0, none⟩ = some (.int .i64 xa) ∧ wz.cell? ⟨X, 1, none⟩ = some (.int .i64 xb) ∧ wz.cell? ⟨X, 2, none⟩ = some (.int .i64 xc)) := Lib.hid (fun wz hz => ⟨(hz.cell (p := ⟨X, 0, none⟩) zX).trans y0, (hz.cell (p := ⟨X, 1, none⟩) zX).trans y1, (hz.cell (p := ⟨X, 2, none⟩) zX).trans y2⟩)
    have s0 : Below w3.heap.size w3 w3.drew := (Below.refl _ _).drew
    have s1 : Below w3.heap.size w3 (w3.alloc (.cells #[.int .i64 xb, .int .i64 xc] 32)).drew := (below_box (Below.refl _ _) _).drew
    have hl1 : Hid (RunsAt (w3.alloc (.cells #[.int .i64 xb, .int .i64 xc] 32)).drew (.slice (some ⟨w3.heap.size, 0, none⟩) 1 1) [(xb, xc)]) := Lib.hid (runsAt_lit w3 [(xb, xc)] #[.int .i64 xb, .int .i64 xc] rfl 1)
    have hl2 : Hid (∀ w4 : World, RunsAt (w4.alloc (.cells #[.int .i64 xb, .int .i64 xc] 32)) (.slice (some ⟨w4.heap.size, 0, none⟩) 1 1) [(xb, xc)]) := Lib.hid (fun w4 => runsAt_lit w4 [(xb, xc)] #[.int .i64 xb, .int .i64 xc] rfl 1)
    have qB := Lib.hid (fun wz (hz : Below w3.heap.size w3 wz) => eblocks_any _ l wz S.out (L_3.out.below (B := 0) hz) (by omega))
    have qU := Lib.hid (fun wz va vb (h1 : RunsAt wz va (Exts.blocksR l)) (h2 : RunsAt wz vb [(xb, xc)]) => union_any va vb (Exts.blocksR l) [(xb, xc)] wz (blocks_small l) SR.out h1 h2 (by have := LB.out; omega) (by simp))
    simp only [U0.out] at qU
    go_cut [16] from 89 to 97 (fun pv wx => ∃ (u : Value), u = pv ∧ Hid (RunsAt wx u U) ∧ Hid (Below w3.heap.size w3 wx))
    case first =>
      go_region_held3 (fun w' => w'.cell? ⟨X, 0, none⟩ = some (.int .i64 xa) ∧ w'.cell? ⟨X, 1, none⟩ = some (.int .i64 xb) ∧ w'.cell? ⟨X, 2, none⟩ = some (.int .i64 xc))
        (first | (refine KEEP.out _ ?_; assumption) | (refine KEEP.out _ (below_box ?_ _); assumption))
        (first | (go_at_call 14; first | ((with_reducible refine (qB.out _ s0).mono ?_); rintro e wa ⟨va, rfl, oa, ba⟩; have sa : Below w3.heap.size w3 wa := below_next s0 ba; obtain ⟨aa, ca, rfl⟩ := own_sliceR oa) | ((with_reducible refine (qB.out _ s1).mono ?_); rintro e wa ⟨va, rfl, oa, ba⟩; have sa : Below w3.heap.size w3 wa := below_next s1 ba; obtain ⟨aa, ca, rfl⟩ := own_sliceR oa)) | (go_at_call 34; first | ((with_reducible refine (qU.out _ _ _ (RunsAt.below (B := 0) (OwnRuns.at oa) (below_box (Below.refl _ _) _)) (hl2.out wa)).mono ?_); rintro e wu ⟨vu, rfl, ou, bu⟩; have su : Below w3.heap.size w3 wu := below_next (below_box sa _) bu) | ((with_reducible refine (qU.out _ _ _ (OwnRuns.at oa) (hl1.out.below (B := 0) ba)).mono ?_); rintro e wu ⟨vu, rfl, ou, bu⟩; have su : Below w3.heap.size w3 wu := below_next sa bu)))
      all_goals (go_step; go_step; go_meet; exact ⟨_, rfl, Lib.hid (OwnRuns.at ou), Lib.hid su⟩)
    obtain ⟨u, rfl, RU, SU⟩ := hcut
    obtain ⟨au, cu, rfl⟩ : ∃ ad c, u = .slice ad U.length c := by
      rcases RU.out with ⟨rfl, h⟩ | ⟨b, off, cap, rfl, _⟩
      · exact ⟨_, _, by rw [h]; rfl⟩
      · exact ⟨_, _, rfl⟩
    have L_c := Lib.hid (L_3.out.below (B := 0) SU.out)
    have X_c := Lib.hid (X_3.out.below (B := 0) SU.out)
    have OUT_c := Lib.hid (OUT_3.out.below (B := 0) SU.out)
    have FR_c := Lib.hid (FR_3.out.below (B := 0) SU.out)
    have YC := Lib.hid (Y3.out.trans (SU.out.mono (by have := Y3.out.size; omega)))
    clear qB qU hl1 hl2 s0 s1 KEEP y0 y1 y2 zX
    rename_i wq
    obtain ⟨y0, y1, y2⟩ := box_cells X_c.out
    have zX := World.block_lt_of_cell? _ _ y0
    have KEEP : Hid (∀ wz, Below wc.heap.size wc wz → wz.cell? ⟨X, 0, none⟩ = some (.int .i64 xa) ∧ wz.cell? ⟨X, 1, none⟩ = some (.int .i64 xb) ∧ wz.cell? ⟨X, 2, none⟩ = some (.int .i64 xc)) := Lib.hid (fun wz hz => ⟨(hz.cell (p := ⟨X, 0, none⟩) zX).trans y0, (hz.cell (p := ⟨X, 1, none⟩) zX).trans y1, (hz.cell (p := ⟨X, 2, none⟩) zX).trans y2⟩)
    have s0 : Below wc.heap.size wc wc.drew := (Below.refl _ _).drew
    have qC := Lib.hid (fun wz (hz : Below wc.heap.size wc wz) => echeck_any _ OUT wz SO.out (OUT_c.out.below (B := 0) hz) (by have := LO.out; omega))
    simp only [KO.out] at qC
    have qB := Lib.hid (fun wz (hz : Below wc.heap.size wc wz) => eblocks_any _ OUT wz SO.out (OUT_c.out.below (B := 0) hz) (by have := LO.out; omega))
    have qU := Lib.hid (fun wz va (hz : Below wc.heap.size wc wz) (h1 : RunsAt wz va (Exts.blocksR OUT)) => union_any va _ (Exts.blocksR OUT) FR wz (blocks_small OUT) SF.out h1 (FR_c.out.below (B := 0) hz) (by have := LBO.out; have := LO.out; omega) (by have := LF.out; omega))
    simp only [U1.out] at qU
    have qS := Lib.hid (fun wz va (hz : Below wc.heap.size wc wz) (h1 : RunsAt wz va U) => same_b wz va _ U U h1 (RU.out.below (B := 0) hz) (by have := LU.out; omega) (by have := LU.out; omega) true (by simp))
    have qM := Lib.hid (fun wz va (hz : Below wc.heap.size wc wz) (h1 : RunsAt wz va (Exts.blocksR OUT)) => meet_any va _ (Exts.blocksR OUT) FR wz (blocks_small OUT) SF.out h1 (FR_c.out.below (B := 0) hz) (by have := LBO.out; have := LO.out; omega) (by have := LF.out; omega))
    simp only [M1.out] at qM
    have qE := Lib.hid (fun wz (hz : Below wc.heap.size wc wz) => eEnd_any _ OUT wz SO.out (OUT_c.out.below (B := 0) hz) (by have := LO.out; omega))
    simp only [E1.out] at qE
    have qF := Lib.hid (fun wz (hz : Below wc.heap.size wc wz) => eEnd_b _ l wz el S.out (L_c.out.below (B := 0) hz) (by omega) HEL.out)
    go_upto_region 11 with fail
    go_region_held3 (fun w' => w'.cell? ⟨X, 0, none⟩ = some (.int .i64 xa) ∧ w'.cell? ⟨X, 1, none⟩ = some (.int .i64 xb) ∧ w'.cell? ⟨X, 2, none⟩ = some (.int .i64 xc))
      (first | (refine KEEP.out _ ?_; assumption) | (refine KEEP.out _ (below_box ?_ _); assumption))
      (first | (go_at_call 16; (with_reducible refine (qC.out _ s0).mono ?_); rintro e wa ⟨rfl, ba⟩; have sa : Below wc.heap.size wc wa := below_next s0 ba) | (go_at_call 14; first | ((with_reducible refine (qB.out _ sa).mono ?_); rintro e wb ⟨vb, rfl, ob, bb⟩; have sb : Below wc.heap.size wc wb := below_next sa bb) | ((with_reducible refine (qB.out _ sd).mono ?_); rintro e we ⟨ve, rfl, oe, be⟩; have se : Below wc.heap.size wc we := below_next sd be)) | (go_at_call 34; (with_reducible refine (qU.out _ _ sb (OwnRuns.at ob)).mono ?_); rintro e wu ⟨vu, rfl, ou, bu⟩; have su : Below wc.heap.size wc wu := below_next sb bu) | (go_at_call 18; (with_reducible refine (qS.out _ _ su (OwnRuns.at ou)).mono ?_); rintro e wd ⟨rfl, bd⟩; have sd : Below wc.heap.size wc wd := below_next su bd) | (go_at_call 35; (with_reducible refine (qM.out _ _ se (OwnRuns.at oe)).mono ?_); rintro e wm ⟨vm, rfl, om, bm⟩; have sm : Below wc.heap.size wc wm := below_next se bm; obtain ⟨am, cm, rfl⟩ := own_sliceR om) | (go_at_call 19; first | ((with_reducible refine (qE.out _ sm).mono ?_); rintro e wg ⟨rfl, bg⟩; have sg : Below wc.heap.size wc wg := below_next sm bg) | ((with_reducible refine (qF.out _ sg).mono ?_); rintro e wh ⟨rfl, bh⟩; have sh : Below wc.heap.size wc wh := below_next sg bh)) | (go_at_call 24; (with_reducible refine (ealive_any _).mono ?_); rintro e wi ⟨rfl, bi⟩; have si : Below wc.heap.size wc wi := below_next sh bi))
    have YF := Lib.hid (YC.out.trans (si.mono (by have := YC.out.size; omega)))
    clear sa sb su sd se sm sg sh si ba bb bu bd be bm bg bh bi ob ou oe om qC qB qU qS qM qE qF
    go_wp2_with fail
    go_ret
    exact ⟨rfl, by rw [hX]; exact YF.out⟩
  · have c2 : xa ≤ place := by omega
    have c3 : ¬ place < xa + xc := by omega
    go_enter Try.func9, Try.ntmps9
    have q1 := Lib.hid (ePut_b _ l (xa, xb, xc) _ S.out SX.out L_0.out (by omega) OUT FR 0 P1.out P2.out P3.out)
    go_wp2_with fail
    refine q1.out.mono ?_
    rintro e w1 ⟨v1, f1, _, rfl, o1, _, _, p1, b1⟩
    have L_1 := Lib.hid (L_0.out.below (B := 0) b1)
    have X_1 := Lib.hid (X_0.out.below (B := 0) b1)
    have Y1 := Lib.hid (Y0.out.trans (b1.mono Y0.out.size))
    obtain ⟨ad1, c1, rfl⟩ := o1.slice
    obtain ⟨ae1, ce1, rfl⟩ := own_sliceR p1
    have OUT_1 := Lib.hid (OwnExts.at o1)
    have FR_1 := Lib.hid (OwnRuns.at p1)
    clear o1 p1 b1 q1 L_0 X_0 Y0
    have q2 := Lib.hid (efind_b _ OUT place _ SO.out OUT_1.out (by have := LO.out; omega) HPL.out _ n1 _ F1.out)
    go_wp2_with fail
    refine q2.out.mono ?_
    rintro e w2 ⟨rfl, b2⟩
    have L_2 := Lib.hid (L_1.out.below (B := 0) b2)
    have X_2 := Lib.hid (X_1.out.below (B := 0) b2)
    have OUT_2 := Lib.hid (OUT_1.out.below (B := 0) b2)
    have FR_2 := Lib.hid (FR_1.out.below (B := 0) b2)
    have Y2 := Lib.hid (Y1.out.trans (b2.mono Y1.out.size))
    clear b2 q2 L_1 X_1 OUT_1 FR_1 Y1
    have q3 := Lib.hid (efind_b _ l place _ S.out L_2.out (by omega) HPL.out _ n2 _ F2.out)
    go_wp2_with fail
    refine q3.out.mono ?_
    rintro e w3 ⟨rfl, b3⟩
    have L_3 := Lib.hid (L_2.out.below (B := 0) b3)
    have X_3 := Lib.hid (X_2.out.below (B := 0) b3)
    have OUT_3 := Lib.hid (OUT_2.out.below (B := 0) b3)
    have FR_3 := Lib.hid (FR_2.out.below (B := 0) b3)
    have Y3 := Lib.hid (Y2.out.trans (b3.mono Y2.out.size))
    clear b3 q3 L_2 X_2 OUT_2 FR_2 Y2
    obtain ⟨y0, y1, y2⟩ := box_cells X_3.out
    have zX := World.block_lt_of_cell? _ _ y0
    generalize hX : w.heap.size = X at *
    go_upto_region 10 with fail
    have KEEP : Hid (∀ wz, Below w3.heap.size w3 wz → wz.cell? ⟨X, 0, none⟩ = some (.int .i64 xa) ∧ wz.cell? ⟨X, 1, none⟩ = some (.int .i64 xb) ∧ wz.cell? ⟨X, 2, none⟩ = some (.int .i64 xc)) := Lib.hid (fun wz hz => ⟨(hz.cell (p := ⟨X, 0, none⟩) zX).trans y0, (hz.cell (p := ⟨X, 1, none⟩) zX).trans y1, (hz.cell (p := ⟨X, 2, none⟩) zX).trans y2⟩)
    have s0 : Below w3.heap.size w3 w3.drew := (Below.refl _ _).drew
    have s1 : Below w3.heap.size w3 (w3.alloc (.cells #[.int .i64 xb, .int .i64 xc] 32)).drew := (below_box (Below.refl _ _) _).drew
    have hl1 : Hid (RunsAt (w3.alloc (.cells #[.int .i64 xb, .int .i64 xc] 32)).drew (.slice (some ⟨w3.heap.size, 0, none⟩) 1 1) [(xb, xc)]) := Lib.hid (runsAt_lit w3 [(xb, xc)] #[.int .i64 xb, .int .i64 xc] rfl 1)
    have hl2 : Hid (∀ w4 : World, RunsAt (w4.alloc (.cells #[.int .i64 xb, .int .i64 xc] 32)) (.slice (some ⟨w4.heap.size, 0, none⟩) 1 1) [(xb, xc)]) := Lib.hid (fun w4 => runsAt_lit w4 [(xb, xc)] #[.int .i64 xb, .int .i64 xc] rfl 1)
    have qB := Lib.hid (fun wz (hz : Below w3.heap.size w3 wz) => eblocks_any _ l wz S.out (L_3.out.below (B := 0) hz) (by omega))
    have qU := Lib.hid (fun wz va vb (h1 : RunsAt wz va (Exts.blocksR l)) (h2 : RunsAt wz vb [(xb, xc)]) => union_any va vb (Exts.blocksR l) [(xb, xc)] wz (blocks_small l) SR.out h1 h2 (by have := LB.out; omega) (by simp))
    simp only [U0.out] at qU
    go_cut [16] from 89 to 97 (fun pv wx => ∃ (u : Value), u = pv ∧ Hid (RunsAt wx u U) ∧ Hid (Below w3.heap.size w3 wx))
    case first =>
      go_region_held3 (fun w' => w'.cell? ⟨X, 0, none⟩ = some (.int .i64 xa) ∧ w'.cell? ⟨X, 1, none⟩ = some (.int .i64 xb) ∧ w'.cell? ⟨X, 2, none⟩ = some (.int .i64 xc))
        (first | (refine KEEP.out _ ?_; assumption) | (refine KEEP.out _ (below_box ?_ _); assumption))
        (first | (go_at_call 14; first | ((with_reducible refine (qB.out _ s0).mono ?_); rintro e wa ⟨va, rfl, oa, ba⟩; have sa : Below w3.heap.size w3 wa := below_next s0 ba; obtain ⟨aa, ca, rfl⟩ := own_sliceR oa) | ((with_reducible refine (qB.out _ s1).mono ?_); rintro e wa ⟨va, rfl, oa, ba⟩; have sa : Below w3.heap.size w3 wa := below_next s1 ba; obtain ⟨aa, ca, rfl⟩ := own_sliceR oa)) | (go_at_call 34; first | ((with_reducible refine (qU.out _ _ _ (RunsAt.below (B := 0) (OwnRuns.at oa) (below_box (Below.refl _ _) _)) (hl2.out wa)).mono ?_); rintro e wu ⟨vu, rfl, ou, bu⟩; have su : Below w3.heap.size w3 wu := below_next (below_box sa _) bu) | ((with_reducible refine (qU.out _ _ _ (OwnRuns.at oa) (hl1.out.below (B := 0) ba)).mono ?_); rintro e wu ⟨vu, rfl, ou, bu⟩; have su : Below w3.heap.size w3 wu := below_next sa bu)))
      all_goals (go_step; go_step; go_meet; exact ⟨_, rfl, Lib.hid (OwnRuns.at ou), Lib.hid su⟩)
    obtain ⟨u, rfl, RU, SU⟩ := hcut
    obtain ⟨au, cu, rfl⟩ : ∃ ad c, u = .slice ad U.length c := by
      rcases RU.out with ⟨rfl, h⟩ | ⟨b, off, cap, rfl, _⟩
      · exact ⟨_, _, by rw [h]; rfl⟩
      · exact ⟨_, _, rfl⟩
    have L_c := Lib.hid (L_3.out.below (B := 0) SU.out)
    have X_c := Lib.hid (X_3.out.below (B := 0) SU.out)
    have OUT_c := Lib.hid (OUT_3.out.below (B := 0) SU.out)
    have FR_c := Lib.hid (FR_3.out.below (B := 0) SU.out)
    have YC := Lib.hid (Y3.out.trans (SU.out.mono (by have := Y3.out.size; omega)))
    clear qB qU hl1 hl2 s0 s1 KEEP y0 y1 y2 zX
    rename_i wq
    obtain ⟨y0, y1, y2⟩ := box_cells X_c.out
    have zX := World.block_lt_of_cell? _ _ y0
    have KEEP : Hid (∀ wz, Below wc.heap.size wc wz → wz.cell? ⟨X, 0, none⟩ = some (.int .i64 xa) ∧ wz.cell? ⟨X, 1, none⟩ = some (.int .i64 xb) ∧ wz.cell? ⟨X, 2, none⟩ = some (.int .i64 xc)) := Lib.hid (fun wz hz => ⟨(hz.cell (p := ⟨X, 0, none⟩) zX).trans y0, (hz.cell (p := ⟨X, 1, none⟩) zX).trans y1, (hz.cell (p := ⟨X, 2, none⟩) zX).trans y2⟩)
    have s0 : Below wc.heap.size wc wc.drew := (Below.refl _ _).drew
    have qC := Lib.hid (fun wz (hz : Below wc.heap.size wc wz) => echeck_any _ OUT wz SO.out (OUT_c.out.below (B := 0) hz) (by have := LO.out; omega))
    simp only [KO.out] at qC
    have qB := Lib.hid (fun wz (hz : Below wc.heap.size wc wz) => eblocks_any _ OUT wz SO.out (OUT_c.out.below (B := 0) hz) (by have := LO.out; omega))
    have qU := Lib.hid (fun wz va (hz : Below wc.heap.size wc wz) (h1 : RunsAt wz va (Exts.blocksR OUT)) => union_any va _ (Exts.blocksR OUT) FR wz (blocks_small OUT) SF.out h1 (FR_c.out.below (B := 0) hz) (by have := LBO.out; have := LO.out; omega) (by have := LF.out; omega))
    simp only [U1.out] at qU
    have qS := Lib.hid (fun wz va (hz : Below wc.heap.size wc wz) (h1 : RunsAt wz va U) => same_b wz va _ U U h1 (RU.out.below (B := 0) hz) (by have := LU.out; omega) (by have := LU.out; omega) true (by simp))
    have qM := Lib.hid (fun wz va (hz : Below wc.heap.size wc wz) (h1 : RunsAt wz va (Exts.blocksR OUT)) => meet_any va _ (Exts.blocksR OUT) FR wz (blocks_small OUT) SF.out h1 (FR_c.out.below (B := 0) hz) (by have := LBO.out; have := LO.out; omega) (by have := LF.out; omega))
    simp only [M1.out] at qM
    have qE := Lib.hid (fun wz (hz : Below wc.heap.size wc wz) => eEnd_any _ OUT wz SO.out (OUT_c.out.below (B := 0) hz) (by have := LO.out; omega))
    simp only [E1.out] at qE
    have qF := Lib.hid (fun wz (hz : Below wc.heap.size wc wz) => eEnd_b _ l wz el S.out (L_c.out.below (B := 0) hz) (by omega) HEL.out)
    go_upto_region 11 with fail
    go_region_held3 (fun w' => w'.cell? ⟨X, 0, none⟩ = some (.int .i64 xa) ∧ w'.cell? ⟨X, 1, none⟩ = some (.int .i64 xb) ∧ w'.cell? ⟨X, 2, none⟩ = some (.int .i64 xc))
      (first | (refine KEEP.out _ ?_; assumption) | (refine KEEP.out _ (below_box ?_ _); assumption))
      (first | (go_at_call 16; (with_reducible refine (qC.out _ s0).mono ?_); rintro e wa ⟨rfl, ba⟩; have sa : Below wc.heap.size wc wa := below_next s0 ba) | (go_at_call 14; first | ((with_reducible refine (qB.out _ sa).mono ?_); rintro e wb ⟨vb, rfl, ob, bb⟩; have sb : Below wc.heap.size wc wb := below_next sa bb) | ((with_reducible refine (qB.out _ sd).mono ?_); rintro e we ⟨ve, rfl, oe, be⟩; have se : Below wc.heap.size wc we := below_next sd be)) | (go_at_call 34; (with_reducible refine (qU.out _ _ sb (OwnRuns.at ob)).mono ?_); rintro e wu ⟨vu, rfl, ou, bu⟩; have su : Below wc.heap.size wc wu := below_next sb bu) | (go_at_call 18; (with_reducible refine (qS.out _ _ su (OwnRuns.at ou)).mono ?_); rintro e wd ⟨rfl, bd⟩; have sd : Below wc.heap.size wc wd := below_next su bd) | (go_at_call 35; (with_reducible refine (qM.out _ _ se (OwnRuns.at oe)).mono ?_); rintro e wm ⟨vm, rfl, om, bm⟩; have sm : Below wc.heap.size wc wm := below_next se bm; obtain ⟨am, cm, rfl⟩ := own_sliceR om) | (go_at_call 19; first | ((with_reducible refine (qE.out _ sm).mono ?_); rintro e wg ⟨rfl, bg⟩; have sg : Below wc.heap.size wc wg := below_next sm bg) | ((with_reducible refine (qF.out _ sg).mono ?_); rintro e wh ⟨rfl, bh⟩; have sh : Below wc.heap.size wc wh := below_next sg bh)) | (go_at_call 24; (with_reducible refine (ealive_any _).mono ?_); rintro e wi ⟨rfl, bi⟩; have si : Below wc.heap.size wc wi := below_next sh bi))
    have YF := Lib.hid (YC.out.trans (si.mono (by have := YC.out.size; omega)))
    clear sa sb su sd se sm sg sh si ba bb bu bd be bm bg bh bi ob ou oe om qC qB qU qS qM qE qF
    go_wp2_with fail
    go_ret
    exact ⟨rfl, by rw [hX]; exact YF.out⟩

end Go.Proofs.Ytgpjldmndibalaa
