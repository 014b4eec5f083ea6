/- ExtsBack's walk. -/
import Derived.Test.YtgpjldmndibalaaExtsBackMath
import Derived.Test.YtgpjldmndibalaaExtsRead
namespace Go.Proofs.Ytgpjldmndibalaa
open Go Go.RowKit

theorem back_step {l : EL} (hl : Exts.Row l) (k j q : Nat) (hk : k < l.length) (hj : j < l.length) (hq : q = (j + k) % l.length) :
    Exts.putOut (Exts.backR l k j) (l.getD q (0, 0, 0)) = Exts.backR l k (j + 1) ∧ Exts.putE (Exts.backR l k j) (l.getD q (0, 0, 0)) = 0 := by
  have hql : q < l.length := by rw [hq]; exact Nat.mod_lt _ (by omega)
  obtain ⟨p1, _, p3⟩ := put_yes (Exts.check_row.2 (Exts.back_row hl k j hk (by omega))) (Exts.row_at hl hql)
  rw [Exts.back_put hl k j q hk hj hq] at p1
  exact ⟨p1, p3⟩
theorem self_step {l : EL} (hl : Exts.Row l) (i : Nat) (hi : i < l.length) :
    Exts.putOut l (l.getD i (0, 0, 0)) = l ∧ Exts.putFr l (l.getD i (0, 0, 0)) = [] ∧ Exts.putE l (l.getD i (0, 0, 0)) = 0 := by
  obtain ⟨p1, p2, p3⟩ := put_yes (Exts.check_row.2 hl) (Exts.row_at hl hi)
  rw [Exts.back_self hl i hi] at p1 p2
  refine ⟨p1, ?_, p3⟩
  rw [p2]
  exact Exts.minus_self _
theorem small_at {l : EL} (hl : Exts.Row l) {i : Nat} (hi : i < l.length) : SmallE (l.getD i (0, 0, 0)) := (SmallsE.row hl).at i hi

set_option maxRecDepth 100000 in
set_option maxHeartbeats 2000000 in
theorem back_easy {w : World} (ad : Option Addr) (cap : Nat) (l : EL) (fr : Int) (hl : ExtsAt w (.slice ad l.length cap) l) (hs : SmallsE l) (hlen : l.length ≤ 1000000000) (hc : 60 < l.length ∨ Exts.okTo l l.length = false ∨ l.length = 0) :
    Calls Try.prog 7 #[.slice ad l.length cap, .int .i64 fr] w fun e w' => e = .returned (.bool true) ∧ Below w.heap.size w w' := by
  have q := Lib.hid (echeck_any _ l w hs hl hlen)
  by_cases h1 : (60 : Int) < (l.length : Int)
  · have qa := Lib.hid (ealive_any w)
    clear hl hs hc q
    go_enter Try.func7, Try.ntmps7
    go_wp2_with fail
    refine qa.out.mono ?_
    rintro e w1 ⟨rfl, b1⟩
    have B1 := Lib.hid b1
    clear b1 qa
    go_wp2_with fail
    go_ret
    exact ⟨rfl, B1.out⟩
  · cases hok : Exts.okTo l l.length
    · rw [hok] at q
      clear hl hs hc hok
      go_enter Try.func7, Try.ntmps7
      go_wp2_with fail
      refine q.out.mono ?_
      rintro e w1 ⟨rfl, b1⟩
      have B1 := Lib.hid b1
      have qa := Lib.hid (ealive_any w1)
      clear b1 q
      go_wp2_with fail
      refine qa.out.mono ?_
      rintro e w2 ⟨rfl, b2⟩
      have B2 := Lib.hid (B1.out.trans (b2.mono B1.out.size))
      clear b2 qa
      go_wp2_with fail
      go_ret
      exact ⟨rfl, B2.out⟩
    · have h0 : l.length = 0 := by
        rcases hc with h | h | h
        · omega
        · rw [hok] at h; cases h
        · exact h
      have hb : ((l.length : Int) == 0) = true := by simp [h0]
      rw [hok] at q
      clear hl hs hc hok h0
      go_enter Try.func7, Try.ntmps7
      go_wp2_with fail
      refine q.out.mono ?_
      rintro e w1 ⟨rfl, b1⟩
      have B1 := Lib.hid b1
      have qa := Lib.hid (ealive_any w1)
      clear b1 q
      go_wp2_with fail
      refine qa.out.mono ?_
      rintro e w2 ⟨rfl, b2⟩
      have B2 := Lib.hid (B1.out.trans (b2.mono B1.out.size))
      clear b2 qa
      go_wp2_with fail
      go_ret
      exact ⟨rfl, B2.out⟩

set_option maxRecDepth 100000 in
set_option maxHeartbeats 8000000 in
theorem back_go {w : World} (ad : Option Addr) (cap : Nat) (l : EL) (fr : Int) (hfr : -9223372036854775808 ≤ fr ∧ fr ≤ 9223372036854775807) (hl : ExtsAt w (.slice ad l.length cap) l) (hlen : (l.length : Int) ≤ 60) (hr : Exts.Row l) (hpos : 0 < l.length) :
    Calls Try.prog 7 #[.slice ad l.length cap, .int .i64 fr] w fun e w' => e = .returned (.bool true) ∧ Below w.heap.size w w' := by
  have q := Lib.hid (echeck_any _ l w (SmallsE.row hr) hl (by omega))
  rw [Exts.check_row.2 hr] at q
  have hb : ((l.length : Int) == 0) = false := by rw [beq_eq_false_iff_ne]; omega
  have L_0 := Lib.hid hl
  have HR := Lib.hid hr
  have nb : ¬ 60 < (l.length : Int) := by omega
  have hr1 := Int.tmod_lt_of_pos fr (show (0 : Int) < (l.length : Int) by omega)
  have hr2 : -(l.length : Int) < fr.tmod (l.length : Int) := Int.lt_tmod_of_pos fr (by omega)
  obtain ⟨k, hk, hkc⟩ : ∃ k : Nat, k < l.length ∧ ((0 ≤ fr.tmod (l.length : Int) ∧ fr.tmod (l.length : Int) = (k : Int)) ∨ (fr.tmod (l.length : Int) < 0 ∧ fr.tmod (l.length : Int) + (l.length : Int) = (k : Int))) := by
    by_cases h : 0 ≤ fr.tmod (l.length : Int)
    · exact ⟨(fr.tmod (l.length : Int)).toNat, by omega, .inl ⟨h, by omega⟩⟩
    · exact ⟨(fr.tmod (l.length : Int) + (l.length : Int)).toNat, by omega, .inr ⟨by omega, by omega⟩⟩
  have HKC := Lib.hid hkc
  have ball := Lib.hid (Exts.back_all l k hk)
  have J0 : Hid (ExtsAt w (.slice none 0 0) (Exts.backR l k 0)) := Lib.hid (by rw [Exts.back_zero]; exact .inl ⟨rfl, rfl⟩)
  have l0 : (l.length : Int) ≠ 0 := by omega
  have l1 : (0 : Int) < (l.length : Int) := by omega
  clear hl hr hkc
  go_enter Try.func7, Try.ntmps7
  go_wp2_with fail
  refine q.out.mono ?_
  rintro e w1 ⟨rfl, b1⟩
  have L_1 := Lib.hid (L_0.out.below (B := 0) b1)
  have J1 := Lib.hid (J0.out.below (B := 0) b1)
  have Y1 := Lib.hid b1
  clear b1 q J0 L_1
  go_upto_if 39 with fail
  go_cut [5] from 40 to 43 (fun q wx => q = .int .i64 (k : Int) ∧ w1 = wx)
  case first =>
    rcases HKC.out with ⟨h1, h2⟩ | ⟨h1, h2⟩
    · have h3 : ¬ fr.tmod (l.length : Int) < 0 := by omega
      have H2 := Lib.hid h2
      clear h2 h1 hr1 hr2
      go_wp2_with fail
      go_meet
      case rel => exact ⟨by rw [H2.out], rfl⟩
    · have H2 := Lib.hid h2
      have wk : IntKind.i64.wrap (fr.tmod (l.length : Int) + (l.length : Int)) = fr.tmod (l.length : Int) + (l.length : Int) := IntWalk.i64_in _ (by omega)
      clear h2 hr1 hr2
      go_wp2_with fail
      go_meet
      case rel => exact ⟨by rw [H2.out], rfl⟩
  obtain ⟨rfl, rfl⟩ := hcut
  clear hr1 hr2 HKC
  have zl : (0 : Int) ≤ (k : Int) := by omega
  go_wp2_with fail
  go_loopw [6, 7] (fun p q wr => ∃ (u : Value) (i : Nat), u = p ∧ q = .int .i64 i ∧ i ≤ l.length ∧ Hid (ExtsAt wr u (Exts.backR l k i)) ∧ Hid (Below w.heap.size w wr)) (fun _ q _ => l.length - (intOf q).toNat)
  case atStart => exact ⟨_, 0, rfl, rfl, by omega, J1, Y1⟩
  case round =>
    obtain ⟨u, i, rfl, rfl, hi, hu, hbw⟩ := hrel
    clear J1
    by_cases hlt : i < l.length
    · obtain ⟨q, hq⟩ : ∃ q, (i + k) % l.length = q := ⟨_, rfl⟩
      have hql : q < l.length := by rw [← hq]; exact Nat.mod_lt _ (by omega)
      have hqI : ((i : Int) + (k : Int)) % (l.length : Int) = (q : Int) := by rw [← hq]; push_cast; rfl
      have hqT : ((i : Int) + (k : Int)).tmod (l.length : Int) = (q : Int) := by rw [Int.tmod_eq_emod_of_nonneg (by omega)]; exact hqI
      have i0 : (0 : Int) ≤ (i : Int) := by omega
      have i1 : (i : Int) < (l.length : Int) := by omega
      have q0 : (0 : Int) ≤ (q : Int) := by omega
      have q1 : (q : Int) < (l.length : Int) := by omega
      obtain ⟨hll, g, off, rfl, c0, c1, c2⟩ := (L_0.out.below (B := 0) hbw.out).cells q hql
      clear hll
      obtain ⟨p1, p3⟩ := back_step HR.out k i q hk hlt hq.symm
      have hrow := Exts.back_row HR.out k i hk hi
      have hbl := Exts.back_len l k i hk hi
      have hqc := Lib.hid (ePut_b u (Exts.backR l k i) (l.getD q (0, 0, 0)) wr (SmallsE.row hrow) (small_at HR.out hql) hu.out (by omega) _ _ 0 p1 rfl p3)
      clear p1 p3 hrow hbl hu
      generalize l.getD q (0, 0, 0) = x at *
      obtain ⟨xa, xb, xc⟩ := x
      dsimp only at *
      clear hq
      go_wp2_with fail
      refine hqc.out.mono ?_
      rintro e w4 ⟨v4, f4, _, rfl, o4, _, _, _, b4⟩
      have U4 := Lib.hid (OwnExts.at o4)
      have Y4 := Lib.hid (hbw.out.trans (b4.mono hbw.out.size))
      clear o4 b4 hqc
      go_wp2_with fail
      go_roundw
      case rel => exact ⟨v4, i + 1, rfl, by go_num, by omega, U4, Y4⟩
      case measure => simp [intOf]; omega
    · obtain rfl : i = l.length := by omega
      have U0 := Lib.hid hu.out
      rw [ball.out] at U0
      obtain ⟨au, cu, rfl⟩ : ∃ ad c, u = .slice ad l.length c := by
        rcases U0.out with ⟨rfl, h⟩ | ⟨b, off, cap, rfl, _⟩
        · exact ⟨_, _, by rw [h]; rfl⟩
        · exact ⟨_, _, rfl⟩
      have L_r := Lib.hid (L_0.out.below (B := 0) hbw.out)
      obtain ⟨wo, rfl⟩ : ∃ wo : World, wo = wr := ⟨_, rfl⟩
      clear hu ball L_0 Y1
      go_wp2_with fail
      go_loopw [11] (fun q wr => ∃ (i : Nat), q = .int .i64 i ∧ i ≤ l.length ∧ Hid (Below wo.heap.size wo wr)) (fun q _ => l.length - (intOf q).toNat)
      case atStart => exact ⟨0, rfl, by omega, Lib.hid (Below.refl _ _)⟩
      case round =>
        obtain ⟨i, rfl, hi, hb2⟩ := hrel
        by_cases hlt : i < l.length
        · have i0 : (0 : Int) ≤ (i : Int) := by omega
          have i1 : (i : Int) < (l.length : Int) := by omega
          obtain ⟨hll, g, off, rfl, c0, c1, c2⟩ := (L_r.out.below (B := 0) hb2.out).cells i hlt
          clear hll
          have U_i := Lib.hid (U0.out.below (B := 0) hb2.out)
          obtain ⟨p1, p2, p3⟩ := self_step HR.out i hlt
          have hqc := Lib.hid (ePut_b (.slice au l.length cu) l (l.getD i (0, 0, 0)) wr (SmallsE.row HR.out) (small_at HR.out hlt) U_i.out (by omega) _ _ 0 p1 p2 p3)
          clear p1 p2 p3
          generalize l.getD i (0, 0, 0) = x at *
          obtain ⟨xa, xb, xc⟩ := x
          dsimp only at *
          go_wp2_with fail
          refine hqc.out.mono ?_
          rintro e w4 ⟨v4, f4, _, rfl, o4, _, _, p4, b4⟩
          obtain ⟨ae, ce, rfl⟩ := own_sliceR p4
          have U4 := Lib.hid (U_i.out.below (B := 0) b4)
          have Y4 := Lib.hid (hb2.out.trans (b4.mono hb2.out.size))
          have qs := Lib.hid (esame_b w4 v4 (.slice au l.length cu) l l (OwnExts.at o4) U4.out (by omega) (by omega) true (by simp))
          clear o4 b4 hqc p4
          go_wp2_with fail
          refine qs.out.mono ?_
          rintro e w5 ⟨rfl, b5⟩
          have Y5 := Lib.hid (Y4.out.trans (b5.mono Y4.out.size))
          clear b5 qs
          go_wp2_with fail
          go_roundw
          case rel => exact ⟨i + 1, by go_num, by omega, Y5⟩
          case measure => simp [intOf]; omega
        · obtain rfl : i = l.length := by omega
          have U1 := Lib.hid (U0.out.below (B := 0) hb2.out)
          have L_s := Lib.hid (L_r.out.below (B := 0) hb2.out)
          have Y2 := Lib.hid (hbw.out.trans (hb2.out.mono hbw.out.size))
          obtain ⟨wp, rfl⟩ : ∃ wp : World, wp = wr := ⟨_, rfl⟩
          clear U0 L_r hbw hb2
          go_wp2_with fail
          go_loopw [15, 16] (fun p q wr => ∃ (i : Nat), q = .int .i64 i ∧ i ≤ l.length ∧ p = .int .i64 (Exts.sumE (l.take i)) ∧ Hid (Below wp.heap.size wp wr)) (fun _ q _ => l.length - (intOf q).toNat)
          case atStart => exact ⟨0, rfl, by omega, rfl, Lib.hid (Below.refl _ _)⟩
          case round =>
            obtain ⟨i, rfl, hi, rfl, hb3⟩ := hrel
            by_cases hlt : i < l.length
            · have i0 : (0 : Int) ≤ (i : Int) := by omega
              have i1 : (i : Int) < (l.length : Int) := by omega
              have HC := Lib.hid (fun w1 (hb : Below wp.heap.size wp w1) => (L_s.out.below (B := 0) hb).cells i hlt)
              obtain ⟨hll, g, off, rfl, c0, c1, c2⟩ := HC.out wr hb3.out
              clear hll
              have hfs := Exts.find_self HR.out i hlt
              have hsm := small_at HR.out hlt
              have hqc := Lib.hid (efind_b _ l (l.getD i (0, 0, 0)).1 wr (SmallsE.row HR.out) (L_s.out.below (B := 0) hb3.out) (by omega) hsm.1 _ _ _ hfs)
              have hnx := Lib.hid (Exts.sumE_next l i hlt)
              have hbd := Exts.sumE_bound l HR.out i hi
              have hbd2 := Exts.sumE_bound l HR.out (i + 1) hlt
              rw [hnx.out] at hbd2
              clear hfs hsm
              generalize l.getD i (0, 0, 0) = x at *
              obtain ⟨xa, xb, xc⟩ := x
              dsimp only at *
              generalize Exts.sumE (l.take i) = sm at *
              go_wp2_with fail
              refine hqc.out.mono ?_
              rintro e w4 ⟨rfl, b4⟩
              have Y4 := Lib.hid (hb3.out.trans (b4.mono hb3.out.size))
              obtain ⟨_, g', off', e', d0, d1, d2⟩ := HC.out w4 Y4.out
              cases e'
              clear b4 hqc c0 c1 c2
              go_wp2_with fail
              go_roundw
              case rel => exact ⟨i + 1, by go_num, by omega, by rw [hnx.out], Y4⟩
              case measure => simp [intOf]; omega
            · obtain rfl : i = l.length := by omega
              obtain ⟨j, hj⟩ : ∃ j, l.length - 1 = j := ⟨_, rfl⟩
              have hok := Exts.check_row.2 HR.out
              have hE := Exts.endR_at hok hpos
              rw [hj] at hE
              have hC : Exts.countR l = Exts.sumE l := by unfold Exts.countR; rw [hok]; rfl
              have k1 : (j : Int) < (l.length : Int) := by omega
              have k2 : (0 : Int) ≤ (j : Int) := by omega
              have kw : IntKind.i64.wrap ((l.length : Int) - 1) = (j : Int) := by rw [IntWalk.i64_in _ (by omega)]; omega
              have kw' : (l.length : Int) - 1 = (j : Int) := by omega
              have hx := Exts.row_at HR.out (show j < l.length by omega)
              have L_t := Lib.hid (L_s.out.below (B := 0) hb3.out)
              have U_t := Lib.hid (U1.out.below (B := 0) hb3.out)
              have Y3 := Lib.hid (Y2.out.trans (hb3.out.mono Y2.out.size))
              obtain ⟨_, g, off, rfl, c0, c1, c2⟩ := L_t.out.cells j (by omega)
              have qS := Lib.hid (fun wz (hz : Below wr.heap.size wr wz) => esame_b wz _ _ l l (U_t.out.below (B := 0) hz) (L_t.out.below (B := 0) hz) (by omega) (by omega) true (by simp))
              have qC := Lib.hid (fun wz (hz : Below wr.heap.size wr wz) => ecount_any _ l wz (SmallsE.row HR.out) (L_t.out.below (B := 0) hz) (by omega))
              have qE := Lib.hid (fun wz (hz : Below wr.heap.size wr wz) => eEnd_any _ l wz (SmallsE.row HR.out) (L_t.out.below (B := 0) hz) (by omega))
              simp only [hC] at qC
              simp only [hE] at qE
              have hg0 : g < wr.heap.size := World.block_lt_of_cell? _ _ c0
              have KEEP : Hid (∀ wz, Below wr.heap.size wr wz → wz.cell? ⟨g, off + j * 3, none⟩ = some (.int .i64 (l.getD j (0, 0, 0)).1) ∧ wz.cell? ⟨g, off + j * 3 + 2, none⟩ = some (.int .i64 (l.getD j (0, 0, 0)).2.2)) := Lib.hid (fun wz hz => ⟨(hz.cell (p := ⟨g, off + j * 3, none⟩) hg0).trans c0, (hz.cell (p := ⟨g, off + j * 3 + 2, none⟩) hg0).trans c2⟩)
              clear hE hC hok hj c0 c1 c2 U1 L_s
              generalize l.getD j (0, 0, 0) = x at *
              obtain ⟨xa, xb, xc⟩ := x
              unfold Exts.may at hx
              unfold Exts.fin at qE
              dsimp only at *
              have wx : IntKind.i64.wrap (xa + xc) = xa + xc := IntWalk.i64_in _ (by omega)
              have s0 : Below wr.heap.size wr wr.drew := (Below.refl _ _).drew
              rw [List.take_length]
              clear kw'
              go_upto_region 28 with fail
              go_region_held3 (fun w' => w'.cell? ⟨g, off + j * 3, none⟩ = some (.int .i64 xa) ∧ w'.cell? ⟨g, off + j * 3 + 2, none⟩ = some (.int .i64 xc))
                (first | (refine KEEP.out _ ?_; assumption))
                (first | (go_at_call 30; (with_reducible refine (qS.out _ s0).mono ?_); rintro e wa ⟨rfl, ba⟩; have sa : Below wr.heap.size wr wa := below_next s0 ba) | (go_at_call 21; (with_reducible refine (qC.out _ sa).mono ?_); rintro e wb ⟨rfl, bb⟩; have sb : Below wr.heap.size wr wb := below_next sa bb) | (go_at_call 19; (with_reducible refine (qE.out _ sb).mono ?_); rintro e wd ⟨rfl, bd⟩; have sd : Below wr.heap.size wr wd := below_next sb bd) | (go_at_call 24; (with_reducible refine (ealive_any _).mono ?_); rintro e we ⟨rfl, be⟩; have se : Below wr.heap.size wr we := below_next sd be))
              have YF := Lib.hid (Y3.out.trans (se.mono Y3.out.size))
              clear sa sb sd se ba bb bd be qS qC qE
              go_wp2_with fail
              go_ret
              exact ⟨rfl, YF.out⟩

set_option maxRecDepth 100000 in
theorem ExtsBack_walk {w : World} (ad : Option Addr) (cap : Nat) (l : EL) (fr : Int) (h : ExtsIn w (.slice ad l.length cap) l) (hfr : -9223372036854775808 ≤ fr ∧ fr ≤ 9223372036854775807) :
    Calls Try.prog 7 #[.slice ad l.length cap, .int .i64 fr] w fun e w' => e = .returned (.bool true) ∧ Below w.heap.size w w' := by
  have l1 := h.len
  by_cases h60 : 60 < l.length
  · by_cases hbig : l.length ≤ 1000000000
    · exact back_easy ad cap l fr h.at_ h.small hbig (.inl h60)
    · have qa := Lib.hid (ealive_any w)
      have h1 : (60 : Int) < (l.length : Int) := by omega
      clear h hbig h60
      go_enter Try.func7, Try.ntmps7
      go_wp2_with fail
      refine qa.out.mono ?_
      rintro e w1 ⟨rfl, b1⟩
      have B1 := Lib.hid b1
      clear b1 qa
      go_wp2_with fail
      go_ret
      exact ⟨rfl, B1.out⟩
  · cases hok : Exts.okTo l l.length
    · exact back_easy ad cap l fr h.at_ h.small (by omega) (.inr (.inl hok))
    · by_cases h0 : l.length = 0
      · exact back_easy ad cap l fr h.at_ h.small (by omega) (.inr (.inr h0))
      · exact back_go ad cap l fr hfr h.at_ (by omega) (Exts.check_row.1 hok) (by omega)

end Go.Proofs.Ytgpjldmndibalaa
