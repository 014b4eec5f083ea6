/- Exts: Find. -/
import Derived.Test.YtgpjldmndibalaaExtsFind
namespace Go.Proofs.Ytgpjldmndibalaa
open Go Go.RowKit

set_option maxRecDepth 100000 in
set_option maxHeartbeats 4000000 in
theorem efind_any (v : Value) (l : EL) (t : Int) (w : World) (hs : SmallsE l) (h : ExtsAt w v l) (hl : l.length ≤ 1000000000) (ht : -9223372036854775808 ≤ t ∧ t ≤ 9223372036854775807) :
    Calls Try.prog 12 #[v, .int .i64 t] w fun e w' => e = .returned (.tuple #[.int .i64 (Exts.findR l t).1, .int .i64 (Exts.findR l t).2.1, .bool (Exts.findR l t).2.2]) ∧ Below w.heap.size w w' := by
  have q := Lib.hid (echeck_any v l w hs h hl)
  have H := Lib.hid h
  cases hok : Exts.okTo l l.length
  · rw [hok] at q
    rw [Exts.findR_bad hok]
    clear h hok
    go_enter Try.func12, Try.ntmps12
    go_wp2_with fail
    refine q.out.mono ?_
    rintro e w1 ⟨rfl, b1⟩
    have B1 := Lib.hid b1
    clear b1
    go_wp2_with fail
    exact bodyPost_ret (v := .tuple #[.int .i64 0, .int .i64 0, .bool false]) (by simp [results, Try.results12, go_sem]) rfl ⟨rfl, B1.out⟩
  · rw [hok] at q
    have hR := Lib.hid (Exts.check_row.1 hok)
    have hq := Lib.hid (fun w1 (hb : Below w.heap.size w w1) => esearch_any v l t w1 hR.out (h.below (B := 0) hb) hl ht)
    have hN := Lib.hid (fun (a : Exts.at_ l t = none) => Exts.findR_none hok a)
    have hS := Lib.hid (fun p n (a : Exts.at_ l t = some (p, n)) => Exts.findR_some hok a)
    obtain ⟨ad, cap, rfl⟩ : ∃ ad cap, v = .slice ad l.length cap := by
      rcases h with ⟨rfl, rfl⟩ | ⟨b, off, cap, rfl, _⟩
      · exact ⟨_, _, rfl⟩
      · exact ⟨_, _, rfl⟩
    clear h hok
    generalize Exts.findR l t = F at *
    go_enter Try.func12, Try.ntmps12
    go_wp2_with fail
    refine q.out.mono ?_
    rintro e w1 ⟨rfl, b1⟩
    have B1 := Lib.hid b1
    have q2 := Lib.hid (hq.out w1 b1)
    clear b1 q hq
    go_wp2_with fail
    refine q2.out.mono ?_
    rintro e w2 ⟨r, rfl, hse, b2⟩
    have HSE := Lib.hid hse
    have B2 := Lib.hid (B1.out.trans (b2.mono B1.out.size))
    have hrl := hse.le
    clear b2 q2 hse
    by_cases hrn : r = l.length
    · have hF := hN.out (Exts.at_none hR.out HSE.out (.inl hrn))
      subst hF
      have kb : ((r : Int) == (l.length : Int)) = true := by simp [hrn]
      clear hrn
      go_wp2_with fail
      exact bodyPost_ret (v := .tuple #[.int .i64 0, .int .i64 0, .bool false]) (by simp [results, Try.results12, go_sem]) rfl ⟨rfl, B2.out⟩
    · have kb : ((r : Int) == (l.length : Int)) = false := by rw [beq_eq_false_iff_ne]; omega
      have hlt : r < l.length := by omega
      obtain ⟨_, g, off, rfl, c0, c1, c2⟩ := (H.out.below (B := 0) B2.out).cells r hlt
      have i0 : (0 : Int) ≤ (r : Int) := by omega
      have i1 : (r : Int) < (l.length : Int) := by omega
      by_cases k : t < (l.getD r (0, 0, 0)).1
      · have hF := hN.out (Exts.at_none hR.out HSE.out (.inr k))
        subst hF
        generalize l.getD r (0, 0, 0) = x at *
        obtain ⟨xa, xb, xc⟩ := x
        dsimp only at *
        go_wp2_with fail
        exact bodyPost_ret (v := .tuple #[.int .i64 0, .int .i64 0, .bool false]) (by simp [results, Try.results12, go_sem]) rfl ⟨rfl, B2.out⟩
      · have hF := Lib.hid (hS.out _ _ (Exts.at_some HSE.out hlt (by omega)))
        have hm := Exts.row_at hR.out hlt
        have hfin := HSE.out.hi r (Nat.le_refl _) hlt
        have he := Lib.hid (fun w => eend_any _ (emay_fin hm) w)
        have z0 : g < w2.heap.size := World.block_lt_of_cell? _ _ c0
        generalize l.getD r (0, 0, 0) = x at *
        obtain ⟨xa, xb, xc⟩ := x
        have hfx : Exts.fin (xa, xb, xc) = xa + xc := rfl
        unfold Exts.may at hm
        dsimp only at *
        have w1' : IntKind.i64.wrap (xb + t) = xb + t := IntWalk.i64_in _ (by omega)
        have w2' : IntKind.i64.wrap (xb + t - xa) = xb + t - xa := IntWalk.i64_in _ (by omega)
        have w3' : IntKind.i64.wrap (Exts.fin (xa, xb, xc) - t) = Exts.fin (xa, xb, xc) - t := IntWalk.i64_in _ (by omega)
        have HFX := Lib.hid hfx
        clear hfx
        go_upto_region 6 with fail
        go_region_held3 (fun w' => w'.cell? ⟨g, off + r * 3, none⟩ = some (.int .i64 xa) ∧ w'.cell? ⟨g, off + r * 3 + 1, none⟩ = some (.int .i64 xb) ∧ w'.cell? ⟨g, off + r * 3 + 2, none⟩ = some (.int .i64 xc))
          (first | exact ⟨c0, c1, c2⟩ | exact ⟨(s4.cell (p := ⟨g, off + r * 3, none⟩) z0).trans c0, (s4.cell (p := ⟨g, off + r * 3 + 1, none⟩) z0).trans c1, (s4.cell (p := ⟨g, off + r * 3 + 2, none⟩) z0).trans c2⟩)
          ((go_at_call 38; refine (he.out _).mono ?_; rintro e w4 ⟨rfl, b4⟩; have s4 : Below w2.heap.size w2 w4 := ⟨b4.os, b4.tape, b4.output, b4.size, b4.block⟩))
        have B4 := Lib.hid (B2.out.trans (s4.mono B2.out.size))
        clear s4 b4
        go_wp2_with fail
        exact bodyPost_ret (v := .tuple #[.int .i64 (xb + t - xa), .int .i64 (Exts.fin (xa, xb, xc) - t), .bool true]) (by simp [results, Try.results12, go_sem]) rfl ⟨by rw [hF.out], B4.out⟩

end Go.Proofs.Ytgpjldmndibalaa
