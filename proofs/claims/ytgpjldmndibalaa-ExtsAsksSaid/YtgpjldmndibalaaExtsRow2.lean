/- The document's row of entries (leaves). -/
import Derived.Test.YtgpjldmndibalaaExtsMay2
import Derived.Test.YtgpjldmndibalaaExtsCheck
namespace Go.Proofs.Ytgpjldmndibalaa
open Go Go.RowKit

set_option maxRecDepth 100000 in
set_option maxHeartbeats 4000000 in
theorem erow2_any (v : Value) (l : EL) (w : World) (hs : SmallsE l) (h : ExtsAt w v l) (hl : l.length ≤ 1000000000) :
    Calls Try.prog 42 #[v, .bool true] w fun e w' => e = .returned (.bool (Exts.okTo l l.length)) ∧ Below w.heap.size w w' := by
  have H := Lib.hid h
  have HS := Lib.hid hs
  obtain ⟨ad, cap, rfl⟩ : ∃ ad cap, v = .slice ad l.length cap := by
    rcases h with ⟨rfl, rfl⟩ | ⟨b, off, cap, rfl, _⟩
    · exact ⟨_, _, rfl⟩
    · exact ⟨_, _, rfl⟩
  clear h hs
  go_enter Try.func42, Try.ntmps42
  go_wp2_with fail
  go_loopw [5] (fun q wr => ∃ j : Nat, j ≤ l.length ∧ q = .int .i64 j ∧ Exts.okTo l j = true ∧ Hid (Below w.heap.size w wr)) (fun q _ => l.length - (intOf q).toNat)
  case atStart => exact ⟨0, by omega, rfl, rfl, Lib.hid (Below.refl _ _)⟩
  case round =>
    obtain ⟨j, hj, rfl, hok, hb⟩ := hrel
    by_cases hlt : j < l.length
    · have i0 : (0 : Int) ≤ (j : Int) := by omega
      have i1 : (j : Int) < (l.length : Int) := by omega
      obtain ⟨hll, g, off, rfl, c0, c1, c2⟩ := (H.out.below (B := 0) hb.out).cells j hlt
      clear hll
      have hsx := HS.out.at j hlt
      have hnext : Exts.okTo l (j + 1) = (decide (Exts.may (l.getD j (0, 0, 0))) && (j == 0 || decide (Exts.fin (l.getD (j - 1) (0, 0, 0)) ≤ (l.getD j (0, 0, 0)).1))) := by
        show (Exts.okTo l j && _ && _) = _
        rw [hok]
        rfl
      have hm := Lib.hid (fun w => emay2_any _ hsx w)
      have hBz := hb.out.size
      have zg : g < wr.heap.size := World.block_lt_of_cell? _ _ c0
      by_cases k : Exts.may (l.getD j (0, 0, 0))
      · rw [decide_eq_true k] at hm hnext
        rw [Bool.true_and] at hnext
        by_cases k0 : j = 0
        · have hok' : Exts.okTo l (j + 1) = true := by rw [hnext]; simp [k0]
          have kd : (j : Int) = 0 := by omega
          have d0 : wr.cell? ⟨g, off, none⟩ = some (.int .i64 (l.getD j (0, 0, 0)).1) := by have := c0; rwa [k0, Nat.zero_mul, Nat.add_zero, ← k0] at this
          have d1 : wr.cell? ⟨g, off + 1, none⟩ = some (.int .i64 (l.getD j (0, 0, 0)).2.1) := by have := c1; rwa [k0, Nat.zero_mul, Nat.add_zero, ← k0] at this
          have d2 : wr.cell? ⟨g, off + 2, none⟩ = some (.int .i64 (l.getD j (0, 0, 0)).2.2) := by have := c2; rwa [k0, Nat.zero_mul, Nat.add_zero, ← k0] at this
          clear hnext k c0 c1 c2
          generalize l.getD j (0, 0, 0) = x at *
          obtain ⟨xa, xb, xc⟩ := x
          dsimp only at *
          go_wp2_with fail
          refine (hm.out _).mono ?_
          rintro e w4 ⟨rfl, b4⟩
          have B9 := Lib.hid (hb.out.trans (b4.mono hBz))
          clear b4 hb
          go_wp2_with fail
          go_roundw
          case rel => exact ⟨j + 1, by omega, by go_num, hok', B9⟩
          case measure => simp [intOf]; omega
        · obtain ⟨_, g', off', e', d0, d1, d2⟩ := (H.out.below (B := 0) hb.out).cells (j - 1) (by omega)
          cases e'
          have hmp : Exts.may (l.getD (j - 1) (0, 0, 0)) := Exts.okTo_may hok (j - 1) (by omega)
          unfold Exts.may at hmp
          have kn : ¬ (j : Int) = 0 := by omega
          have kw : IntKind.i64.wrap ((j : Int) - 1) = ((j - 1 : Nat) : Int) := by
            rw [IntWalk.i64_in _ (by omega)]
            omega
          have kj : ((j - 1 : Nat) : Int) < (l.length : Int) := by omega
          have kj0 : (0 : Int) ≤ ((j - 1 : Nat) : Int) := by omega
          rw [show (j == 0) = false by simpa using k0, Bool.false_or] at hnext
          unfold Exts.fin at hnext
          clear k
          generalize l.getD j (0, 0, 0) = x at *
          generalize l.getD (j - 1) (0, 0, 0) = y at *
          obtain ⟨xa, xb, xc⟩ := x
          obtain ⟨ya, yb, yc⟩ := y
          dsimp only at *
          have wf : IntKind.i64.wrap (ya + yc) = ya + yc := IntWalk.i64_in _ (by omega)
          generalize hJ : j - 1 = j1 at *
          go_wp2_with fail
          refine (hm.out _).mono ?_
          rintro e w4 ⟨rfl, b4⟩
          have e0 := (b4.cell (p := ⟨g, off + j * 3, none⟩) zg).trans c0
          have f0 := (b4.cell (p := ⟨g, off + j1 * 3, none⟩) zg).trans d0
          have f1 := (b4.cell (p := ⟨g, off + j1 * 3 + 1, none⟩) zg).trans d1
          have f2 := (b4.cell (p := ⟨g, off + j1 * 3 + 2, none⟩) zg).trans d2
          have hb4 := Lib.hid (hb.out.trans (b4.mono hBz))
          have z4 := hb4.out.size
          clear b4 hb c0 c1 c2 d0 d1 d2
          go_wp2_with fail
          have bA : Below w4.heap.size w4 (w4.alloc (.cells #[.int .i64 ya, .int .i64 yb, .int .i64 yc] 58)) := (Below.refl _ _).alloc (Nat.le_refl _) _
          have E0 := (bA.cell (p := ⟨g, off + j * 3, none⟩) (World.block_lt_of_cell? _ _ e0)).trans e0
          have P0 : (w4.alloc (.cells #[.int .i64 ya, .int .i64 yb, .int .i64 yc] 58)).cell? ⟨w4.heap.size, 0, none⟩ = some (.int .i64 ya) := box_cell _ _ _ _
          have P2 : (w4.alloc (.cells #[.int .i64 ya, .int .i64 yb, .int .i64 yc] 58)).cell? ⟨w4.heap.size, 2, none⟩ = some (.int .i64 yc) := box_cell _ _ _ _
          have HBA := Lib.hid (hb4.out.trans (bA.mono z4))
          clear e0 f0 f1 f2 bA
          by_cases m1 : ya + yc ≤ xa
          · have n1 : ¬ xa ≤ ya := by omega
            have n1d : decide (xa ≤ ya) = false := decide_eq_false n1
            have n2 : ¬ xa < ya + yc := by omega
            have n2d : decide (xa < ya + yc) = false := decide_eq_false n2
            have hok' : Exts.okTo l (j + 1) = true := by rw [hnext]; exact decide_eq_true m1
            clear hnext
            go_quiet (fail)
            have B9 := Lib.hid (HBA.out.trans (below_dr (n := nq) (Below.refl _ _) |>.mono HBA.out.size))
            go_wp2_with fail
            go_roundw
            case rel => exact ⟨j + 1, by omega, by go_num, hok', B9⟩
            case measure => simp [intOf]; omega
          · have hOK := Lib.hid (Exts.okTo_false (n := l.length) l (j + 1) (by rw [hnext]; exact decide_eq_false m1) (by omega))
            clear hnext
            by_cases m2 : xa ≤ ya
            · have n1d : decide (xa ≤ ya) = true := decide_eq_true m2
              go_quiet (fail)
              have B9 := Lib.hid (HBA.out.trans (below_dr (n := nq) (Below.refl _ _) |>.mono HBA.out.size))
              go_wp2_with fail
              go_ret
              exact ⟨by rw [hOK.out]; rfl, B9.out⟩
            · have n1d : decide (xa ≤ ya) = false := decide_eq_false m2
              have n2 : xa < ya + yc := by omega
              have n2d : decide (xa < ya + yc) = true := decide_eq_true n2
              go_quiet (fail)
              have B9 := Lib.hid (HBA.out.trans (below_dr (n := nq) (Below.refl _ _) |>.mono HBA.out.size))
              go_wp2_with fail
              go_ret
              exact ⟨by rw [hOK.out]; rfl, B9.out⟩
      · rw [decide_eq_false k] at hm hnext
        rw [Bool.false_and] at hnext
        have hOK := Lib.hid (Exts.okTo_false (n := l.length) l (j + 1) hnext (by omega))
        clear hnext k
        generalize l.getD j (0, 0, 0) = x at *
        obtain ⟨xa, xb, xc⟩ := x
        dsimp only at *
        go_wp2_with fail
        refine (hm.out _).mono ?_
        rintro e w4 ⟨rfl, b4⟩
        have B9 := Lib.hid (hb.out.trans (b4.mono hBz))
        clear b4 hb
        go_wp2_with fail
        go_ret
        exact ⟨by rw [hOK.out]; rfl, B9.out⟩
    · obtain rfl : j = l.length := by omega
      go_wp2_with fail
      go_ret
      exact ⟨by rw [hok]; rfl, hb.out⟩

end Go.Proofs.Ytgpjldmndibalaa
