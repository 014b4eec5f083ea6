/- Entries: may, the program's and the document's. (Printed by wip/gen/fmay.py.) -/
import Derived.Test.YtgjmeeiejcbjfaaGreatH07
import Derived.Test.YtgjmeeiejcbjfaaGreatH05
import Derived.Deep.RegionHeld3
set_option linter.unusedSimpArgs false
set_option linter.unusedVariables false
namespace Go.Proofs.YtgjmeeiejcbjfaaGreat
open Go.Lib (hid)
open Go Go.RowKit
set_option maxHeartbeats 2000000 in
theorem xmay_leaf (x : Exts.E) (hx : SmallE x) (w : World) : Calls Tryz.prog 83 #[.agg #[.int .i64 x.1, .int .i64 x.2.1, .int .i64 x.2.2], .bool true] w fun e w' => e = .returned (.bool (Ents.may true x)) ∧ Below w.heap.size w w' := by
 have hb : Below w.heap.size w (w.alloc (.cells #[.int .i64 x.1, .int .i64 x.2.1, .int .i64 x.2.2] 31)) := (Below.refl _ _).alloc (Nat.le_refl _) _
 obtain ⟨a, b, c⟩ := x
 obtain ⟨⟨h1, h2⟩, ⟨h3, h4⟩, h5, h6⟩ := hx
 dsimp only at *
 show Calls _ _ _ _ fun e w' => e = .returned (.bool (decide (Exts.may (a, b, c)))) ∧ _
 by_cases k1 : 1 ≤ c
 ·skip
  by_cases k2 : c ≤ 4096
  ·skip
   have w1 : IntKind.i64.wrap (2048 - c) = 2048 - c := IntWalk.i64_in _ (by omega)
   have w2 : IntKind.i64.wrap (4096 - c) = 4096 - c := IntWalk.i64_in _ (by omega)
   by_cases k3 : 0 ≤ a
   ·skip
    by_cases k4 : a ≤ 2048 - c
    ·skip
     by_cases k5 : 1 ≤ b
     ·skip
      by_cases k6 : b ≤ 4096 - c
      ·skip
       rw [show decide (Exts.may (a, b, c)) = true from decide_eq_true ⟨k1, k2, k3, k4, k5, k6⟩]
       go_enter Tryz.func83, Tryz.ntmps83
       go_wp2_with fail
       go_ret
       exact ⟨rfl, hb⟩
      ·skip
       rw [show decide (Exts.may (a, b, c)) = false from decide_eq_false (fun h => k6 h.2.2.2.2.2)]
       go_enter Tryz.func83, Tryz.ntmps83
       go_wp2_with fail
       go_ret
       exact ⟨rfl, hb⟩
     ·skip
      rw [show decide (Exts.may (a, b, c)) = false from decide_eq_false (fun h => k5 h.2.2.2.2.1)]
      go_enter Tryz.func83, Tryz.ntmps83
      go_wp2_with fail
      go_ret
      exact ⟨rfl, hb⟩
    ·skip
     rw [show decide (Exts.may (a, b, c)) = false from decide_eq_false (fun h => k4 h.2.2.2.1)]
     go_enter Tryz.func83, Tryz.ntmps83
     go_wp2_with fail
     go_ret
     exact ⟨rfl, hb⟩
   ·skip
    rw [show decide (Exts.may (a, b, c)) = false from decide_eq_false (fun h => k3 h.2.2.1)]
    go_enter Tryz.func83, Tryz.ntmps83
    go_wp2_with fail
    go_ret
    exact ⟨rfl, hb⟩
  ·skip
   rw [show decide (Exts.may (a, b, c)) = false from decide_eq_false (fun h => k2 h.2.1)]
   go_enter Tryz.func83, Tryz.ntmps83
   go_wp2_with fail
   go_ret
   exact ⟨rfl, hb⟩
 ·skip
  rw [show decide (Exts.may (a, b, c)) = false from decide_eq_false (fun h => k1 h.1)]
  go_enter Tryz.func83, Tryz.ntmps83
  go_wp2_with fail
  go_ret
  exact ⟨rfl, hb⟩
set_option maxHeartbeats 2000000 in
theorem xmay_node (x : Exts.E) (hx : SmallE x) (w : World) : Calls Tryz.prog 83 #[.agg #[.int .i64 x.1, .int .i64 x.2.1, .int .i64 x.2.2], .bool false] w fun e w' => e = .returned (.bool (Ents.may false x)) ∧ Below w.heap.size w w' := by
 have hb : Below w.heap.size w (w.alloc (.cells #[.int .i64 x.1, .int .i64 x.2.1, .int .i64 x.2.2] 31)) := (Below.refl _ _).alloc (Nat.le_refl _) _
 obtain ⟨a, b, c⟩ := x
 obtain ⟨⟨h1, h2⟩, ⟨h3, h4⟩, h5, h6⟩ := hx
 dsimp only at *
 show Calls _ _ _ _ fun e w' => e = .returned (.bool (decide (Ents.mayN (a, b, c)))) ∧ _
 by_cases k1 : c = 0
 ·subst k1
  by_cases k3 : 0 ≤ a
  ·skip
   by_cases k4 : a ≤ 2047
   ·skip
    by_cases k5 : 1 ≤ b
    ·skip
     by_cases k6 : b ≤ 4095
     ·skip
      rw [show decide (Ents.mayN (a, b, 0)) = true from decide_eq_true ⟨rfl, k3, k4, k5, k6⟩]
      go_enter Tryz.func83, Tryz.ntmps83
      go_wp2_with fail
      go_ret
      exact ⟨rfl, hb⟩
     ·skip
      rw [show decide (Ents.mayN (a, b, 0)) = false from decide_eq_false (fun h => k6 h.2.2.2.2)]
      go_enter Tryz.func83, Tryz.ntmps83
      go_wp2_with fail
      go_ret
      exact ⟨rfl, hb⟩
    ·skip
     rw [show decide (Ents.mayN (a, b, 0)) = false from decide_eq_false (fun h => k5 h.2.2.2.1)]
     go_enter Tryz.func83, Tryz.ntmps83
     go_wp2_with fail
     go_ret
     exact ⟨rfl, hb⟩
   ·skip
    rw [show decide (Ents.mayN (a, b, 0)) = false from decide_eq_false (fun h => k4 h.2.2.1)]
    go_enter Tryz.func83, Tryz.ntmps83
    go_wp2_with fail
    go_ret
    exact ⟨rfl, hb⟩
  ·skip
   rw [show decide (Ents.mayN (a, b, 0)) = false from decide_eq_false (fun h => k3 h.2.1)]
   go_enter Tryz.func83, Tryz.ntmps83
   go_wp2_with fail
   go_ret
   exact ⟨rfl, hb⟩
 ·skip
  rw [show decide (Ents.mayN (a, b, c)) = false from decide_eq_false (fun h => k1 h.1)]
  go_enter Tryz.func83, Tryz.ntmps83
  go_wp2_with fail
  go_ret
  exact ⟨rfl, hb⟩
theorem xmay_any (leaf : Bool) (x : Exts.E) (hx : SmallE x) (w : World) : Calls Tryz.prog 83 #[.agg #[.int .i64 x.1, .int .i64 x.2.1, .int .i64 x.2.2], .bool leaf] w fun e w' => e = .returned (.bool (Ents.may leaf x)) ∧ Below w.heap.size w w' := by
 cases leaf
 ·exact xmay_node x hx w
 ·exact xmay_leaf x hx w
theorem ExtsAt.form {w : World} {v : Value} {l : EL} (h : ExtsAt w v l) : ∃ ad cap, v = .slice ad l.length cap := by
 rcases h with ⟨rfl, rfl⟩ | ⟨b, off, cap, rfl, _⟩
 ·exact ⟨_, _, rfl⟩
 ·exact ⟨_, _, rfl⟩
theorem Ents.may_small {leaf : Bool} {x : Exts.E} (h : Ents.may leaf x = true) : 0 ≤ x.1 ∧ x.1 ≤ 2047 ∧ 0 ≤ x.2.2 ∧ x.2.2 ≤ 4096 := by
 unfold Ents.may at h
 cases leaf
 ·have h := of_decide_eq_true h
  unfold Ents.mayN at h
  omega
 ·have h := of_decide_eq_true h
  unfold Exts.may at h
  omega
theorem Below.drewN' {B : Nat} {w w' : World} (h : Below B w w') (n : Nat) : Below B w (w'.drewN n) := ⟨h.os, h.tape, h.output, h.size, h.block⟩
set_option maxRecDepth 100000 in
set_option maxHeartbeats 4000000 in
theorem xcheck_any (leaf : Bool) (v : Value) (l : EL) (w : World) (hs : SmallsE l) (h : ExtsAt w v l) (hl : l.length ≤ 1000000000) :
  Calls Tryz.prog 37 #[v, .bool leaf] w fun e w' => e = .returned (.bool (Ents.okTo leaf l l.length)) ∧ Below w.heap.size w w' := by
 have H := hid h
 have HS := hid hs
 obtain ⟨ad, cap, rfl⟩ := h.form
 clear h hs
 go_enter Tryz.func37, Tryz.ntmps37
 go_wp2_with fail
 go_loopw [10] (fun q wr => ∃ j : Nat, j ≤ l.length ∧ q = .int .i64 j ∧ Hid (Ents.okTo leaf l j = true) ∧ Hid (Below w.heap.size w wr)) (fun q _ => l.length - (intOf q).toNat)
 case atStart => exact ⟨0, by omega, rfl, hid rfl, hid (Below.refl _ _)⟩
 case round =>
  obtain ⟨j, hj, rfl, hok, hb⟩ := hrel
  by_cases hlt : j < l.length
  ·have i0 : (0 : Int) ≤ (j : Int) := by omega
   have i1 : (j : Int) < (l.length : Int) := by omega
   obtain ⟨hll, g, off, rfl, c0, c1, c2⟩ := (H.out.below (B := 0) hb.out).cells j hlt
   clear hll
   have hsx := HS.out.at j hlt
   have hnext : Hid (Ents.okTo leaf l (j + 1) = (Ents.may leaf (l.getD j (0, 0, 0)) && (j == 0 || Ents.step (l.getD (j - 1) (0, 0, 0)) (l.getD j (0, 0, 0))))) := hid (by
    show (Ents.okTo leaf l j && _ && _) = _
    rw [hok.out]
    rfl)
   have hm := hid (fun w => xmay_any leaf _ hsx w)
   have hsm := fun h => Ents.may_small (leaf := leaf) (x := l.getD j (0, 0, 0)) h
   have zg : g < wr.heap.size := World.block_lt_of_cell? _ _ c0
   cases k : Ents.may leaf (l.getD j (0, 0, 0))
   ·have hOK := hid (Ents.okTo_false leaf l (j + 1) (by rw [hnext.out, k]; rfl) (n := l.length) (by omega))
    rw [k] at hm
    clear hnext hsm k
    generalize l.getD j (0, 0, 0) = x at *
    obtain ⟨xa, xb, xc⟩ := x
    dsimp only at *
    go_wp2_with fail
    refine (hm.out _).mono ?_
    rintro e w4 ⟨rfl, b4⟩
    have B9 := hid (hb.out.trans ((((Below.refl _ _).alloc (Nat.le_refl _) _).trans (b4.mono (by simp))).mono hb.out.size))
    clear b4 hb
    go_wp2_with fail
    go_ret
    exact ⟨by rw [hOK.out]; rfl, B9.out⟩
   ·rw [k] at hm hnext
    have hsx2 := hsm k
    clear hsm
    by_cases k0 : j = 0
    ·have hok' : Hid (Ents.okTo leaf l (j + 1) = true) := hid (by rw [hnext.out]; simp [k0])
     have kd : (j : Int) = 0 := by omega
     have d0 : wr.cell? ⟨g, off, none⟩ = some (.int .i64 (l.getD j (0, 0, 0)).1) := by have := c0; rwa [k0, Nat.zero_mul, Nat.add_zero, ← k0] at this
     have d1 : wr.cell? ⟨g, off + 1, none⟩ = some (.int .i64 (l.getD j (0, 0, 0)).2.1) := by have := c1; rwa [k0, Nat.zero_mul, Nat.add_zero, ← k0] at this
     have d2 : wr.cell? ⟨g, off + 2, none⟩ = some (.int .i64 (l.getD j (0, 0, 0)).2.2) := by have := c2; rwa [k0, Nat.zero_mul, Nat.add_zero, ← k0] at this
     clear hnext k c0 c1 c2
     generalize l.getD j (0, 0, 0) = x at *
     obtain ⟨xa, xb, xc⟩ := x
     dsimp only at *
     go_wp2_with fail
     refine (hm.out _).mono ?_
     rintro e w4 ⟨rfl, b4⟩
     have B9 := hid (hb.out.trans ((((Below.refl _ _).alloc (Nat.le_refl _) _).trans (b4.mono (by simp))).mono hb.out.size))
     clear b4 hb
     go_wp2_with fail
     go_roundw
     case rel => exact ⟨j + 1, by omega, by go_num, hok', B9⟩
     case measure => simp [intOf]; omega
    ·obtain ⟨_, g', off', e', d0, d1, d2⟩ := (H.out.below (B := 0) hb.out).cells (j - 1) (by omega)
     cases e'
     have hmp := Ents.may_small (Ents.okTo_may hok.out (j - 1) (by omega))
     have kn : (0 : Int) < (j : Int) := by omega
     have kz : ((j : Int) == 0) = false := by rw [beq_eq_false_iff_ne]; omega
     have kw : IntKind.i64.wrap ((j : Int) - 1) = ((j - 1 : Nat) : Int) := by
      rw [IntWalk.i64_in _ (by omega)]
      omega
     have kj : ((j - 1 : Nat) : Int) < (l.length : Int) := by omega
     have kj0 : (0 : Int) ≤ ((j - 1 : Nat) : Int) := by omega
     rw [show (j == 0) = false by simpa using k0, Bool.false_or, Bool.true_and] at hnext
     clear k
     have bA : ∀ o, Below wr.heap.size wr (wr.alloc o) := fun o => (Below.refl _ _).alloc (Nat.le_refl _) _
     have BA := hid bA
     have zj := hid (World.block_lt_of_cell? _ _ d0)
     clear bA
     generalize l.getD j (0, 0, 0) = x at *
     generalize l.getD (j - 1) (0, 0, 0) = y at *
     obtain ⟨xa, xb, xc⟩ := x
     obtain ⟨ya, yb, yc⟩ := y
     dsimp only at *
     generalize hJ : j - 1 = j1 at *
     have HJ := hid hJ
     clear hJ
     obtain ⟨gap, hgap⟩ : ∃ gap, xa - ya = gap := ⟨_, rfl⟩
     have wg : IntKind.i64.wrap (xa - ya) = gap := by rw [IntWalk.i64_in _ (by omega)]; exact hgap
     have hst : Hid (Ents.step (ya, yb, yc) (xa, xb, xc) = (decide (0 < gap) && decide (yc ≤ gap))) := hid (by unfold Ents.step; rw [← hgap])
     have hgb : -4096 ≤ gap ∧ gap ≤ 4096 := by omega
     have HG := hid hgap
     clear hgap
     by_cases k1 : 0 < gap
     ·by_cases k2 : yc ≤ gap
      ·have hok' : Hid (Ents.okTo leaf l (j + 1) = true) := hid (by rw [hnext.out, hst.out, decide_eq_true k1, decide_eq_true k2]; rfl)
       have k2' : ¬ gap < yc := by omega
       clear hnext hst
       go_wp2_with fail
       refine (hm.out _).mono ?_
       rintro e w4 ⟨rfl, b4⟩
       have b5 := ((BA.out (.cells #[.int .i64 xa, .int .i64 xb, .int .i64 xc] 31)).trans (b4.mono (by simp)))
       have B9 := hid (hb.out.trans (b5.mono hb.out.size))
       have D0 := (b5.cell (p := ⟨g, off + j1 * 3, none⟩) zg).trans d0
       have D2 := (b5.cell (p := ⟨g, off + j1 * 3 + 2, none⟩) zg).trans d2
       have E0 := (b4.cell (p := ⟨wr.heap.size, 0, none⟩) (by simp)).trans (box_cell wr #[.int .i64 xa, .int .i64 xb, .int .i64 xc] 31 0)
       clear b4 b5 hb d0 d1 d2 c0 c1 c2
       go_wp2_with fail
       go_quiet (fail)
       go_wp2_with fail
       go_roundw
       case rel => exact ⟨j + 1, by omega, by go_num, hok', hid (Below.drewN' B9.out _)⟩
       case measure => simp [intOf]; omega
      ·have hOK := hid (Ents.okTo_false leaf l (j + 1) (by rw [hnext.out, hst.out, decide_eq_false k2, Bool.and_false]) (n := l.length) (by omega))
       have k2' : gap < yc := by omega
       clear hnext hst
       go_wp2_with fail
       refine (hm.out _).mono ?_
       rintro e w4 ⟨rfl, b4⟩
       have b5 := ((BA.out (.cells #[.int .i64 xa, .int .i64 xb, .int .i64 xc] 31)).trans (b4.mono (by simp)))
       have B9 := hid (hb.out.trans (b5.mono hb.out.size))
       have D0 := (b5.cell (p := ⟨g, off + j1 * 3, none⟩) zg).trans d0
       have D2 := (b5.cell (p := ⟨g, off + j1 * 3 + 2, none⟩) zg).trans d2
       have E0 := (b4.cell (p := ⟨wr.heap.size, 0, none⟩) (by simp)).trans (box_cell wr #[.int .i64 xa, .int .i64 xb, .int .i64 xc] 31 0)
       clear b4 b5 hb d0 d1 d2 c0 c1 c2
       go_wp2_with fail
       go_quiet (fail)
       go_wp2_with fail
       go_ret
       exact ⟨by rw [hOK.out]; rfl, Below.drewN' B9.out _⟩
     ·have hOK := hid (Ents.okTo_false leaf l (j + 1) (by rw [hnext.out, hst.out, decide_eq_false k1]; rfl) (n := l.length) (by omega))
      clear hnext hst
      go_wp2_with fail
      refine (hm.out _).mono ?_
      rintro e w4 ⟨rfl, b4⟩
      have b5 := ((BA.out (.cells #[.int .i64 xa, .int .i64 xb, .int .i64 xc] 31)).trans (b4.mono (by simp)))
      have B9 := hid (hb.out.trans (b5.mono hb.out.size))
      have D0 := (b5.cell (p := ⟨g, off + j1 * 3, none⟩) zg).trans d0
      have D2 := (b5.cell (p := ⟨g, off + j1 * 3 + 2, none⟩) zg).trans d2
      have E0 := (b4.cell (p := ⟨wr.heap.size, 0, none⟩) (by simp)).trans (box_cell wr #[.int .i64 xa, .int .i64 xb, .int .i64 xc] 31 0)
      clear b4 b5 hb d0 d1 d2 c0 c1 c2
      go_wp2_with fail
      go_quiet (fail)
      go_wp2_with fail
      go_ret
      exact ⟨by rw [hOK.out]; rfl, Below.drewN' B9.out _⟩
  ·obtain rfl : j = l.length := by omega
   go_wp2_with fail
   go_ret
   exact ⟨by rw [hok.out]; rfl, hb.out⟩
end Go.Proofs.YtgjmeeiejcbjfaaGreat
