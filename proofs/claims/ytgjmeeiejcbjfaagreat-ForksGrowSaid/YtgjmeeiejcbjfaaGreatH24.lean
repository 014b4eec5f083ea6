/- Forks: a tree as it was, in memory of its own. -/
import Derived.Test.YtgjmeeiejcbjfaaGreatH23
set_option linter.unusedSimpArgs false
set_option linter.unusedVariables false
namespace Go.Proofs.YtgjmeeiejcbjfaaGreat
open Go.Lib (hid)
open Go Go.RowKit
def setV (d : Int) (rv cv fv : Value) : Value := .agg #[.int .i64 d, rv, cv, fv]
theorem World.setCells4_other {X Y : Nat} (h : X ≠ Y) (w : World) (a b : Value) : ((((w.setCell ⟨Y, 0, none⟩ a).setCell ⟨Y, 1, none⟩ b).setCell ⟨Y, 2, none⟩ (.slice none 0 0)).setCell ⟨Y, 3, none⟩ (.slice none 0 0)).heap[X]? = w.heap[X]? := by
 rw [Below.heap_setCell _ _ _ _ h, Below.heap_setCell _ _ _ _ h, Below.heap_setCell _ _ _ _ h, Below.heap_setCell _ _ _ _ h]
set_option maxRecDepth 100000 in
set_option maxHeartbeats 2000000 in
theorem same_any (d : Int) (rv : Value) (root : EL) (w : World) (h : EntsAt w rv root) (hl : root.length ≤ 1000000) :
  Calls Tryz.prog 63 #[.agg #[.int .i64 d, rv]] w fun e w' => ∃ v', e = .returned (setV d v' (.slice none 0 0) (.slice none 0 0)) ∧ OwnEnts w.heap.size w' v' root ∧ Below w.heap.size w w' := by
 have H := hid h
 obtain ⟨ad, cap, rfl⟩ := h.form
 clear h
 have hb1 := hid ((Below.refl w.heap.size w).alloc (Nat.le_refl _) (.cells #[.int .i64 d, .slice ad root.length cap] 35))
 have x0 : (w.alloc (.cells #[.int .i64 d, .slice ad root.length cap] 35)).cell? ⟨w.heap.size, 0, none⟩ = some (.int .i64 d) := box_cell _ _ _ _
 have x1 : (w.alloc (.cells #[.int .i64 d, .slice ad root.length cap] 35)).cell? ⟨w.heap.size, 1, none⟩ = some (.slice ad root.length cap) := box_cell _ _ _ _
 have zX : w.heap.size < (w.alloc (.cells #[.int .i64 d, .slice ad root.length cap] 35)).heap.size := by simp
 have hE := hid (H.out.ext.below (B := 0) hb1.out)
 go_enter Tryz.func63, Tryz.ntmps63
 go_wp2_with fail
 have hYb := heap_alloc_new (w.alloc (.cells #[.int .i64 d, .slice ad root.length cap] 35)) (.cells #[.int .i64 0, .slice none 0 0, .slice none 0 0, .slice none 0 0] 58)
 have bA2 : Below (w.alloc (.cells #[.int .i64 d, .slice ad root.length cap] 35)).heap.size (w.alloc (.cells #[.int .i64 d, .slice ad root.length cap] 35)) ((w.alloc (.cells #[.int .i64 d, .slice ad root.length cap] 35)).alloc (.cells #[.int .i64 0, .slice none 0 0, .slice none 0 0, .slice none 0 0] 58)) := (Below.refl _ _).alloc (Nat.le_refl _) _
 have hE2 := hid (hE.out.below (B := 0) bA2)
 have hb2 := hid (hb1.out.trans (bA2.mono (Nat.le_of_lt zX)))
 have y0 := (bA2.cell (p := ⟨w.heap.size, 0, none⟩) zX).trans x0
 have y1 := (bA2.cell (p := ⟨w.heap.size, 1, none⟩) zX).trans x1
 have e1 : (w.alloc (.cells #[.int .i64 d, .slice ad root.length cap] 35)).heap.size = w.heap.size + 1 := by simp
 rw [e1] at hYb
 have hXY : w.heap.size ≠ w.heap.size + 1 := by omega
 have hX2 : w.heap.size < ((w.alloc (.cells #[.int .i64 d, .slice ad root.length cap] 35)).alloc (.cells #[.int .i64 0, .slice none 0 0, .slice none 0 0, .slice none 0 0] 58)).heap.size := by simp; omega
 have hY2 : w.heap.size + 1 < ((w.alloc (.cells #[.int .i64 d, .slice ad root.length cap] 35)).alloc (.cells #[.int .i64 0, .slice none 0 0, .slice none 0 0, .slice none 0 0] 58)).heap.size := by simp
 have hwY : w.heap.size ≤ w.heap.size + 1 := by omega
 clear x0 x1 zX hE hb1 bA2 e1
 generalize (w.alloc (.cells #[.int .i64 d, .slice ad root.length cap] 35)).alloc (.cells #[.int .i64 0, .slice none 0 0, .slice none 0 0, .slice none 0 0] 58) = wx at *
 have HW := hid hwY
 have hXw : Hid (w.heap.size ≤ wx.heap.size) := hid (Nat.le_of_lt hX2)
 clear hwY
 generalize hX : w.heap.size = X at *
 generalize X + 1 = Y at *
 have q := hid (fun wz (hz : Below wx.heap.size wx wz) => nclone_any (.slice ad root.length cap) root wz (hE2.out.below (B := 0) hz) (by omega))
 have b0 : Below wx.heap.size wx wx.drew := (Below.refl _ _).drew
 go_region_held3 (fun w' => w'.cell? ⟨X, 0, none⟩ = some (.int .i64 d) ∧ w'.cell? ⟨X, 1, none⟩ = some (.slice ad root.length cap))
  (first | exact ⟨y0, y1⟩ | exact ⟨(s4.cell (p := ⟨X, 0, none⟩) hX2).trans y0, (s4.cell (p := ⟨X, 1, none⟩) hX2).trans y1⟩ | exact ⟨z0, z1⟩)
  ((go_at_call 100; refine (q.out _ b0).mono ?_; rintro e w4 ⟨v4, rfl, o4, b4⟩; have s4 : Below wx.heap.size wx w4 := b0.trans (b4.mono b0.size); have Y4 := (s4.block Y hY2).trans hYb; have k0 : w4.cell? ⟨Y, 0, none⟩ = some (.int .i64 0) := cell_of_row w4 Y 0 _ _ _ Y4; have k1 : w4.cell? ⟨Y, 1, none⟩ = some (.slice none 0 0) := cell_of_row w4 Y 1 _ _ _ Y4; have k2 : w4.cell? ⟨Y, 2, none⟩ = some (.slice none 0 0) := cell_of_row w4 Y 2 _ _ _ Y4; have k3 : w4.cell? ⟨Y, 3, none⟩ = some (.slice none 0 0) := cell_of_row w4 Y 3 _ _ _ Y4; have g0 := free_zero Y4 0; have g1 := free_zero Y4 1; have g2 := free_zero Y4 2; have g3 := free_zero Y4 3; obtain ⟨a4, c4, rfl⟩ := OwnEnts.slice o4; have O4 := hid o4; have z0 := (World.cell?_of_block (World.setCells4_other hXY w4 (.int .i64 d) (.slice a4 root.length c4))).trans ((s4.cell (p := ⟨X, 0, none⟩) hX2).trans y0); have z1 := (World.cell?_of_block (World.setCells4_other hXY w4 (.int .i64 d) (.slice a4 root.length c4))).trans ((s4.cell (p := ⟨X, 1, none⟩) hX2).trans y1)))
 have W5 := block_setCell (block_setCell (block_setCell (block_setCell Y4 0 (.int .i64 d)) 1 (.slice a4 root.length c4)) 2 (.slice none 0 0)) 3 (.slice none 0 0)
 have hYX : X ≤ Y := HW.out
 have hbs : wx.heap.size ≤ wx.drew.heap.size := Nat.le_refl _
 have B5 := hid (show Below X w ((((w4.setCell ⟨Y, 0, none⟩ (.int .i64 d)).setCell ⟨Y, 1, none⟩ (.slice a4 root.length c4)).setCell ⟨Y, 2, none⟩ (.slice none 0 0)).setCell ⟨Y, 3, none⟩ (.slice none 0 0)) from (((((hb2.out.trans (s4.mono hXw.out)).setCell hYX _).setCell hYX _).setCell hYX _).setCell hYX _))
 have O5 : Hid (OwnEnts X ((((w4.setCell ⟨Y, 0, none⟩ (.int .i64 d)).setCell ⟨Y, 1, none⟩ (.slice a4 root.length c4)).setCell ⟨Y, 2, none⟩ (.slice none 0 0)).setCell ⟨Y, 3, none⟩ (.slice none 0 0)) (.slice a4 root.length c4) root) := hid (by
  have h := O4.out
  unfold OwnEnts at h
  have hY3 : Y < wx.drew.heap.size := hY2
  have h1 := own_setB (own_setB (own_setB (own_setB h (a := ⟨Y, 0, none⟩) hY3 (.int .i64 d)) (a := ⟨Y, 1, none⟩) hY3 (.slice a4 root.length c4)) (a := ⟨Y, 2, none⟩) hY3 (.slice none 0 0)) (a := ⟨Y, 3, none⟩) hY3 (.slice none 0 0)
  exact World.ownsRow.mono h1 hXw.out)
 clear k0 k1 k2 k3 g0 g1 g2 g3 Y4 s4 O4 z0 z1 b0 q hb2
 generalize (((w4.setCell ⟨Y, 0, none⟩ (.int .i64 d)).setCell ⟨Y, 1, none⟩ (.slice a4 root.length c4)).setCell ⟨Y, 2, none⟩ (.slice none 0 0)).setCell ⟨Y, 3, none⟩ (.slice none 0 0) = w5 at *
 have n0 : w5.cell? ⟨Y, 0, none⟩ = some (.int .i64 d) := cell_of_row w5 Y 0 _ _ _ W5
 have n1 : w5.cell? ⟨Y, 1, none⟩ = some (.slice a4 root.length c4) := cell_of_row w5 Y 1 _ _ _ W5
 have n2 : w5.cell? ⟨Y, 2, none⟩ = some (.slice none 0 0) := cell_of_row w5 Y 2 _ _ _ W5
 have n3 : w5.cell? ⟨Y, 3, none⟩ = some (.slice none 0 0) := cell_of_row w5 Y 3 _ _ _ W5
 go_wp2_with fail
 refine bodyPost_ret (v := setV d (.slice a4 root.length c4) (.slice none 0 0) (.slice none 0 0)) ?_ rfl ⟨.slice a4 root.length c4, rfl, by rw [hX]; exact O5.out, by rw [hX]; exact B5.out⟩
 first | (simp [results, Tryz.results63, go_sem, n0, n1, n2, n3, setV]; done) | (simp [results, Tryz.results63, go_sem, n0, n1, n2, n3, setV, loadN]; done)
end Go.Proofs.YtgjmeeiejcbjfaaGreat
