/- The journal: of a device that is none. -/
import Derived.Test.YtnpdhidliaahbaaGreatR23
set_option linter.unusedSimpArgs false
set_option linter.unusedVariables false
namespace Go.Proofs.YtnpdhidliaahbaaGreat
open Go.Lib (hid)
open Go Go.RowKit
def NoDev (v : Value) (w : World) : Prop := v = .pointer none ∨ ∃ b, v = .pointer (some ⟨b, 0, none⟩) ∧ w.cell? ⟨b, 0, none⟩ = some (.slice none 0 0)
theorem NoDev.below {v : Value} {w w' : World} (h : NoDev v w) (hb : Below w.heap.size w w') : NoDev v w' := by
 rcases h with h | ⟨b, h, c⟩
 ·exact .inl h
 ·exact .inr ⟨b, h, (hb.cell (p := ⟨b, 0, none⟩) (World.block_lt_of_cell? w _ c)).trans c⟩
theorem noblocks {v : Value} {w : World} (h : NoDev v w) : Calls Tryz.prog 86 #[v] w fun e w' => e = .returned (.int .i64 0) ∧ w = w' := by
 rcases h with rfl | ⟨b, rfl, c⟩
 ·go_enter Tryz.func86, Tryz.ntmps86
  go_wp2_with fail
  go_ret
  exact ⟨rfl, rfl⟩
 ·go_enter Tryz.func86, Tryz.ntmps86
  go_wp2_with fail
  go_ret
  exact ⟨rfl, rfl⟩
set_option maxRecDepth 100000 in
set_option maxHeartbeats 8000000 in
theorem noring {v : Value} (g : Geo.G) {w : World} (h : NoDev v w) : Calls Tryz.prog 58 #[v, .agg (Geo.cells g)] w fun e w' => e = .returned (.tuple #[.agg #[.pointer none, .int .i64 0, .int .i64 0, .int .i64 0, .int .i64 0, .int .i64 0, .int .i64 0, .int .i64 0, .int .i64 0, .int .i64 0], .int .i64 1]) ∧ Below w.heap.size w w' := by
 have q := hid (fun wz (hz : Below w.heap.size w wz) => noblocks (h.below hz))
 obtain ⟨g1, g2, g3, g4, g5, g6, g7, g8, g9⟩ := g
 dsimp only [Geo.cells] at *
 have HA0 := hid (Row.new (w.alloc (.cells #[.int .i64 g1, .int .i64 g2, .int .i64 g3, .int .i64 g4, .int .i64 g5, .int .i64 g6, .int .i64 g7, .int .i64 g8, .int .i64 g9] 30)) 34 [.pointer none, .int .i64 0, .int .i64 0, .int .i64 0, .int .i64 0, .int .i64 0, .int .i64 0, .int .i64 0, .int .i64 0, .int .i64 0] rfl)
 have BA := hid (((Below.refl w.heap.size w).alloc (Nat.le_refl _) (.cells #[.int .i64 g1, .int .i64 g2, .int .i64 g3, .int .i64 g4, .int .i64 g5, .int .i64 g6, .int .i64 g7, .int .i64 g8, .int .i64 g9] 30)).alloc (by simp) (.cells #[.pointer none, .int .i64 0, .int .i64 0, .int .i64 0, .int .i64 0, .int .i64 0, .int .i64 0, .int .i64 0, .int .i64 0, .int .i64 0] 34))
 rw [World.size_alloc] at HA0
 obtain ⟨k0, k1, k2, k3, k4, k5, k6, k7, k8, k9⟩ := HA0.out.c10
 have f0 := HA0.out.free 0 (by simp)
 have f1 := HA0.out.free 1 (by simp)
 have f2 := HA0.out.free 2 (by simp)
 have f3 := HA0.out.free 3 (by simp)
 have f4 := HA0.out.free 4 (by simp)
 have f5 := HA0.out.free 5 (by simp)
 have f6 := HA0.out.free 6 (by simp)
 have f7 := HA0.out.free 7 (by simp)
 have f8 := HA0.out.free 8 (by simp)
 have f9 := HA0.out.free 9 (by simp)
 clear h
 go_enter Tryz.func58, Tryz.ntmps58
 go_wp2_with fail
 generalize (World.alloc _ (.cells #[.pointer none, .int .i64 0, .int .i64 0, .int .i64 0, .int .i64 0, .int .i64 0, .int .i64 0, .int .i64 0, .int .i64 0, .int .i64 0] 34)) = w1 at *
 refine (q.out _ BA.out).mono ?_
 rintro e w2 ⟨rfl, rfl⟩
 go_wp2_with fail
 have rF := (((((((((HA0.out.set 0 (.pointer none)).set 1 (.int .i64 0)).set 2 (.int .i64 0)).set 3 (.int .i64 0)).set 4 (.int .i64 0)).set 5 (.int .i64 0)).set 6 (.int .i64 0)).set 7 (.int .i64 0)).set 8 (.int .i64 0)).set 9 (.int .i64 0)
 obtain ⟨c0, c1, c2, c3, c4, c5, c6, c7, c8, c9⟩ := rF.c10
 exact bodyPost_ret (v := .tuple #[.agg #[.pointer none, .int .i64 0, .int .i64 0, .int .i64 0, .int .i64 0, .int .i64 0, .int .i64 0, .int .i64 0, .int .i64 0, .int .i64 0], .int .i64 1]) (by simp [results, Tryz.results58, go_sem, c0, c1, c2, c3, c4, c5, c6, c7, c8, c9]) rfl ⟨rfl, ((((((((((BA.out.setCell (p := ⟨w.heap.size + 1, 0, none⟩) (by dsimp only; omega) (.pointer none)).setCell (p := ⟨w.heap.size + 1, 1, none⟩) (by dsimp only; omega) (.int .i64 0)).setCell (p := ⟨w.heap.size + 1, 2, none⟩) (by dsimp only; omega) (.int .i64 0)).setCell (p := ⟨w.heap.size + 1, 3, none⟩) (by dsimp only; omega) (.int .i64 0)).setCell (p := ⟨w.heap.size + 1, 4, none⟩) (by dsimp only; omega) (.int .i64 0)).setCell (p := ⟨w.heap.size + 1, 5, none⟩) (by dsimp only; omega) (.int .i64 0)).setCell (p := ⟨w.heap.size + 1, 6, none⟩) (by dsimp only; omega) (.int .i64 0)).setCell (p := ⟨w.heap.size + 1, 7, none⟩) (by dsimp only; omega) (.int .i64 0)).setCell (p := ⟨w.heap.size + 1, 8, none⟩) (by dsimp only; omega) (.int .i64 0)).setCell (p := ⟨w.heap.size + 1, 9, none⟩) (by dsimp only; omega) (.int .i64 0))⟩
set_option maxRecDepth 100000 in
set_option maxHeartbeats 4000000 in
theorem noformat {v : Value} (g : Geo.G) {w : World} (h : NoDev v w) : Calls Tryz.prog 21 #[v, .agg (Geo.cells g)] w fun e w' => e = .returned (.int .i64 1) ∧ Below w.heap.size w w' := by
 have q := hid (fun wz (hz : Below w.heap.size w wz) => noring g (h.below hz))
 clear h
 unfold Geo.cells at *
 obtain ⟨g1, g2, g3, g4, g5, g6, g7, g8, g9⟩ := g
 dsimp only at *
 have R0 := Row.new w 30 [.int .i64 g1, .int .i64 g2, .int .i64 g3, .int .i64 g4, .int .i64 g5, .int .i64 g6, .int .i64 g7, .int .i64 g8, .int .i64 g9] rfl
 have BA : Below w.heap.size w (w.alloc (.cells #[.int .i64 g1, .int .i64 g2, .int .i64 g3, .int .i64 g4, .int .i64 g5, .int .i64 g6, .int .i64 g7, .int .i64 g8, .int .i64 g9] 30)) := (Below.refl w.heap.size w).alloc (Nat.le_refl _) _
 have HBA := hid BA
 obtain ⟨k0, k1, k2, k3, k4, k5, k6, k7, k8⟩ := R0.c9
 clear R0 BA
 go_enter Tryz.func21, Tryz.ntmps21
 go_wp2_with fail
 generalize w.alloc _ = w1 at *
 refine (q.out _ HBA.out).mono ?_
 rintro e w2 ⟨rfl, hb2⟩
 have B2 := hid (below_next HBA.out hb2)
 clear hb2
 go_wp2_with fail
 go_ret
 exact ⟨rfl, B2.out.alloc B2.out.size _⟩
set_option maxRecDepth 100000 in
set_option maxHeartbeats 4000000 in
theorem noopen {v : Value} (g : Geo.G) {w : World} (h : NoDev v w) : Calls Tryz.prog 16 #[v, .agg (Geo.cells g)] w fun e w' => e = .returned (.tuple #[.pointer none, .int .i64 1]) ∧ Below w.heap.size w w' := by
 have q := hid (fun wz (hz : Below w.heap.size w wz) => noring g (h.below hz))
 clear h
 unfold Geo.cells at *
 obtain ⟨g1, g2, g3, g4, g5, g6, g7, g8, g9⟩ := g
 dsimp only at *
 have R0 := Row.new w 30 [.int .i64 g1, .int .i64 g2, .int .i64 g3, .int .i64 g4, .int .i64 g5, .int .i64 g6, .int .i64 g7, .int .i64 g8, .int .i64 g9] rfl
 have BA : Below w.heap.size w (w.alloc (.cells #[.int .i64 g1, .int .i64 g2, .int .i64 g3, .int .i64 g4, .int .i64 g5, .int .i64 g6, .int .i64 g7, .int .i64 g8, .int .i64 g9] 30)) := (Below.refl w.heap.size w).alloc (Nat.le_refl _) _
 have HBA := hid BA
 obtain ⟨k0, k1, k2, k3, k4, k5, k6, k7, k8⟩ := R0.c9
 clear R0 BA
 go_enter Tryz.func16, Tryz.ntmps16
 go_wp2_with fail
 generalize w.alloc _ = w1 at *
 refine (q.out _ HBA.out).mono ?_
 rintro e w2 ⟨rfl, hb2⟩
 have B2 := hid (below_next HBA.out hb2)
 clear hb2
 go_wp2_with fail
 go_ret2
 exact ⟨rfl, B2.out.alloc B2.out.size _⟩
set_option maxRecDepth 100000 in
set_option maxHeartbeats 4000000 in
theorem noreplay {v : Value} (g : Geo.G) {w : World} (h : NoDev v w) : Calls Tryz.prog 15 #[v, .agg (Geo.cells g)] w fun e w' => e = .returned (.tuple #[.slice none 0 0, .int .i64 1]) ∧ Below w.heap.size w w' := by
 have q := hid (fun wz (hz : Below w.heap.size w wz) => noring g (h.below hz))
 clear h
 unfold Geo.cells at *
 obtain ⟨g1, g2, g3, g4, g5, g6, g7, g8, g9⟩ := g
 dsimp only at *
 have R0 := Row.new w 30 [.int .i64 g1, .int .i64 g2, .int .i64 g3, .int .i64 g4, .int .i64 g5, .int .i64 g6, .int .i64 g7, .int .i64 g8, .int .i64 g9] rfl
 have BA : Below w.heap.size w (w.alloc (.cells #[.int .i64 g1, .int .i64 g2, .int .i64 g3, .int .i64 g4, .int .i64 g5, .int .i64 g6, .int .i64 g7, .int .i64 g8, .int .i64 g9] 30)) := (Below.refl w.heap.size w).alloc (Nat.le_refl _) _
 have HBA := hid BA
 obtain ⟨k0, k1, k2, k3, k4, k5, k6, k7, k8⟩ := R0.c9
 clear R0 BA
 go_enter Tryz.func15, Tryz.ntmps15
 go_wp2_with fail
 generalize w.alloc _ = w1 at *
 refine (q.out _ HBA.out).mono ?_
 rintro e w2 ⟨rfl, hb2⟩
 have B2 := hid (below_next HBA.out hb2)
 clear hb2
 go_wp2_with fail
 go_ret2
 exact ⟨rfl, B2.out.alloc B2.out.size _⟩
end Go.Proofs.YtnpdhidliaahbaaGreat
