/- ForksMoves: the walk. -/
import Derived.Test.YtgjmeeiejcbjfaaGreatM48
import Derived.Test.YtgjmeeiejcbjfaaGreatM49
import Derived.Test.YtgjmeeiejcbjfaaGreatM51
set_option linter.unusedSimpArgs false
set_option linter.unusedVariables false
namespace Go.Proofs.YtgjmeeiejcbjfaaGreat
open Go.Lib (hid)
open Go Go.RowKit
set_option maxHeartbeats 8000000 in
set_option maxRecDepth 100000 in
theorem ForksMoves_walk (depth : Int) (ar : Option Addr) (cr : Nat) (root : EL) (ad : Option Addr) (cap : Nat) (cl : CL) (bad sl sn st sf sd : Int) {w : World} (hTI : TreeIn w depth (.slice ar root.length cr) root) (hDI : DiskIn w (.slice ad cl.length cap) cl bad) (hSI : In64 sl ∧ In64 sn ∧ In64 st ∧ In64 sf ∧ In64 sd) :
  Calls Tryz.prog 5 #[.agg #[.int .i64 depth, .slice ar root.length cr], .agg #[.slice ad cl.length cap, .int .i64 bad], .agg #[.int .i64 sl, .int .i64 sn, .int .i64 st, .int .i64 sf, .int .i64 sd]] w fun e w' => e = .returned (.bool true) ∧ Below w.heap.size w w' := by
 have HR := hid hTI.root.at_
 have HRs := hid hTI.root.small
 have HC := hid hDI.chgs.at_
 have HCs := hid hDI.chgs.small
 have hd := hid hTI.depth
 have hbad := hid hDI.bad
 have hcl := hDI.chgs.len
 have hrl := hTI.root.len
 have HSI := hid hSI
 clear hTI hDI hSI
 generalize hw3 : ((w.alloc (.cells #[.int .i64 depth, .slice ar root.length cr] 35)).alloc (.cells #[.slice ad cl.length cap, .int .i64 bad] 38)).alloc (.cells #[.int .i64 sl, .int .i64 sn, .int .i64 st, .int .i64 sf, .int .i64 sd] 56) = w3
 have b3 : Below w.heap.size w w3 := by subst hw3; exact (((Below.refl _ _).alloc (Nat.le_refl _) _).alloc (by simp) _).alloc (by simp; omega) _
 have qg := hid (great_any (.slice ad cl.length cap) cl bad (.slice ar root.length cr) root w3 (HC.out.below b3) ⟨ar, cr, rfl⟩ hcl hrl (fun x hx => (HCs.out x hx).2))
 subst hw3
 go_enter Tryz.func5, Tryz.ntmps5
 go_wp2_with fail
 refine qg.out.mono ?_
 rintro e w4 ⟨rfl, b4⟩
 have B4 := hid (b3.trans (b4.mono b3.size))
 have t0 : w4.heap[w.heap.size]? = some (.cells #[.int .i64 depth, .slice ar root.length cr] 35 (0, 0)) := by rw [b4.block _ (by simp; omega)]; exact heap_alloc_at (heap_alloc_at (heap_alloc_new _ _) _) _
 have t1 : w4.heap[w.heap.size + 1]? = some (.cells #[.slice ad cl.length cap, .int .i64 bad] 38 (0, 0)) := by
  rw [b4.block _ (by simp)]
  have h1 := heap_alloc_new (w.alloc (.cells #[.int .i64 depth, .slice ar root.length cr] 35)) (.cells #[.slice ad cl.length cap, .int .i64 bad] 38)
  rw [asz] at h1
  exact heap_alloc_at h1 _
 have t2 : w4.heap[w.heap.size + 1 + 1]? = some (.cells #[.int .i64 sl, .int .i64 sn, .int .i64 st, .int .i64 sf, .int .i64 sd] 56 (0, 0)) := by
  rw [b4.block _ (by simp)]
  have h1 := heap_alloc_new ((w.alloc (.cells #[.int .i64 depth, .slice ar root.length cr] 35)).alloc (.cells #[.slice ad cl.length cap, .int .i64 bad] 38)) (.cells #[.int .i64 sl, .int .i64 sn, .int .i64 st, .int .i64 sf, .int .i64 sd] 56)
  rw [asz, asz] at h1
  exact h1
 clear b3 b4 qg
 have c10 := cell_of_row _ _ 0 _ _ _ t1
 have c11 := cell_of_row _ _ 1 _ _ _ t1
 generalize hG : (decide (300 < cl.length) || decide (100 < root.length) || greatTo cl) = g at *
 cases g with
 | true =>
  clear HR HC HCs HRs
  go_wp2_with fail
  all_goals (go_ret; exact ⟨rfl, B4.out⟩)
 | false =>
 have qb := hid (blocks_any (.slice ad cl.length cap) cl bad w4 (HC.out.below B4.out) (by simp [Bool.or_eq_false_iff] at hG; omega) (fun x hx => (HCs.out x hx).1))
 have hgt : greatTo cl = false := by simp only [Bool.or_eq_false_iff] at hG; exact hG.2
 have hrl' : root.length ≤ 100 := by simp [Bool.or_eq_false_iff] at hG; omega
 clear hG hcl hrl
 go_wp2_with fail
 refine qb.out.mono ?_
 rintro e w5 ⟨D, rfl, hD, hrow, b5⟩
 have B5 := hid (B4.out.trans (b5.mono B4.out.size))
 have HRow := hid hrow
 have u0 := (b5.block _ (lt_of_block t0)).trans t0
 have u1 := (b5.block _ (lt_of_block t1)).trans t1
 have u2 := (b5.block _ (lt_of_block t2)).trans t2
 clear qb hrow b5 c10 c11 B4 t0 t1 t2
 have hDl := HRow.out.lt
 have hLn := hid (diskOf_len cl)
 have hsm : Hid (∀ x y, (⟨diskOf cl, bad⟩ : Forks.Disk).rd x = some y → y.size ≤ 140737488351232) := hid (fun x y h => by
  rcases diskOf_small hgt y (Forks.rd_mem h) with h | h
  ·omega
  ·rw [h, zblk_size]; omega)
 have hsm2 : Hid (∀ s ∈ diskOf cl, s.size ≤ 140737488351232) := hid (fun s hs => by
  rcases diskOf_small hgt s hs with h | h
  ·omega
  ·rw [h, zblk_size]; omega)
 generalize diskOf cl = LD at *
 have KEEP : Hid (∀ w', Below w5.heap.size w5 w' → w'.cell? ⟨w.heap.size, 0, none⟩ = some (.int .i64 depth) ∧ w'.cell? ⟨w.heap.size, 1, none⟩ = some (.slice ar root.length cr) ∧ w'.cell? ⟨w.heap.size + 1, 1, none⟩ = some (.int .i64 bad)) := hid (fun wz hz => by
  have v0 := (hz.block _ (lt_of_block u0)).trans u0
  have v1 := (hz.block _ (lt_of_block u1)).trans u1
  exact ⟨cell_of_row _ _ 0 _ _ _ v0, cell_of_row _ _ 1 _ _ _ v0, cell_of_row _ _ 1 _ _ _ v1⟩)
 have KEEP2 : Hid (∀ w', Below w5.heap.size w5 w' → w'.cell? ⟨w.heap.size + 1 + 1, 0, none⟩ = some (.int .i64 sl) ∧ w'.cell? ⟨w.heap.size + 1 + 1, 1, none⟩ = some (.int .i64 sn) ∧ w'.cell? ⟨w.heap.size + 1 + 1, 2, none⟩ = some (.int .i64 st) ∧ w'.cell? ⟨w.heap.size + 1 + 1, 3, none⟩ = some (.int .i64 sf) ∧ w'.cell? ⟨w.heap.size + 1 + 1, 4, none⟩ = some (.int .i64 sd)) := hid (fun wz hz => by
  have v2 := (hz.block _ (lt_of_block u2)).trans u2
  exact ⟨cell_of_row _ _ 0 _ _ _ v2, cell_of_row _ _ 1 _ _ _ v2, cell_of_row _ _ 2 _ _ _ v2, cell_of_row _ _ 3 _ _ _ v2, cell_of_row _ _ 4 _ _ _ v2⟩)
 have qt := hid (fun wz (hz : Below w5.heap.size w5 wz) => ntwin_any (.slice ar root.length cr) root wz (HR.out.below (B := 0) (B5.out.trans (hz.mono B5.out.size))) (by omega))
 have ROWK := hid (fun wz (hz : Below w5.heap.size w5 wz) => HRow.out.below hz hDl)
 clear HRow u0 u1 u2
 go_upto_region 4 with fail
 go_cut [8] from 22 to 27 (fun y wc => ∃ (Y g c : Nat), y = .pointer (some ⟨Y, 0, none⟩) ∧ Hid (WK w w5 D Y g c depth root LD wc))
 case first =>
  have bA : Below w5.heap.size w5 (w5.alloc (.cells #[.int .i64 0, .slice none 0 0] 35)).drew := ((Below.refl _ _).alloc (Nat.le_refl _) _).drew
  have b0 : Below w5.heap.size w5 w5.drew := (Below.refl _ _).drew
  have NA : Hid ((w5.alloc (.cells #[.int .i64 0, .slice none 0 0] 35)).drew.heap[w5.heap.size]? = some (.cells #[.int .i64 0, .slice none 0 0] 35)) := hid (heap_alloc_new w5 (.cells #[.int .i64 0, .slice none 0 0] 35))
  go_region_held3 (fun w' => w'.cell? ⟨w.heap.size, 0, none⟩ = some (.int .i64 depth) ∧ w'.cell? ⟨w.heap.size, 1, none⟩ = some (.slice ar root.length cr) ∧ w'.cell? ⟨w.heap.size + 1, 1, none⟩ = some (.int .i64 bad))
   (first | (refine KEEP.out _ ?_; assumption) | exact Z7)
   (first
    | (go_at_call 9; (with_reducible refine (qt.out _ bA).mono ?_); rintro e w6 ⟨v6, rfl, t6, b6⟩; have s6 : Below w5.heap.size w5 w6 := bA.trans (b6.mono bA.size); have N6 := (b6.block _ (lt_of_block NA.out)).trans NA.out; obtain ⟨k0, k1, f0, f1⟩ := tree_cells N6; obtain ⟨g, c, rfl, -⟩ := id t6; have X7 := wk_put (depth := depth) (ROWK.out _ s6) (TwinN.mono bA.size t6) N6 (Nat.le_refl _) s6 B5.out hDl _ rfl; have Z7 := KEEP.out _ X7.bel)
    | (go_at_call 9; (with_reducible refine (qt.out _ b0).mono ?_); rintro e w6 ⟨v6, rfl, t6, b6⟩; have s6 : Below w5.heap.size w5 w6 := b0.trans (b6.mono b0.size); have s6A : Below w5.heap.size w5 (w6.alloc (.cells #[.int .i64 0, .slice none 0 0] 35)) := s6.alloc s6.size _; have N6 := heap_alloc_new w6 (.cells #[.int .i64 0, .slice none 0 0] 35); obtain ⟨k0, k1, f0, f1⟩ := tree_cells N6; obtain ⟨g, c, rfl, -⟩ := id t6; have X7 := wk_new (depth := depth) (ROWK.out _ s6) (TwinN.mono b0.size t6) s6 B5.out hDl _ rfl; have Z7 := KEEP.out _ X7.bel)
    | fail "none")
  all_goals first
   | (go_meet; exact ⟨_, _, _, rfl, hid X7⟩)
   | (go_step; go_meet; exact ⟨_, _, _, rfl, hid X7⟩)
   | (go_step; go_step; go_meet; exact ⟨_, _, _, rfl, hid X7⟩)
   | fail "no end"
 obtain ⟨Y, g, c, rfl, hcut4⟩ := hcut
 have WK0 := hid hcut4.out
 clear hcut4 qt ROWK
 generalize hr1 : Forks.moveT ⟨LD, bad⟩ depth root sl sn st = r1
 have QM := hid (fun (wz : World) (P : Nat) (h : WK w w5 D Y g c depth root LD wz) (hdk : DiskAt wz.heap.size wz (RDV P (P + 1)) ⟨LD, bad⟩) => show Calls _ _ #[.agg #[.int .i64 depth, .slice (some ⟨g, 0, none⟩) root.length c], _, .int .i64 sl, .int .i64 sn, .int .i64 st] wz (fun e w' => SetOut wz r1 e w') from by
  have := move_any wz P (P + 1) ⟨LD, bad⟩ depth (.slice (some ⟨g, 0, none⟩) root.length c) root HRs.out h.twin.ents (by omega) hd.out hdk hsm.out sl sn st HSI.out.1 HSI.out.2.1 HSI.out.2.2.1
  rw [hr1] at this
  exact this)
 go_upto_region 5 with fail
 go_cut [9, 10] from 28 to 42 (fun y z wd => ∃ (X : Nat) (a1 a2 a3 : Option Addr) (c1 c2 c3 : Nat), y = .pointer (some ⟨X, 0, none⟩) ∧ z = .int .i64 (repE r1) ∧ w5.heap.size ≤ X ∧ Hid (WK w w5 D Y g c depth root LD wd ∧ SetRow wd X r1 a1 a2 a3 c1 c2 c3 ∧ RepAt w5.heap.size wd r1 a1 a2 a3 c1 c2 c3))
 case first =>
  have zw : w5.heap.size ≤ wc.heap.size := WK0.out.bel.size
  have bA : Below wc.heap.size wc (wc.alloc (.cells #[.int .i64 0, .slice none 0 0, .slice none 0 0, .slice none 0 0] 58)).drew := ((Below.refl _ _).alloc (Nat.le_refl _) _).drew
  have b0 : Below wc.heap.size wc wc.drew := (Below.refl _ _).drew
  have SB0 := hid (WK0.out.below b0)
  have SBA := hid (WK0.out.below bA)
  have NA : Hid ((wc.alloc (.cells #[.int .i64 0, .slice none 0 0, .slice none 0 0, .slice none 0 0] 58)).drew.heap[wc.heap.size]? = some (.cells #[.int .i64 0, .slice none 0 0, .slice none 0 0, .slice none 0 0] 58)) := hid (heap_alloc_new wc (.cells #[.int .i64 0, .slice none 0 0, .slice none 0 0, .slice none 0 0] 58))
  have hPA : (wc.alloc (.cells #[.int .i64 0, .slice none 0 0, .slice none 0 0, .slice none 0 0] 58)).drew.heap.size = wc.heap.size + 1 := by simp
  have hP0 : wc.drew.heap.size = wc.heap.size := rfl
  have K5 : Hid (∀ w', Below wc.heap.size wc w' → w'.cell? ⟨Y, 0, none⟩ = some (.int .i64 depth) ∧ w'.cell? ⟨Y, 1, none⟩ = some (.slice (some ⟨g, 0, none⟩) root.length c) ∧ w'.cell? ⟨w.heap.size + 1, 1, none⟩ = some (.int .i64 bad) ∧ w'.cell? ⟨w.heap.size + 1 + 1, 0, none⟩ = some (.int .i64 sl) ∧ w'.cell? ⟨w.heap.size + 1 + 1, 1, none⟩ = some (.int .i64 sn) ∧ w'.cell? ⟨w.heap.size + 1 + 1, 2, none⟩ = some (.int .i64 st)) := hid (fun wz hz => by
   have h1 := WK0.out.below hz
   have h2 := tree_cells h1.tree
   have h3 := KEEP2.out _ h1.bel
   exact ⟨h2.1, h2.2.1, (KEEP.out _ h1.bel).2.2, h3.1, h3.2.1, h3.2.2.1⟩)
  go_region_held3 (fun w' => w'.cell? ⟨Y, 0, none⟩ = some (.int .i64 depth) ∧ w'.cell? ⟨Y, 1, none⟩ = some (.slice (some ⟨g, 0, none⟩) root.length c) ∧ w'.cell? ⟨w.heap.size + 1, 1, none⟩ = some (.int .i64 bad) ∧ w'.cell? ⟨w.heap.size + 1 + 1, 0, none⟩ = some (.int .i64 sl) ∧ w'.cell? ⟨w.heap.size + 1 + 1, 1, none⟩ = some (.int .i64 sn) ∧ w'.cell? ⟨w.heap.size + 1 + 1, 2, none⟩ = some (.int .i64 st))
   (first | (refine K5.out _ ?_; assumption) | exact Z7)
   (first
    | (go_at_call 20; (with_reducible refine (reading2_any D bad _).mono ?_); rintro e w6 ⟨rfl, hw6⟩; have Q6 := SBA.out.readP hLn.out bad _ hPA w6 hw6; have N6 := read_keep hw6 NA.out; have s6 := bA.trans ((read_below hw6).mono bA.size); clear hw6)
    | (go_at_call 20; (with_reducible refine (reading2_any D bad _).mono ?_); rintro e w6 ⟨rfl, hw6⟩; have Q6 := SB0.out.readP hLn.out bad _ hP0 w6 hw6; have s6 := b0.trans ((read_below hw6).mono b0.size); have A6 := Q6.1.below ((Below.refl _ _).alloc (Nat.le_refl _) (.cells #[.int .i64 0, .slice none 0 0, .slice none 0 0, .slice none 0 0] 58)); have D6 := Q6.2.below ((Below.refl _ _).alloc (Nat.le_refl _) (.cells #[.int .i64 0, .slice none 0 0, .slice none 0 0, .slice none 0 0] 58)); have s6A := s6.alloc s6.size (.cells #[.int .i64 0, .slice none 0 0, .slice none 0 0, .slice none 0 0] 58); have M6 := heap_alloc_new w6 (.cells #[.int .i64 0, .slice none 0 0, .slice none 0 0, .slice none 0 0] 58); clear hw6)
    | (go_at_call 24; (with_reducible refine (QM.out _ _ Q6.1 Q6.2).mono ?_); rintro e w7 h7; obtain ⟨b7, a1, a2, a3, c1, c2, c3, rfl, p7⟩ := set_flat h7; have s7 := s6.trans (b7.mono s6.size); have N7 := (b7.block _ (lt_of_block N6)).trans N6; obtain ⟨k0, k1, k2, k3, g0, g1, g2, g3⟩ := set_cells N7; have X7 := m5_put (Q6.1.below b7) N7 zw p7 Q6.1.bel.size _ rfl; have Z7 := K5.out _ (s7.trans (put4_below w7 (.int .i64 (repD r1)) (.slice a1 (repR r1).length c1) (.slice a2 (repC r1).length c2) (.slice a3 (repF r1).length c3) (Nat.le_refl _))); unfold put4 at X7 Z7)
    | (go_at_call 24; (with_reducible refine (QM.out _ _ A6 (D6.mono (by simp))).mono ?_); rintro e w7 h7; obtain ⟨b7, a1, a2, a3, c1, c2, c3, rfl, p7⟩ := set_flat h7; have s7 := s6A.trans (b7.mono s6A.size); have N7 := (b7.block _ (lt_of_block M6)).trans M6; obtain ⟨k0, k1, k2, k3, g0, g1, g2, g3⟩ := set_cells N7; have X7 := m5_put (A6.below b7) N7 Q6.1.bel.size p7 A6.bel.size _ rfl; have Z7 := K5.out _ (s7.trans (put4_below w7 (.int .i64 (repD r1)) (.slice a1 (repR r1).length c1) (.slice a2 (repC r1).length c2) (.slice a3 (repF r1).length c3) s6.size)); unfold put4 at X7 Z7)
    | (go_at_call 24; (with_reducible refine (QM.out _ _ Q6.1 Q6.2).mono ?_); rintro e w7 h7; obtain ⟨b7, a1, a2, a3, c1, c2, c3, rfl, p7⟩ := set_flat h7; have s7 := s6.trans (b7.mono s6.size); have N7 := heap_alloc_new w7 (.cells #[.int .i64 0, .slice none 0 0, .slice none 0 0, .slice none 0 0] 58); obtain ⟨k0, k1, k2, k3, g0, g1, g2, g3⟩ := set_cells N7; have X7 := m5_new (Q6.1.below b7) p7 Q6.1.bel.size _ rfl; have z7 := (Q6.1.below b7).bel.size; have s7A := s7.alloc s7.size (.cells #[.int .i64 0, .slice none 0 0, .slice none 0 0, .slice none 0 0] 58); have Z7 := K5.out _ (s7.alloc s7.size (.cells #[.int .i64 (repD r1), .slice a1 (repR r1).length c1, .slice a2 (repC r1).length c2, .slice a3 (repF r1).length c3] 58)))
    | fail "none")
  all_goals first
   | (go_meet; exact ⟨_, _, _, _, _, _, _, rfl, rfl, by have := Q6.1.bel.size; omega, hid X7⟩)
   | (go_step; go_meet; exact ⟨_, _, _, _, _, _, _, rfl, rfl, by have := Q6.1.bel.size; omega, hid X7⟩)
   | (go_step; go_step; go_meet; exact ⟨_, _, _, _, _, _, _, rfl, rfl, by have := Q6.1.bel.size; omega, hid X7⟩)
   | fail "no end"
 obtain ⟨X1, a1, a2, a3, c1, c2, c3, rfl, rfl, hX1, hcut5⟩ := hcut
 have MX0 : Hid (MX w w5 D Y g c depth root LD X1 r1 a1 a2 a3 c1 c2 c3 wc) := hid ⟨hcut5.out.1, hcut5.out.2.1, hcut5.out.2.2⟩
 have hX1w : X1 < wc.heap.size := lt_of_block hcut5.out.2.1
 have WK1 := hid MX0.out.wk
 clear hcut5 WK0 QM
 have WK0 := WK1
 generalize hr2 : Forks.leadT ⟨LD, bad⟩ depth root sf sd = r2
 have QM := hid (fun (wz : World) (P : Nat) (h : WK w w5 D Y g c depth root LD wz) (hdk : DiskAt wz.heap.size wz (RDV P (P + 1)) ⟨LD, bad⟩) => show Calls _ _ #[.agg #[.int .i64 depth, .slice (some ⟨g, 0, none⟩) root.length c], _, .int .i64 sf, .int .i64 sd] wz (fun e w' => SetOut wz r2 e w') from by
  have := lead_any wz P (P + 1) ⟨LD, bad⟩ depth (.slice (some ⟨g, 0, none⟩) root.length c) root HRs.out h.twin.ents (by omega) hd.out hdk hsm.out sf sd HSI.out.2.2.2.1 HSI.out.2.2.2.2
  rw [hr2] at this
  exact this)
 go_upto_region 6 with fail
 go_cut [11, 12] from 43 to 55 (fun y z wd => ∃ (X : Nat) (e1 e2 e3 : Option Addr) (f1 f2 f3 : Nat), y = .pointer (some ⟨X, 0, none⟩) ∧ z = .int .i64 (repE r2) ∧ w5.heap.size ≤ X ∧ X1 ≠ X ∧ Hid (MX w w5 D Y g c depth root LD X1 r1 a1 a2 a3 c1 c2 c3 wd ∧ SetRow wd X r2 e1 e2 e3 f1 f2 f3 ∧ RepAt w5.heap.size wd r2 e1 e2 e3 f1 f2 f3))
 case first =>
  have zw : w5.heap.size ≤ wc.heap.size := WK0.out.bel.size
  have bA : Below wc.heap.size wc (wc.alloc (.cells #[.int .i64 0, .slice none 0 0, .slice none 0 0, .slice none 0 0] 58)).drew := ((Below.refl _ _).alloc (Nat.le_refl _) _).drew
  have b0 : Below wc.heap.size wc wc.drew := (Below.refl _ _).drew
  have SB0 := hid (WK0.out.below b0)
  have SBA := hid (WK0.out.below bA)
  have NA : Hid ((wc.alloc (.cells #[.int .i64 0, .slice none 0 0, .slice none 0 0, .slice none 0 0] 58)).drew.heap[wc.heap.size]? = some (.cells #[.int .i64 0, .slice none 0 0, .slice none 0 0, .slice none 0 0] 58)) := hid (heap_alloc_new wc (.cells #[.int .i64 0, .slice none 0 0, .slice none 0 0, .slice none 0 0] 58))
  have hPA : (wc.alloc (.cells #[.int .i64 0, .slice none 0 0, .slice none 0 0, .slice none 0 0] 58)).drew.heap.size = wc.heap.size + 1 := by simp
  have hP0 : wc.drew.heap.size = wc.heap.size := rfl
  have K5 : Hid (∀ w', Below wc.heap.size wc w' → w'.cell? ⟨Y, 0, none⟩ = some (.int .i64 depth) ∧ w'.cell? ⟨Y, 1, none⟩ = some (.slice (some ⟨g, 0, none⟩) root.length c) ∧ w'.cell? ⟨w.heap.size + 1, 1, none⟩ = some (.int .i64 bad) ∧ w'.cell? ⟨w.heap.size + 1 + 1, 3, none⟩ = some (.int .i64 sf) ∧ w'.cell? ⟨w.heap.size + 1 + 1, 4, none⟩ = some (.int .i64 sd)) := hid (fun wz hz => by
   have h1 := WK0.out.below hz
   have h2 := tree_cells h1.tree
   have h3 := KEEP2.out _ h1.bel
   exact ⟨h2.1, h2.2.1, (KEEP.out _ h1.bel).2.2, h3.2.2.2.1, h3.2.2.2.2⟩)
  go_region_held3 (fun w' => w'.cell? ⟨Y, 0, none⟩ = some (.int .i64 depth) ∧ w'.cell? ⟨Y, 1, none⟩ = some (.slice (some ⟨g, 0, none⟩) root.length c) ∧ w'.cell? ⟨w.heap.size + 1, 1, none⟩ = some (.int .i64 bad) ∧ w'.cell? ⟨w.heap.size + 1 + 1, 3, none⟩ = some (.int .i64 sf) ∧ w'.cell? ⟨w.heap.size + 1 + 1, 4, none⟩ = some (.int .i64 sd))
   (first | (refine K5.out _ ?_; assumption) | exact Z7)
   (first
    | (go_at_call 20; (with_reducible refine (reading2_any D bad _).mono ?_); rintro e w6 ⟨rfl, hw6⟩; have Q6 := SBA.out.readP hLn.out bad _ hPA w6 hw6; have N6 := read_keep hw6 NA.out; have s6 := bA.trans ((read_below hw6).mono bA.size); clear hw6)
    | (go_at_call 20; (with_reducible refine (reading2_any D bad _).mono ?_); rintro e w6 ⟨rfl, hw6⟩; have Q6 := SB0.out.readP hLn.out bad _ hP0 w6 hw6; have s6 := b0.trans ((read_below hw6).mono b0.size); have A6 := Q6.1.below ((Below.refl _ _).alloc (Nat.le_refl _) (.cells #[.int .i64 0, .slice none 0 0, .slice none 0 0, .slice none 0 0] 58)); have D6 := Q6.2.below ((Below.refl _ _).alloc (Nat.le_refl _) (.cells #[.int .i64 0, .slice none 0 0, .slice none 0 0, .slice none 0 0] 58)); have s6A := s6.alloc s6.size (.cells #[.int .i64 0, .slice none 0 0, .slice none 0 0, .slice none 0 0] 58); have M6 := heap_alloc_new w6 (.cells #[.int .i64 0, .slice none 0 0, .slice none 0 0, .slice none 0 0] 58); clear hw6)
    | (go_at_call 25; (with_reducible refine (QM.out _ _ Q6.1 Q6.2).mono ?_); rintro _ w7 h7; obtain ⟨b7, e1, e2, e3, f1, f2, f3, rfl, p7⟩ := set_flat h7; have s7 := s6.trans (b7.mono s6.size); have N7 := (b7.block _ (lt_of_block N6)).trans N6; obtain ⟨k0, k1, k2, k3, g0, g1, g2, g3⟩ := set_cells N7; have X7 := m6_put (MX0.out.below s7) N7 zw (Nat.ne_of_lt hX1w) p7 Q6.1.bel.size _ rfl; have Z7 := K5.out _ (s7.trans (put4_below w7 (.int .i64 (repD r2)) (.slice e1 (repR r2).length f1) (.slice e2 (repC r2).length f2) (.slice e3 (repF r2).length f3) (Nat.le_refl _))); unfold put4 at X7 Z7)
    | (go_at_call 25; (with_reducible refine (QM.out _ _ A6 (D6.mono (by simp))).mono ?_); rintro _ w7 h7; obtain ⟨b7, e1, e2, e3, f1, f2, f3, rfl, p7⟩ := set_flat h7; have s7 := s6A.trans (b7.mono s6A.size); have N7 := (b7.block _ (lt_of_block M6)).trans M6; obtain ⟨k0, k1, k2, k3, g0, g1, g2, g3⟩ := set_cells N7; have X7 := m6_put (MX0.out.below s7) N7 Q6.1.bel.size (Nat.ne_of_lt (Nat.lt_of_lt_of_le hX1w s6.size)) p7 A6.bel.size _ rfl; have Z7 := K5.out _ (s7.trans (put4_below w7 (.int .i64 (repD r2)) (.slice e1 (repR r2).length f1) (.slice e2 (repC r2).length f2) (.slice e3 (repF r2).length f3) s6.size)); unfold put4 at X7 Z7)
    | (go_at_call 25; (with_reducible refine (QM.out _ _ Q6.1 Q6.2).mono ?_); rintro _ w7 h7; obtain ⟨b7, e1, e2, e3, f1, f2, f3, rfl, p7⟩ := set_flat h7; have s7 := s6.trans (b7.mono s6.size); have N7 := heap_alloc_new w7 (.cells #[.int .i64 0, .slice none 0 0, .slice none 0 0, .slice none 0 0] 58); obtain ⟨k0, k1, k2, k3, g0, g1, g2, g3⟩ := set_cells N7; have X7 := m6_new (MX0.out.below s7) p7 Q6.1.bel.size _ rfl; have z7 := (Q6.1.below b7).bel.size; have s7A := s7.alloc s7.size (.cells #[.int .i64 0, .slice none 0 0, .slice none 0 0, .slice none 0 0] 58); have Z7 := K5.out _ (s7.alloc s7.size (.cells #[.int .i64 (repD r2), .slice e1 (repR r2).length f1, .slice e2 (repC r2).length f2, .slice e3 (repF r2).length f3] 58)))
    | fail "none")
  all_goals first
   | (go_meet; exact ⟨_, _, _, _, _, _, _, rfl, rfl, by have := Q6.1.bel.size; omega, by have := s7.size; have := s6.size; omega, hid X7⟩)
   | (go_step; go_meet; exact ⟨_, _, _, _, _, _, _, rfl, rfl, by have := Q6.1.bel.size; omega, by have := s7.size; have := s6.size; omega, hid X7⟩)
   | (go_step; go_step; go_meet; exact ⟨_, _, _, _, _, _, _, rfl, rfl, by have := Q6.1.bel.size; omega, by have := s7.size; have := s6.size; omega, hid X7⟩)
   | fail "no end"
 obtain ⟨X2, e1, e2, e3, f1, f2, f3, rfl, rfl, hX2, hXX, hcut6⟩ := hcut
 have MX1 : Hid (MX w w5 D Y g c depth root LD X1 r1 a1 a2 a3 c1 c2 c3 wc ∧ SetRow wc X2 r2 e1 e2 e3 f1 f2 f3 ∧ RepAt w5.heap.size wc r2 e1 e2 e3 f1 f2 f3) := hcut6
 clear hcut6 MX0 WK0 WK1 QM hX1w
 generalize hres : Forks.walkT ⟨LD, bad⟩ depth root = res
 have HRES := hid hres
 have qr := hid (show Calls _ _ _ wc (fun e w' => WalkTold wc res e w') from by
  have := rWalk_any D 4096 LD bad depth hd.out (.slice ar root.length cr) root wc HRs.out (HR.out.below (B := 0) MX1.out.1.wk.all) (by omega) (Row.texts MX1.out.1.wk.row hLn.out) hsm.out
  rw [hres] at this
  exact this)
 have hwl := hid (wk_len (d := ⟨LD, bad⟩) (depth := depth) (root := root))
 rw [hres] at hwl
 clear hres
 obtain ⟨k0, k1, k2⟩ := KEEP.out _ MX1.out.1.wk.bel
 go_wp2_with fail
 refine qr.out.mono ?_
 rintro _ w9 h9
 have hek : ∀ k, res = .error k → k ≠ 0 := fun k hk => by
  rw [hk] at h9
  exact h9.2.2
 obtain ⟨b9, a7, c7, a8, c8, rfl, o9, p9⟩ := WalkTold.flat h9
 have q3 := hid (nleft_any w5.heap.size (.slice (some ⟨g, 0, none⟩) root.length c) (.slice ar root.length cr) root w9 (MX1.out.1.wk.below b9).twin (HR.out.below (B := 0) (MX1.out.1.wk.below b9).all) (by omega))
 have MX9 : Hid (MX w w5 D Y g c depth root LD X1 r1 a1 a2 a3 c1 c2 c3 w9 ∧ SetRow w9 X2 r2 e1 e2 e3 f1 f2 f3 ∧ RepAt w5.heap.size w9 r2 e1 e2 e3 f1 f2 f3) := hid ⟨MX1.out.1.below b9, (b9.block _ (lt_of_block MX1.out.2.1)).trans MX1.out.2.1, MX1.out.2.2.below b9⟩
 have O9 := hid (OwnExts.at o9)
 have P9 := hid (OwnInts.at p9)
 obtain ⟨y0, y1, -, -⟩ := tree_cells MX9.out.1.wk.tree
 clear b9 o9 p9 h9 qr k0 k1 k2 MX1
 obtain ⟨k0, k1, k2⟩ := KEEP.out _ MX9.out.1.wk.bel
 go_wp2_with fail
 refine q3.out.mono ?_
 rintro _ w10 ⟨rfl, b10⟩
 have MXa : Hid (MX w w5 D Y g c depth root LD X1 r1 a1 a2 a3 c1 c2 c3 w10 ∧ SetRow w10 X2 r2 e1 e2 e3 f1 f2 f3 ∧ RepAt w5.heap.size w10 r2 e1 e2 e3 f1 f2 f3) := hid ⟨MX9.out.1.below b10, (b10.block _ (lt_of_block MX9.out.2.1)).trans MX9.out.2.1, MX9.out.2.2.below b10⟩
 have Oa := hid (O9.out.below (B := 0) b10)
 have Pa := hid (P9.out.below b10)
 clear b10 q3 O9 P9 MX9 k0 k1 k2 y0 y1
 generalize hE1 : repE r1 = E1 at *
 generalize hE2 : repE r2 = E2 at *
 have HE1 := hid hE1
 have HE2 := hid hE2
 clear hE1 hE2
 go_upto_region 10 with fail
 go_cut [118] from 75 to 117 (fun y wd => y = .bool false ∧ wd = w10)
 case first =>
  obtain ⟨g0, g1, g2, g3, -⟩ := set_cells MXa.out.1.set
  obtain ⟨l0, l1, l2, l3, -⟩ := set_cells MXa.out.2.1
  by_cases h1 : E1 = 0 <;> by_cases h2 : E2 = 0
  ·subst h1
   subst h2
   clear g0 g1 g2 g3 l0 l1 l2 l3
   go_wp2_with fail
   all_goals first | (go_meet; exact ⟨rfl, rfl⟩) | (exfalso; first | contradiction | (simp at g5; done) | (simp at g6; done) | omega)
  ·obtain ⟨d0, d1, d2, d3⟩ := rep_none (by rw [HE2.out]; exact h2)
   have g5 : (E2 == 0) = false := by rw [beq_eq_false_iff_ne]; exact h2
   rw [d0] at l0
   rw [d1, List.length_nil] at l1
   rw [d2, List.length_nil] at l2
   rw [d3, List.length_nil] at l3
   subst h1
   clear d0 d1 d2 d3 g0 g1 g2 g3
   go_wp2_with fail
   all_goals first | (go_meet; exact ⟨rfl, rfl⟩) | (exfalso; first | contradiction | (simp at g5; done) | (simp at g6; done) | omega)
  ·obtain ⟨d0, d1, d2, d3⟩ := rep_none (by rw [HE1.out]; exact h1)
   have g5 : (E1 == 0) = false := by rw [beq_eq_false_iff_ne]; exact h1
   rw [d0] at g0
   rw [d1, List.length_nil] at g1
   rw [d2, List.length_nil] at g2
   rw [d3, List.length_nil] at g3
   subst h2
   clear d0 d1 d2 d3 l0 l1 l2 l3
   go_wp2_with fail
   all_goals first | (go_meet; exact ⟨rfl, rfl⟩) | (exfalso; first | contradiction | (simp at g5; done) | (simp at g6; done) | omega)
  ·obtain ⟨d0, d1, d2, d3⟩ := rep_none (by rw [HE1.out]; exact h1)
   obtain ⟨d4, d5, d6, d7⟩ := rep_none (by rw [HE2.out]; exact h2)
   have g5 : (E1 == 0) = false := by rw [beq_eq_false_iff_ne]; exact h1
   have g6 : (E2 == 0) = false := by rw [beq_eq_false_iff_ne]; exact h2
   rw [d0] at g0
   rw [d1, List.length_nil] at g1
   rw [d2, List.length_nil] at g2
   rw [d3, List.length_nil] at g3
   rw [d4] at l0
   rw [d5, List.length_nil] at l1
   rw [d6, List.length_nil] at l2
   rw [d7, List.length_nil] at l3
   clear d0 d1 d2 d3 d4 d5 d6 d7
   go_wp2_with fail
   all_goals first | (go_meet; exact ⟨rfl, rfl⟩) | (exfalso; first | contradiction | (simp at g5; done) | (simp at g6; done) | omega)
 obtain ⟨rfl, hwd⟩ := hcut
 subst hwd
 have hal := hid (fun w => alive_any w)
 have WALL := hid MXa.out.1.wk.all
 cases res with
 | error k =>
  have q1e : E1 = wkE (.error k) := by
   rw [← HE1.out, ← hr1]
   unfold Forks.moveT
   rw [HRES.out]
   rfl
  have q2e : E2 = wkE (.error k) := by
   rw [← HE2.out, ← hr2]
   unfold Forks.leadT
   rw [HRES.out]
   rfl
  have hk : (wkE (.error k) == 0) = false := by
   rw [beq_eq_false_iff_ne]
   exact hek k rfl
  clear MXa Oa Pa hek HE1 HE2
  generalize wkE (.error k) = E at *
  subst q1e
  subst q2e
  go_wp2_with fail
  refine (hal.out _).mono ?_
  rintro _ wz ⟨rfl, bz⟩
  have BZ := hid (WALL.out.trans (bz.mono WALL.out.size))
  clear bz
  go_wp2_with fail
  all_goals (go_ret; exact ⟨rfl, BZ.out⟩)
 | ok x =>
  obtain ⟨v, R⟩ := x
  obtain ⟨dn, rfl⟩ : ∃ n : Nat, depth = n := ⟨depth.toNat, by have := (Forks.walkT_okr HRES.out).1.1; omega⟩
  have q1e : Forks.moveV v dn root R sl sn st = r1 := by
   rw [← hr1]
   unfold Forks.moveT
   rw [HRES.out]
   rfl
  have q2e : Forks.leadV v dn root R sf sd = r2 := by
   rw [← hr2]
   unfold Forks.leadT
   rw [HRES.out]
   rfl
  have qm := hid (moved_any D 4096 LD bad _ R _ v dn (.slice ar root.length cr) root (repD r1) (.slice a1 (repR r1).length c1) (.slice a2 (repC r1).length c2) (.slice a3 (repF r1).length c3) (repE r1) (repR r1) (repC r1) (repF r1) sl sn st sf sd _ MXa.out.1.wk.row hLn.out hsm2.out HRES.out Oa.out Pa.out (HR.out.below (B := 0) WALL.out) (by omega)
   (by rw [q1e]; exact MXa.out.1.rep.setIn (fun k hk => Forks.moveV_err (q1e.trans hk))) (by rw [← q1e]; exact Forks.moveV_small HRs.out HSI.out.2.2.1) HSI.out.1 HSI.out.2.1 HSI.out.2.2.1)
  have ql := hid (fun wz (hz : Below wc.heap.size wc wz) => led_any D 4096 LD bad _ R _ v dn (.slice ar root.length cr) root (repD r2) (.slice e1 (repR r2).length f1) (.slice e2 (repC r2).length f2) (.slice e3 (repF r2).length f3) (repE r2) (repR r2) (repC r2) (repF r2) sl sn st sf sd wz (MXa.out.1.wk.below hz).row hLn.out hsm2.out HRES.out (Oa.out.below (B := 0) hz) (Pa.out.below hz) (HR.out.below (B := 0) (MXa.out.1.wk.below hz).all) (by omega)
   (by rw [q2e]; exact (MXa.out.2.2.below hz).setIn (fun k hk => Forks.leadV_err (q2e.trans hk))) (by rw [← q2e]; exact Forks.leadV_small HRs.out HSI.out.2.2.2.2) HSI.out.2.2.2.1 HSI.out.2.2.2.2)
  have KK : Hid (∀ wz, Below wc.heap.size wc wz → (wz.cell? ⟨X2, 0, none⟩ = some (.int .i64 (repD r2)) ∧ wz.cell? ⟨X2, 1, none⟩ = some (.slice e1 (repR r2).length f1) ∧ wz.cell? ⟨X2, 2, none⟩ = some (.slice e2 (repC r2).length f2) ∧ wz.cell? ⟨X2, 3, none⟩ = some (.slice e3 (repF r2).length f3)) ∧ (wz.cell? ⟨w.heap.size, 0, none⟩ = some (.int .i64 (dn : Int)) ∧ wz.cell? ⟨w.heap.size, 1, none⟩ = some (.slice ar root.length cr) ∧ wz.cell? ⟨w.heap.size + 1, 1, none⟩ = some (.int .i64 bad)) ∧ (wz.cell? ⟨w.heap.size + 1 + 1, 0, none⟩ = some (.int .i64 sl) ∧ wz.cell? ⟨w.heap.size + 1 + 1, 1, none⟩ = some (.int .i64 sn) ∧ wz.cell? ⟨w.heap.size + 1 + 1, 2, none⟩ = some (.int .i64 st) ∧ wz.cell? ⟨w.heap.size + 1 + 1, 3, none⟩ = some (.int .i64 sf) ∧ wz.cell? ⟨w.heap.size + 1 + 1, 4, none⟩ = some (.int .i64 sd)) ∧ Below w.heap.size w wz) := hid (fun wz hz => by
   have h1 := MXa.out.1.wk.below hz
   have h2 := set_cells ((hz.block _ (lt_of_block MXa.out.2.1)).trans MXa.out.2.1)
   exact ⟨⟨h2.1, h2.2.1, h2.2.2.1, h2.2.2.2.1⟩, KEEP.out _ h1.bel, KEEP2.out _ h1.bel, h1.all⟩)
  obtain ⟨g0, g1, g2, g3, -⟩ := set_cells MXa.out.1.set
  obtain ⟨-, ⟨k0, k1, -⟩, ⟨s0, s1, s2, s3, s4⟩, -⟩ := KK.out _ (Below.refl _ _)
  clear q1e q2e MXa Oa Pa hek HRES hr1 hr2 hwl
  generalize (repR r1).length = m1 at *
  generalize (repC r1).length = m2 at *
  generalize (repF r1).length = m3 at *
  generalize repD r1 = m0 at *
  rw [HE1.out] at qm
  simp only [HE2.out] at ql
  generalize (repR r2).length = n1 at *
  generalize (repC r2).length = n2 at *
  generalize (repF r2).length = n3 at *
  generalize repD r2 = n0 at *
  go_wp2_with fail
  refine qm.out.mono ?_
  rintro _ wy ⟨rfl, by_⟩
  have BY := hid by_
  have ql1 := hid (ql.out _ by_)
  obtain ⟨⟨l0, l1, l2, l3⟩, ⟨k0, k1, -⟩, ⟨s0, s1, s2, s3, s4⟩, -⟩ := KK.out _ by_
  clear by_ qm ql
  go_wp2_with fail
  refine ql1.out.mono ?_
  rintro _ wx ⟨rfl, bx⟩
  have BX := hid (BY.out.trans (bx.mono BY.out.size))
  have WX := hid (KK.out _ BX.out).2.2.2
  clear bx ql1 l0 l1 l2 l3 k0 k1 s0 s1 s2 s3 s4
  go_wp2_with fail
  refine (hal.out _).mono ?_
  rintro _ wz ⟨rfl, bz⟩
  have BZ := hid (WX.out.trans (bz.mono WX.out.size))
  clear bz
  go_wp2_with fail
  all_goals (go_ret; exact ⟨rfl, BZ.out⟩)
end Go.Proofs.YtgjmeeiejcbjfaaGreat
