/- ForksFull: the walk. (Printed by wip/gen/ffull.py.) -/
import Derived.Test.YtgjmeeiejcbjfaaGreatF54
import Derived.Test.YtgjmeeiejcbjfaaGreatF05
import Derived.Test.YtgjmeeiejcbjfaaGreatF42
import Derived.Deep.DeepCutAuto
set_option linter.unusedSimpArgs false
set_option linter.unusedVariables false
namespace Go.Proofs.YtgjmeeiejcbjfaaGreat
open Go.Lib (hid)
open Go Go.RowKit
set_option maxHeartbeats 16000000 in
set_option maxRecDepth 100000 in
theorem ForksFull_walk (near : UInt8) (turned : Bool) (w : World) :
  Calls Tryz.prog 7 #[bval near, .bool turned] w fun e w' => e = .returned (.bool true) ∧ Below w.heap.size w w' := by
 obtain ⟨i0', hi0, hz0, hz1, hz2⟩ := info_parts info_ext
 have qb := hid (fun wx => begun_any wx)
 have hal := hid (fun wx => alive_any wx)
 obtain ⟨q, hq, hq8⟩ : ∃ q : Nat, q = near.toNat % 9 ∧ q ≤ 8 := ⟨near.toNat % 9, rfl, by omega⟩
 have z1 : Int.tmod (near.toNat : Int) 9 = (q : Int) := by rw [hq]; rfl
 obtain ⟨n, hn⟩ : ∃ n : Nat, n = 2040 + q := ⟨_, rfl⟩
 have z2 : (2040 : Int) + (q : Int) = (n : Int) := by omega
 have hn1 : 2040 ≤ n := by omega
 have hn2 : n ≤ 2048 := by omega
 have z3 : IntKind.u8.wrap (q : Int) = (q : Int) := IntWalk.u8_in _ (by omega)
 have z4 : IntKind.i64.wrap (q : Int) = (q : Int) := IntWalk.i64_in _ (by omega)
 have z5 : IntKind.i64.wrap (n : Int) = (n : Int) := IntWalk.i64_in _ (by omega)
 clear hq hn
 unfold bval
 generalize near.toNat = near at *
 go_enter Tryz.func7, Tryz.ntmps7
 go_wp2_with fail
 clear z1 z2 z3 z4 z5
 go_loopw [6, 7] (fun o q wr => ∃ (j : Nat) (u : Value), u = o ∧ q = .int .i64 j ∧ j ≤ n ∧ Hid (OwnExts w.heap.size wr u (Forks.fullR j)) ∧ Hid (Below w.heap.size w wr)) (fun _ q _ => n - (intOf q).toNat)
 case atStart => exact ⟨0, _, rfl, rfl, by omega, hid (World.ownsRow_nil _ _ _ _), hid (Below.refl _ _)⟩
 case round =>
  obtain ⟨j, u, rfl, rfl, hj, ho, hb⟩ := hrel
  by_cases hlt : j < n
  ·have i0 : (0 : Int) ≤ (j : Int) := by omega
   have i1 : (j : Int) < (n : Int) := by omega
   have k1 : IntKind.i64.wrap ((j : Int) * 7) = (j : Int) * 7 := IntWalk.i64_in _ (by omega)
   have k2 : Int.tmod ((j : Int) * 7) 2000 = (j : Int) * 7 % 2000 := Int.tmod_eq_emod_of_nonneg (by omega)
   have k3 : IntKind.i64.wrap ((j : Int) * 7 % 2000) = (j : Int) * 7 % 2000 := IntWalk.i64_in _ (by omega)
   have k4 : IntKind.i64.wrap (1 + (j : Int) * 7 % 2000) = 1 + (j : Int) * 7 % 2000 := IntWalk.i64_in _ (by omega)
   have hnx := hid (Forks.fullR_succ j)
   obtain ⟨au, cu, rfl⟩ := OwnExts.slice ho.out
   rw [Forks.fullR_len] at ho
   have hbz := hb.out.size
   have HO := hid (show (wr.alloc (.cells #[.int .i64 (j : Int), .int .i64 (1 + (j : Int) * 7 % 2000), .int .i64 1] 53)).ownsRow w.heap.size 53 3 (.slice au j cu) j (ecells (Forks.fullR j)) from by
    have h := own_below ho.out ((Below.refl _ _).alloc (Nat.le_refl _) (.cells #[.int .i64 (j : Int), .int .i64 (1 + (j : Int) * 7 % 2000), .int .i64 1] 53))
    rwa [Forks.fullR_len] at h)
   have HB := hid (hb.out.alloc hbz (.cells #[.int .i64 (j : Int), .int .i64 (1 + (j : Int) * 7 % 2000), .int .i64 1] 53))
   have hone := ecells_one [((j : Int), 1 + (j : Int) * 7 % 2000, 1)]
   rw [Forks.fullR_len]
   have hB2 : w.heap.size ≤ (wr.alloc (.cells #[.int .i64 (j : Int), .int .i64 (1 + (j : Int) * 7 % 2000), .int .i64 1] 53)).heap.size := by simp; omega
   clear ho hb
   go_wp2_with (first | (at_builtin; refine wpList_append_own _ rfl (.tmp 30) (.tmp 37) 42 rfl w.heap.size 53 i0' (.agg #[.int .i64 0, .int .i64 0, .int .i64 0]) 3 24 Tryz.underlying42 hi0 hz0 hz1 hz2 rfl (by decide) _ j (ecells (Forks.fullR j)) rfl HO.out ⟨wr.heap.size, 0, none⟩ 1 1 [.int .i64 (j : Int), .int .i64 (1 + (j : Int) * 7 % 2000), .int .i64 1] rfl rfl (World.news_of_block (heap_alloc_new _ _)) hone (by unfold maxLen; omega) (by omega) hB2 ?_))
   intro v' w5 hown hgrow _
   have O5 : Hid (OwnExts w.heap.size w5 v' (Forks.fullR (j + 1))) := hid (by
    unfold OwnExts
    rw [hnx.out, List.length_append, Forks.fullR_len, ecells_append]
    exact hown)
   have B5 := hid (HB.out.grown hgrow hB2 (fun k hk => (World.ownsRow.lt HO.out k hk).1))
   clear hown hgrow HO HB
   go_wp2_with fail
   go_roundw
   case rel => exact ⟨j + 1, _, rfl, by go_num, by omega, O5, B5⟩
   case measure => simp [intOf]; omega
  ·have hjn : n = j := by omega
   subst hjn
   clear hlt hj
   rename World => wl
   obtain ⟨al, cl, rfl⟩ := OwnExts.slice ho.out
   unfold OwnExts at ho
   rw [Forks.fullR_len] at ho ⊢
   obtain ⟨g, rfl⟩ : ∃ g, al = some ⟨g, 0, none⟩ := by
    rcases ho.out.2 with ⟨h, h0⟩ | ⟨g, cap, cur, h, -⟩
    ·omega
    ·cases h; exact ⟨g, rfl⟩
   have hcl : n ≤ cl := own_cap ho.out
   have HO := hid ho.out
   have HBl := hid hb.out
   clear ho hb
   go_wp2_with fail
   refine (qb.out _).mono ?_
   rintro e w1 ⟨W, D, U, rfl, hw1, b1⟩
   have HB : Hid (WB w W D U (List.replicate 4096 false) (diskOf []) 0 (.slice none 0 0) [] (.slice (some ⟨g, 0, none⟩) n cl) (Forks.fullR n) w1) := hid ⟨hw1.mono HBl.out.size, by
    unfold OwnExts
    rw [Forks.fullR_len]
    exact own_below HO.out b1, HBl.out.trans (b1.mono HBl.out.size)⟩
   have HLN : Hid ((diskOf []).length = 4096) := hid (diskOf_len [])
   have HSM : Hid (∀ s ∈ diskOf [], s.size ≤ 140737488351232) := hid (fun s hs => by
    rcases diskOf_small (l := []) rfl s hs with h | h
    ·omega
    ·rw [h, zblk_size]; omega)
   have HW : Hid (Forks.WorldOk (List.replicate 4096 false) (diskOf []) 0 [] [] []) := hid (Forks.world_none (diskOf_len []))
   have hrow := hid (Forks.fullR_row n hn2)
   generalize diskOf [] = L0 at *
   generalize hu0 : List.replicate 4096 false = us0 at *
   clear hw1 b1 HO HBl hu0 qb
   clear hi0 hz0 hz1 hz2
   have HRS : Hid (SmallsE []) := hid (fun x hx => by cases hx)
   cases turned with
   | true =>
    have hf1 : Forks.fitsT 1000 2048 ((Forks.fullR n).drop 1000) = true := Forks.fits_mk (by omega) (by omega) (by omega) (Forks.row_drop hrow.out 1000) (fun y hy => by
     have h1 := Forks.fullR_drop hy
     have h2 := Forks.fullR_mem h1.2
     have : Exts.fin y = y.1 + y.2.2 := rfl
     omega)
    have hlow1 : ∀ i : Int, 2048 ≤ i → Forks.taken ((Forks.fullR n).drop 1000) i = false := Forks.low_taken (fun x hx => Forks.fullR_low n x (List.mem_of_mem_drop hx))
    have j0 : (1000 : Int) ≤ (n : Int) := by omega
    have j1 : (n : Int) ≤ (cl : Int) := by omega
    have j2 : (1000 : Int) ≤ (cl : Int) := by omega
    obtain ⟨s1, us1, D_s1, v_s1, hR_s1⟩ := Forks.replace_world (a := 1000) (b := 2048) (l := (Forks.fullR n).drop 1000) HW.out hf1 hlow1
    have HR_s1 := hid hR_s1
    have QM_s1 := hid (fun (wz : World) (P : Nat) (h : WB w W D U us0 L0 0 (.slice none 0 0) [] (.slice (some ⟨g, 0, none⟩) n cl) (Forks.fullR n) wz) (hdk : DiskAt wz.heap.size wz (RDV P (P + 1)) ⟨L0, -1⟩) => h.repOk HW.out.ulen HRS.out (by have := (Forks.walkT_okr HW.out.walk).1.2.2.1; omega) (by have h1 := (Forks.walkT_okr HW.out.walk).1; have h2 := h1.1; have h3 := h1.2.1; omega) P ⟨L0, -1⟩ hdk (rd_small HSM.out) 1000 2048 (by omega) (by omega) (.slice (some ⟨g, 3000, none⟩) (n - 1000) (cl - 1000)) ((Forks.fullR n).drop 1000) (SmallsE.row (Forks.row_drop hrow.out 1000)) (by have := (h.ls.at).dropAt 1000 (cl - 1000) (by rw [Forks.fullR_len]; omega); exact this) (by rw [List.length_drop, Forks.fullR_len]; omega) s1 us1 HR_s1.out.eq)
    clear hR_s1
    go_upto_region 9 with fail
    go_cut [9, 10] from 41 to 57 (fun y z wd => ∃ (X : Nat) (a1 a2 a3 : Option Addr) (c1 c2 c3 : Nat), y = .pointer (some ⟨X, 0, none⟩) ∧ z = .int .i64 0 ∧ w.heap.size ≤ X ∧ Hid (WB w W D U us1 L0 0 (.slice none 0 0) [] (.slice (some ⟨g, 0, none⟩) n cl) (Forks.fullR n) wd ∧ wd.heap[X]? = some (.cells #[.int .i64 s1.depth, .slice a1 s1.root.length c1, .slice a2 s1.changes.length c2, .slice a3 s1.freed.length c3] 58 (0, 0)) ∧ RepAt w.heap.size wd (.ok s1) a1 a2 a3 c1 c2 c3))
    case first =>
     have zw : w.heap.size ≤ w1.heap.size := HB.out.bel.size
     have b0 : Below w1.heap.size w1 w1.drew := (Below.refl _ _).drew
     have SB0 := hid (HB.out.below b0)
     have hP0 : w1.drew.heap.size = w1.heap.size := rfl
     have zU : U < w1.heap.size := lt_of_block HB.out.wa.use
     have bA : Below w1.heap.size w1 (w1.alloc (.cells #[.int .i64 0, .slice none 0 0, .slice none 0 0, .slice none 0 0] 58)).drew := ((Below.refl _ _).alloc (Nat.le_refl _) _).drew
     have SBA := hid (HB.out.below bA)
     have NA : Hid ((w1.alloc (.cells #[.int .i64 0, .slice none 0 0, .slice none 0 0, .slice none 0 0] 58)).drew.heap[w1.heap.size]? = some (.cells #[.int .i64 0, .slice none 0 0, .slice none 0 0, .slice none 0 0] 58)) := hid (heap_alloc_new w1 (.cells #[.int .i64 0, .slice none 0 0, .slice none 0 0, .slice none 0 0] 58))
     have hPA : (w1.alloc (.cells #[.int .i64 0, .slice none 0 0, .slice none 0 0, .slice none 0 0] 58)).drew.heap.size = w1.heap.size + 1 := by simp
     have K6 : Hid (∀ w', Below w1.heap.size w1 w' → w'.cell? ⟨W, 0, none⟩ = some (.slice (some ⟨D, 0, none⟩) 4096 4096) ∧ w'.cell? ⟨W, 1, none⟩ = some (.int .i64 0) ∧ w'.cell? ⟨W, 2, none⟩ = some (.slice none 0 0)) := hid (fun wz hz => by
      obtain ⟨q0, q1, q2, -⟩ := (HB.out.below hz).wa.cells
      exact ⟨q0, q1, q2⟩)
     have K7 : Hid (∀ w', WB w W D U us1 L0 0 (.slice none 0 0) [] (.slice (some ⟨g, 0, none⟩) n cl) (Forks.fullR n) w' → w'.cell? ⟨W, 0, none⟩ = some (.slice (some ⟨D, 0, none⟩) 4096 4096) ∧ w'.cell? ⟨W, 1, none⟩ = some (.int .i64 0) ∧ w'.cell? ⟨W, 2, none⟩ = some (.slice none 0 0)) := hid (fun wz hz => by
      obtain ⟨q0, q1, q2, -⟩ := hz.wa.cells
      exact ⟨q0, q1, q2⟩)
     go_region_held3 (fun w' => w'.cell? ⟨W, 0, none⟩ = some (.slice (some ⟨D, 0, none⟩) 4096 4096) ∧ w'.cell? ⟨W, 1, none⟩ = some (.int .i64 0) ∧ w'.cell? ⟨W, 2, none⟩ = some (.slice none 0 0))
      (first | (refine K6.out _ ?_; assumption) | (with_reducible exact Y7) | (with_reducible exact Y8) | (with_reducible exact Z7) | exact Z7)
      (first
       | (go_at_call 20; (with_reducible refine (reading2_any D (-1) _).mono ?_); rintro e w6 ⟨rfl, hw6⟩; have Q6 := SBA.out.readP HLN.out (-1) _ hPA w6 hw6; have N6 := read_keep hw6 NA.out; have s6 := bA.trans ((read_below hw6).mono bA.size); clear hw6)
       | (go_at_call 20; (with_reducible refine (reading2_any D (-1) _).mono ?_); rintro e w6 ⟨rfl, hw6⟩; have Q6 := SB0.out.readP HLN.out (-1) _ hP0 w6 hw6; have s6 := b0.trans ((read_below hw6).mono b0.size); have bA6 := (Below.refl w6.heap.size w6).alloc (Nat.le_refl _) (.cells #[.int .i64 0, .slice none 0 0, .slice none 0 0, .slice none 0 0] 58); have A6 := Q6.1.below bA6; have D6 := Q6.2.below bA6; have s6A := s6.trans (bA6.mono s6.size); have M6 := heap_alloc_new w6 (.cells #[.int .i64 0, .slice none 0 0, .slice none 0 0, .slice none 0 0] 58); clear hw6)
       | (go_at_call 28; (with_reducible refine (QM_s1.out _ _ Q6.1 Q6.2).mono ?_); rintro e w7 ⟨Q7, o7, a1, a2, a3, c1, c2, c3, rfl, p7⟩; have N7 := (o7.block _ (lt_of_block N6) (Nat.ne_of_gt (by have := s6.size; omega))).trans N6; obtain ⟨k0, k1, k2, k3, g0, g1, g2, g3⟩ := set_cells N7; have Y7 := K7.out _ Q7; have X7 := wbo_put Q7 N7 zw p7 Q6.1.bel.size _ rfl; have Z7 := K7.out _ X7.1; unfold put4 at X7 Z7)
       | (go_at_call 28; (with_reducible refine (QM_s1.out _ _ A6 (D6.mono (by simp))).mono ?_); rintro e w7 ⟨Q7, o7, a1, a2, a3, c1, c2, c3, rfl, p7⟩; have N7 := (o7.block _ (lt_of_block M6) (Nat.ne_of_gt (by have := s6.size; omega))).trans M6; obtain ⟨k0, k1, k2, k3, g0, g1, g2, g3⟩ := set_cells N7; have Y7 := K7.out _ Q7; have X7 := wbo_put Q7 N7 Q6.1.bel.size p7 A6.bel.size _ rfl; have Z7 := K7.out _ X7.1; unfold put4 at X7 Z7)
       | (go_at_call 28; (with_reducible refine (QM_s1.out _ _ Q6.1 Q6.2).mono ?_); rintro e w7 ⟨Q7, o7, a1, a2, a3, c1, c2, c3, rfl, p7⟩; have N7 := heap_alloc_new w7 (.cells #[.int .i64 0, .slice none 0 0, .slice none 0 0, .slice none 0 0] 58); have z7 := o7.size; obtain ⟨k0, k1, k2, k3, g0, g1, g2, g3⟩ := set_cells N7; have Y7 := K7.out _ Q7; have Y8 := K7.out _ (Q7.below ((Below.refl w7.heap.size w7).alloc (Nat.le_refl _) (.cells #[.int .i64 0, .slice none 0 0, .slice none 0 0, .slice none 0 0] 58))); have X7 := wbo_new Q7 p7 Q6.1.bel.size _ rfl; have Z7 := K7.out _ X7.1)
       | fail "none")
     all_goals first
      | (go_meet; exact ⟨_, _, _, _, _, _, _, rfl, rfl, by have h1 := Q6.1.bel.size; have h2 := o7.size; omega, hid X7⟩)
      | (go_step; go_meet; exact ⟨_, _, _, _, _, _, _, rfl, rfl, by have h1 := Q6.1.bel.size; have h2 := o7.size; omega, hid X7⟩)
      | (go_step; go_step; go_meet; exact ⟨_, _, _, _, _, _, _, rfl, rfl, by have h1 := Q6.1.bel.size; have h2 := o7.size; omega, hid X7⟩)
      | (go_step; go_step; go_step; go_meet; exact ⟨_, _, _, _, _, _, _, rfl, rfl, by have h1 := Q6.1.bel.size; have h2 := o7.size; omega, hid X7⟩)
      | fail "no end"
    obtain ⟨X1, ra, a2, a3, rc, c2, c3, rfl, rfl, hX10, hcut1⟩ := hcut
    have hRR : Forks.replT [] 1000 2048 ((Forks.fullR n).drop 1000) = (Forks.fullR n).drop 1000 := Forks.repl_nil hf1 (by omega)
    obtain ⟨d2, hd2⟩ : ∃ d2 : Nat, s1.depth = (d2 : Int) := ⟨s1.depth.toNat, HR_s1.out.dep⟩
    have hW2 := HR_s1.out.ok
    rw [hRR, hd2, Int.toNat_natCast] at hW2
    have qp1 := hid (hcut1.out.1.put hcut1.out.2.2 HLN.out HR_s1.out.len1 HR_s1.out.st.blk HR_s1.out.frd (Forks.setT_len HR_s1.out.st.set).1 (Forks.setT_len HR_s1.out.st.set).2.1)
    have HLN2 : Hid ((Forks.putC s1.changes L0).length = 4096) := hid (by rw [Forks.putC_len]; exact HLN.out)
    have HSM2 : Hid (∀ s ∈ Forks.putC s1.changes L0, s.size ≤ 140737488351232) := hid (small_put HSM.out HR_s1.out.st.size)
    have HRS2 : Hid (SmallsE s1.root) := hid (rootOk_small (Forks.walkT_okr hW2.walk).1)
    have HW2 := hid hW2
    obtain ⟨k0, k1, k2, k3, -⟩ := set_cells hcut1.out.2.1
    rw [hd2] at k0 qp1
    clear hX10 hW2 hcut1 HR_s1 QM_s1 HLN HSM HW HRS HB hRR hf1 hlow1 hd2
    generalize s1.root = root2 at *
    generalize Forks.putC s1.changes L0 = L2 at *
    generalize Forks.freeT s1.freed us1 = us2 at *
    generalize s1.changes.length = m2 at *
    generalize s1.freed.length = m3 at *
    rename World => wp1
    have HLN := HLN2
    have HSM := HSM2
    have HRS := HRS2
    have HW := HW2
    clear HLN2 HSM2 HRS2 HW2
    go_wp2_with fail
    refine qp1.out.mono ?_
    rintro e w2 ⟨rfl, hB2, -⟩
    have HB := hid hB2
    clear hB2 qp1 k0 k1 k2 k3
    have hf2 : Forks.fitsT 0 1000 ((Forks.fullR n).take 1000) = true := Forks.fits_mk (by omega) (by omega) (by omega) (by rw [Forks.fullR_take n 1000 (by omega)]; exact Forks.fullR_row 1000 (by omega)) (fun y hy => by
     rw [Forks.fullR_take n 1000 (by omega)] at hy
     have h2 := Forks.fullR_mem hy
     have : Exts.fin y = y.1 + y.2.2 := rfl
     omega)
    have hlow2 : ∀ i : Int, 2048 ≤ i → Forks.taken ((Forks.fullR n).take 1000) i = false := Forks.low_taken (fun x hx => Forks.fullR_low n x (List.mem_of_mem_take hx))
    go_upto_region 16 with fail
    go_quiet (fail)
    generalize hwx : w2.drewN _ = w2x at *
    have HBx : Hid (WB w W D U us2 L2 (d2 : Int) (.slice ra root2.length rc) root2 (.slice (some ⟨g, 0, none⟩) n cl) (Forks.fullR n) w2x) := hid (by rw [← hwx]; exact HB.out.below (below_drewN (Below.refl _ _) _))
    clear HB hwx j0 j1 j2
    have HB := HBx
    obtain ⟨s2, us3, D_s2, v_s2, hR_s2⟩ := Forks.replace_world (a := 0) (b := 1000) (l := (Forks.fullR n).take 1000) HW.out hf2 hlow2
    have HR_s2 := hid hR_s2
    have QM_s2 := hid (fun (wz : World) (P : Nat) (h : WB w W D U us2 L2 (d2 : Int) (.slice ra root2.length rc) root2 (.slice (some ⟨g, 0, none⟩) n cl) (Forks.fullR n) wz) (hdk : DiskAt wz.heap.size wz (RDV P (P + 1)) ⟨L2, -1⟩) => h.repOk HW.out.ulen HRS.out (by have := (Forks.walkT_okr HW.out.walk).1.2.2.1; omega) (by have h1 := (Forks.walkT_okr HW.out.walk).1; have h2 := h1.1; have h3 := h1.2.1; omega) P ⟨L2, -1⟩ hdk (rd_small HSM.out) 0 1000 (by omega) (by omega) (.slice (some ⟨g, 0, none⟩) 1000 cl) ((Forks.fullR n).take 1000) (SmallsE.row (by rw [Forks.fullR_take n 1000 (by omega)]; exact Forks.fullR_row 1000 (by omega))) ((h.ls.at).takeAt 1000 cl (by rw [Forks.fullR_len]; omega)) (by rw [List.length_take]; omega) s2 us3 HR_s2.out.eq)
    clear hR_s2
    go_upto_region 17 with fail
    go_cut [14, 15] from 67 to 84 (fun y z wd => ∃ (X : Nat) (a1 a2 a3 : Option Addr) (c1 c2 c3 : Nat), y = .pointer (some ⟨X, 0, none⟩) ∧ z = .int .i64 0 ∧ w.heap.size ≤ X ∧ Hid (WB w W D U us3 L2 (d2 : Int) (.slice ra root2.length rc) root2 (.slice (some ⟨g, 0, none⟩) n cl) (Forks.fullR n) wd ∧ wd.heap[X]? = some (.cells #[.int .i64 s2.depth, .slice a1 s2.root.length c1, .slice a2 s2.changes.length c2, .slice a3 s2.freed.length c3] 58 (0, 0)) ∧ RepAt w.heap.size wd (.ok s2) a1 a2 a3 c1 c2 c3))
    case first =>
     have zw : w.heap.size ≤ w2x.heap.size := HB.out.bel.size
     have b0 : Below w2x.heap.size w2x w2x.drew := (Below.refl _ _).drew
     have SB0 := hid (HB.out.below b0)
     have hP0 : w2x.drew.heap.size = w2x.heap.size := rfl
     have zU : U < w2x.heap.size := lt_of_block HB.out.wa.use
     have bA : Below w2x.heap.size w2x (w2x.alloc (.cells #[.int .i64 0, .slice none 0 0, .slice none 0 0, .slice none 0 0] 58)).drew := ((Below.refl _ _).alloc (Nat.le_refl _) _).drew
     have SBA := hid (HB.out.below bA)
     have NA : Hid ((w2x.alloc (.cells #[.int .i64 0, .slice none 0 0, .slice none 0 0, .slice none 0 0] 58)).drew.heap[w2x.heap.size]? = some (.cells #[.int .i64 0, .slice none 0 0, .slice none 0 0, .slice none 0 0] 58)) := hid (heap_alloc_new w2x (.cells #[.int .i64 0, .slice none 0 0, .slice none 0 0, .slice none 0 0] 58))
     have hPA : (w2x.alloc (.cells #[.int .i64 0, .slice none 0 0, .slice none 0 0, .slice none 0 0] 58)).drew.heap.size = w2x.heap.size + 1 := by simp
     have K6 : Hid (∀ w', Below w2x.heap.size w2x w' → w'.cell? ⟨W, 0, none⟩ = some (.slice (some ⟨D, 0, none⟩) 4096 4096) ∧ w'.cell? ⟨W, 1, none⟩ = some (.int .i64 (d2 : Int)) ∧ w'.cell? ⟨W, 2, none⟩ = some (.slice ra root2.length rc)) := hid (fun wz hz => by
      obtain ⟨q0, q1, q2, -⟩ := (HB.out.below hz).wa.cells
      exact ⟨q0, q1, q2⟩)
     have K7 : Hid (∀ w', WB w W D U us3 L2 (d2 : Int) (.slice ra root2.length rc) root2 (.slice (some ⟨g, 0, none⟩) n cl) (Forks.fullR n) w' → w'.cell? ⟨W, 0, none⟩ = some (.slice (some ⟨D, 0, none⟩) 4096 4096) ∧ w'.cell? ⟨W, 1, none⟩ = some (.int .i64 (d2 : Int)) ∧ w'.cell? ⟨W, 2, none⟩ = some (.slice ra root2.length rc)) := hid (fun wz hz => by
      obtain ⟨q0, q1, q2, -⟩ := hz.wa.cells
      exact ⟨q0, q1, q2⟩)
     go_region_held3 (fun w' => w'.cell? ⟨W, 0, none⟩ = some (.slice (some ⟨D, 0, none⟩) 4096 4096) ∧ w'.cell? ⟨W, 1, none⟩ = some (.int .i64 (d2 : Int)) ∧ w'.cell? ⟨W, 2, none⟩ = some (.slice ra root2.length rc))
      (first | (refine K6.out _ ?_; assumption) | (with_reducible exact Y7) | (with_reducible exact Y8) | (with_reducible exact Z7) | exact Z7)
      (first
       | (go_at_call 20; (with_reducible refine (reading2_any D (-1) _).mono ?_); rintro e w6 ⟨rfl, hw6⟩; have Q6 := SBA.out.readP HLN.out (-1) _ hPA w6 hw6; have N6 := read_keep hw6 NA.out; have s6 := bA.trans ((read_below hw6).mono bA.size); clear hw6)
       | (go_at_call 20; (with_reducible refine (reading2_any D (-1) _).mono ?_); rintro e w6 ⟨rfl, hw6⟩; have Q6 := SB0.out.readP HLN.out (-1) _ hP0 w6 hw6; have s6 := b0.trans ((read_below hw6).mono b0.size); have bA6 := (Below.refl w6.heap.size w6).alloc (Nat.le_refl _) (.cells #[.int .i64 0, .slice none 0 0, .slice none 0 0, .slice none 0 0] 58); have A6 := Q6.1.below bA6; have D6 := Q6.2.below bA6; have s6A := s6.trans (bA6.mono s6.size); have M6 := heap_alloc_new w6 (.cells #[.int .i64 0, .slice none 0 0, .slice none 0 0, .slice none 0 0] 58); clear hw6)
       | (go_at_call 28; (with_reducible refine (QM_s2.out _ _ Q6.1 Q6.2).mono ?_); rintro e w7 ⟨Q7, o7, a1, a2, a3, c1, c2, c3, rfl, p7⟩; have N7 := (o7.block _ (lt_of_block N6) (Nat.ne_of_gt (by have := s6.size; omega))).trans N6; obtain ⟨k0, k1, k2, k3, g0, g1, g2, g3⟩ := set_cells N7; have Y7 := K7.out _ Q7; have X7 := wbo_put Q7 N7 zw p7 Q6.1.bel.size _ rfl; have Z7 := K7.out _ X7.1; unfold put4 at X7 Z7)
       | (go_at_call 28; (with_reducible refine (QM_s2.out _ _ A6 (D6.mono (by simp))).mono ?_); rintro e w7 ⟨Q7, o7, a1, a2, a3, c1, c2, c3, rfl, p7⟩; have N7 := (o7.block _ (lt_of_block M6) (Nat.ne_of_gt (by have := s6.size; omega))).trans M6; obtain ⟨k0, k1, k2, k3, g0, g1, g2, g3⟩ := set_cells N7; have Y7 := K7.out _ Q7; have X7 := wbo_put Q7 N7 Q6.1.bel.size p7 A6.bel.size _ rfl; have Z7 := K7.out _ X7.1; unfold put4 at X7 Z7)
       | (go_at_call 28; (with_reducible refine (QM_s2.out _ _ Q6.1 Q6.2).mono ?_); rintro e w7 ⟨Q7, o7, a1, a2, a3, c1, c2, c3, rfl, p7⟩; have N7 := heap_alloc_new w7 (.cells #[.int .i64 0, .slice none 0 0, .slice none 0 0, .slice none 0 0] 58); have z7 := o7.size; obtain ⟨k0, k1, k2, k3, g0, g1, g2, g3⟩ := set_cells N7; have Y7 := K7.out _ Q7; have Y8 := K7.out _ (Q7.below ((Below.refl w7.heap.size w7).alloc (Nat.le_refl _) (.cells #[.int .i64 0, .slice none 0 0, .slice none 0 0, .slice none 0 0] 58))); have X7 := wbo_new Q7 p7 Q6.1.bel.size _ rfl; have Z7 := K7.out _ X7.1)
       | fail "none")
     all_goals first
      | (go_meet; exact ⟨_, _, _, _, _, _, _, rfl, rfl, by have h1 := Q6.1.bel.size; have h2 := o7.size; omega, hid X7⟩)
      | (go_step; go_meet; exact ⟨_, _, _, _, _, _, _, rfl, rfl, by have h1 := Q6.1.bel.size; have h2 := o7.size; omega, hid X7⟩)
      | (go_step; go_step; go_meet; exact ⟨_, _, _, _, _, _, _, rfl, rfl, by have h1 := Q6.1.bel.size; have h2 := o7.size; omega, hid X7⟩)
      | (go_step; go_step; go_step; go_meet; exact ⟨_, _, _, _, _, _, _, rfl, rfl, by have h1 := Q6.1.bel.size; have h2 := o7.size; omega, hid X7⟩)
      | fail "no end"
    obtain ⟨X2, rb, a2, a3, rd, c2, c3, rfl, rfl, hX20, hcut2⟩ := hcut
    have hRR : Forks.replT ((Forks.fullR n).drop 1000) 0 1000 ((Forks.fullR n).take 1000) = Forks.fullR n := Forks.repl_halves (by omega) hn2 hf2
    obtain ⟨dq1, dq2⟩ := HR_s2.out.deep (by rw [hRR, Forks.fullR_len]; omega)
    have dq3 := dq2 (by rw [hRR, Forks.fullR_len]; omega)
    obtain ⟨d3, hd3⟩ : ∃ d3 : Nat, s2.depth = (d3 : Int) := ⟨s2.depth.toNat, HR_s2.out.dep⟩
    have hW3 := HR_s2.out.ok
    rw [hRR, hd3, Int.toNat_natCast] at hW3
    have qp2 := hid (hcut2.out.1.put hcut2.out.2.2 HLN.out HR_s2.out.len1 HR_s2.out.st.blk HR_s2.out.frd (Forks.setT_len HR_s2.out.st.set).1 (Forks.setT_len HR_s2.out.st.set).2.1)
    have HLN3 : Hid ((Forks.putC s2.changes L2).length = 4096) := hid (by rw [Forks.putC_len]; exact HLN.out)
    have HSM3 : Hid (∀ s ∈ Forks.putC s2.changes L2, s.size ≤ 140737488351232) := hid (small_put HSM.out HR_s2.out.st.size)
    have HRS3 : Hid (SmallsE s2.root) := hid (rootOk_small (Forks.walkT_okr hW3.walk).1)
    have HW3 := hid hW3
    have hX2 := hcut2.out.2.1
    have hbX := hcut2.out.1.bel.size
    rw [hd3] at dq1 dq3 qp2 hX2
    obtain ⟨k0, k1, k2, k3, -⟩ := set_cells hX2
    have HX2 := hid hX2
    have hXlo : Hid (w.heap.size ≤ X2) := hid hX20
    have g1 : decide ((d3 : Int) < 3) = false := decide_eq_false (by omega)
    have g2 : decide ((4 : Int) < (d3 : Int)) = false := decide_eq_false (by omega)
    have hd4 : Hid (d3 ≤ 4) := hid (by omega)
    clear hX20 hW3 hcut2 HR_s2 QM_s2 HLN HSM HW HRS HB dq1 dq2 dq3 hRR hX2 hbX hd3
    generalize s2.root = root3 at *
    generalize Forks.putC s2.changes L2 = L3 at *
    generalize Forks.freeT s2.freed us3 = us4 at *
    generalize s2.changes.length = m2 at *
    generalize s2.freed.length = m3 at *
    rename World => wq
    go_wp2_with fail
    refine qp2.out.mono ?_
    rintro e w3 ⟨rfl, hB3, hK3⟩
    have HB := hid hB3
    have hX3 := hK3 _ _ _ HX2.out
    have HX3 := hid hX3
    clear hB3 hK3 hX3 HX2 g1 g2 k0 k1 k2 k3 qp2
    have hnd : ∃ m, (natI (Forks.nodes v_s2)).length = m := ⟨_, rfl⟩
    obtain ⟨mm, hmm⟩ := hnd
    have hml : Hid (mm ≤ 4096) := hid (by rw [← hmm]; exact nodes_length v_s2)
    have HMM := hid hmm
    have QW := hid (fun (wz : World) (P : Nat) (h : WB w W D U us4 L3 (d3 : Int) (.slice rb root3.length rd) root3 (.slice (some ⟨g, 0, none⟩) n cl) (Forks.fullR n) wz) (hdk : DiskAt wz.heap.size wz (RDV P (P + 1)) ⟨L3, -1⟩) => h.walk HRS3.out (by have := (Forks.walkT_okr HW3.out.walk).1.2.2.1; omega) hd4.out P hdk (rd_small HSM3.out) v_s2 (Forks.fullR n) HW3.out.walk (Forks.fullR_len n) HMM.out)
    clear hmm
    have HLN := HLN3
    go_upto_region 21 with fail
    go_cut [16, 17, 18] from 102 to 115 (fun x y z wd => ∃ (e1 : Option Addr) (f1 : Nat) (e2 : Option Addr) (f2 : Nat), x = .slice e1 n f1 ∧ y = .slice e2 mm f2 ∧ z = .int .i64 0 ∧ Hid (WNX w W D U X2 us4 L3 (d3 : Int) (.slice rb root3.length rd) root3 (.slice (some ⟨g, 0, none⟩) n cl) (Forks.fullR n) (.slice e1 n f1) (Forks.fullR n) (.slice e2 mm f2) (natI (Forks.nodes v_s2)) #[.int .i64 (d3 : Int), .slice rb root3.length rd, .slice a2 m2 c2, .slice a3 m3 c3] wd))
    case first =>
     have b0 : Below w3.heap.size w3 w3.drew := (Below.refl _ _).drew
     have SB0 := hid (HB.out.below b0)
     have hP0 : w3.drew.heap.size = w3.heap.size := rfl
     have K6 : Hid (∀ w', Below w3.heap.size w3 w' → w'.cell? ⟨W, 0, none⟩ = some (.slice (some ⟨D, 0, none⟩) 4096 4096) ∧ w'.cell? ⟨W, 1, none⟩ = some (.int .i64 (d3 : Int)) ∧ w'.cell? ⟨W, 2, none⟩ = some (.slice rb root3.length rd)) := hid (fun wz hz => by
      obtain ⟨q0, q1, q2, -⟩ := (HB.out.below hz).wa.cells
      exact ⟨q0, q1, q2⟩)
     go_region_held3 (fun w' => w'.cell? ⟨W, 0, none⟩ = some (.slice (some ⟨D, 0, none⟩) 4096 4096) ∧ w'.cell? ⟨W, 1, none⟩ = some (.int .i64 (d3 : Int)) ∧ w'.cell? ⟨W, 2, none⟩ = some (.slice rb root3.length rd))
      (first | (refine K6.out _ ?_; assumption) | exact Z7)
      (first
       | (go_at_call 20; (with_reducible refine (reading2_any D (-1) _).mono ?_); rintro e w6 ⟨rfl, hw6⟩; have Q6 := SB0.out.readP HLN.out (-1) _ hP0 w6 hw6; have s6 := b0.trans ((read_below hw6).mono b0.size); clear hw6)
       | (go_at_call 19; (with_reducible refine (QW.out _ _ Q6.1 Q6.2).mono ?_); rintro e w7 ⟨b7, e1, f1, e2, f2, rfl, Q7⟩; have s7 := s6.trans (b7.mono s6.size); have X7 := (s7.block X2 (lt_of_block HX3.out)).trans HX3.out; have Z7 : w7.cell? ⟨W, 0, none⟩ = some (.slice (some ⟨D, 0, none⟩) 4096 4096) ∧ w7.cell? ⟨W, 1, none⟩ = some (.int .i64 (d3 : Int)) ∧ w7.cell? ⟨W, 2, none⟩ = some (.slice rb root3.length rd) := K6.out _ s7)
       | fail "none")
     all_goals first
      | (go_meet; exact ⟨_, _, _, _, rfl, rfl, rfl, hid ⟨Q7, X7⟩⟩)
      | (go_step; go_meet; exact ⟨_, _, _, _, rfl, rfl, rfl, hid ⟨Q7, X7⟩⟩)
      | (go_step; go_step; go_meet; exact ⟨_, _, _, _, rfl, rfl, rfl, hid ⟨Q7, X7⟩⟩)
      | fail "no end"
    obtain ⟨e1, f1, e2, f2, rfl, rfl, rfl, hcutW⟩ := hcut
    have HBW := hid hcutW.out
    clear HB HX3 QW hcutW
    have HB := HBW
    have hml2 := hml.out
    have QN := hid (fun (wz : World) (P : Nat) (h : WNX w W D U X2 us4 L3 (d3 : Int) (.slice rb root3.length rd) root3 (.slice (some ⟨g, 0, none⟩) n cl) (Forks.fullR n) (.slice e1 n f1) (Forks.fullR n) (.slice e2 mm f2) (natI (Forks.nodes v_s2)) #[.int .i64 (d3 : Int), .slice rb root3.length rd, .slice a2 m2 c2, .slice a3 m3 c3] wz) (hdk : DiskAt wz.heap.size wz (RDV P (P + 1)) ⟨L3, -1⟩) => h.repNone hXlo.out HW3.out HRS3.out (by have := (Forks.walkT_okr HW3.out.walk).1.2.2.1; omega) hd4.out P hdk (rd_small HSM3.out) HMM.out)
    go_upto_region 22 with fail
    go_cut [19, 20] from 116 to 128 (fun y z wd => ∃ (X : Nat) (a1 a2 a3 : Option Addr) (c1 c2 c3 : Nat), y = .pointer (some ⟨X, 0, none⟩) ∧ z = .int .i64 0 ∧ w.heap.size ≤ X ∧ Hid (WN w W D U us4 L3 (d3 : Int) (.slice rb root3.length rd) root3 (.slice (some ⟨g, 0, none⟩) n cl) (Forks.fullR n) (.slice e1 n f1) (Forks.fullR n) (.slice e2 mm f2) (natI (Forks.nodes v_s2)) wd ∧ wd.heap[X]? = some (.cells #[.int .i64 0, .slice a1 0 c1, .slice a2 0 c2, .slice a3 mm c3] 58 (0, 0)) ∧ RepAt w.heap.size wd (.ok ⟨0, [], [], natI (Forks.nodes v_s2)⟩) a1 a2 a3 c1 c2 c3))
    case first =>
     have zw : w.heap.size ≤ wc.heap.size := HB.out.bel.size
     have b0 : Below wc.heap.size wc wc.drew := (Below.refl _ _).drew
     have SB0 := hid (HB.out.below b0)
     have hP0 : wc.drew.heap.size = wc.heap.size := rfl
     have zU : X2 < wc.heap.size := lt_of_block HB.out.st
     have bA : Below wc.heap.size wc (wc.alloc (.cells #[.int .i64 0, .slice none 0 0, .slice none 0 0, .slice none 0 0] 58)).drew := ((Below.refl _ _).alloc (Nat.le_refl _) _).drew
     have SBA := hid (HB.out.below bA)
     have NA : Hid ((wc.alloc (.cells #[.int .i64 0, .slice none 0 0, .slice none 0 0, .slice none 0 0] 58)).drew.heap[wc.heap.size]? = some (.cells #[.int .i64 0, .slice none 0 0, .slice none 0 0, .slice none 0 0] 58)) := hid (heap_alloc_new wc (.cells #[.int .i64 0, .slice none 0 0, .slice none 0 0, .slice none 0 0] 58))
     have hPA : (wc.alloc (.cells #[.int .i64 0, .slice none 0 0, .slice none 0 0, .slice none 0 0] 58)).drew.heap.size = wc.heap.size + 1 := by simp
     have K6 : Hid (∀ w', Below wc.heap.size wc w' → w'.cell? ⟨W, 0, none⟩ = some (.slice (some ⟨D, 0, none⟩) 4096 4096) ∧ w'.cell? ⟨W, 1, none⟩ = some (.int .i64 (d3 : Int)) ∧ w'.cell? ⟨W, 2, none⟩ = some (.slice rb root3.length rd)) := hid (fun wz hz => by
      obtain ⟨q0, q1, q2, -⟩ := (HB.out.below hz).wa.cells
      exact ⟨q0, q1, q2⟩)
     have K7 : Hid (∀ w', WN w W D U us4 L3 (d3 : Int) (.slice rb root3.length rd) root3 (.slice (some ⟨g, 0, none⟩) n cl) (Forks.fullR n) (.slice e1 n f1) (Forks.fullR n) (.slice e2 mm f2) (natI (Forks.nodes v_s2)) w' → w'.cell? ⟨W, 0, none⟩ = some (.slice (some ⟨D, 0, none⟩) 4096 4096) ∧ w'.cell? ⟨W, 1, none⟩ = some (.int .i64 (d3 : Int)) ∧ w'.cell? ⟨W, 2, none⟩ = some (.slice rb root3.length rd)) := hid (fun wz hz => by
      obtain ⟨q0, q1, q2, -⟩ := hz.wb.wa.cells
      exact ⟨q0, q1, q2⟩)
     go_region_held3 (fun w' => w'.cell? ⟨W, 0, none⟩ = some (.slice (some ⟨D, 0, none⟩) 4096 4096) ∧ w'.cell? ⟨W, 1, none⟩ = some (.int .i64 (d3 : Int)) ∧ w'.cell? ⟨W, 2, none⟩ = some (.slice rb root3.length rd))
      (first | (refine K6.out _ ?_; assumption) | (with_reducible exact Y7) | (with_reducible exact Y8) | (with_reducible exact Z7) | exact Z7)
      (first
       | (go_at_call 20; (with_reducible refine (reading2_any D (-1) _).mono ?_); rintro e w6 ⟨rfl, hw6⟩; have Q6 := SBA.out.readP HLN.out (-1) _ hPA w6 hw6; have N6 := read_keep hw6 NA.out; have s6 := bA.trans ((read_below hw6).mono bA.size); clear hw6)
       | (go_at_call 20; (with_reducible refine (reading2_any D (-1) _).mono ?_); rintro e w6 ⟨rfl, hw6⟩; have Q6 := SB0.out.readP HLN.out (-1) _ hP0 w6 hw6; have s6 := b0.trans ((read_below hw6).mono b0.size); have bA6 := (Below.refl w6.heap.size w6).alloc (Nat.le_refl _) (.cells #[.int .i64 0, .slice none 0 0, .slice none 0 0, .slice none 0 0] 58); have A6 := Q6.1.below bA6; have D6 := Q6.2.below bA6; have s6A := s6.trans (bA6.mono s6.size); have M6 := heap_alloc_new w6 (.cells #[.int .i64 0, .slice none 0 0, .slice none 0 0, .slice none 0 0] 58); clear hw6)
       | (go_at_call 28; (with_reducible refine (QN.out _ _ Q6.1 Q6.2).mono ?_); rintro e w7 ⟨Q7, o7, a1, a2, a3, c1, c2, c3, rfl, p7⟩; have N7 := (o7.block _ (lt_of_block N6) (Nat.ne_of_gt (by have := s6.size; omega))).trans N6; obtain ⟨k0, k1, k2, k3, g0, g1, g2, g3⟩ := set_cells N7; have Y7 := K7.out _ Q7; have X7 := wno_put HMM.out Q7 N7 zw p7 Q6.1.bel.size _ rfl; have Z7 := K7.out _ X7.1; unfold put4 at X7 Z7)
       | (go_at_call 28; (with_reducible refine (QN.out _ _ A6 (D6.mono (by simp))).mono ?_); rintro e w7 ⟨Q7, o7, a1, a2, a3, c1, c2, c3, rfl, p7⟩; have N7 := (o7.block _ (lt_of_block M6) (Nat.ne_of_gt (by have := s6.size; omega))).trans M6; obtain ⟨k0, k1, k2, k3, g0, g1, g2, g3⟩ := set_cells N7; have Y7 := K7.out _ Q7; have X7 := wno_put HMM.out Q7 N7 Q6.1.bel.size p7 A6.bel.size _ rfl; have Z7 := K7.out _ X7.1; unfold put4 at X7 Z7)
       | (go_at_call 28; (with_reducible refine (QN.out _ _ Q6.1 Q6.2).mono ?_); rintro e w7 ⟨Q7, o7, a1, a2, a3, c1, c2, c3, rfl, p7⟩; have N7 := heap_alloc_new w7 (.cells #[.int .i64 0, .slice none 0 0, .slice none 0 0, .slice none 0 0] 58); have z7 := o7.size; obtain ⟨k0, k1, k2, k3, g0, g1, g2, g3⟩ := set_cells N7; have Y7 := K7.out _ Q7; have Y8 := K7.out _ (Q7.below ((Below.refl w7.heap.size w7).alloc (Nat.le_refl _) (.cells #[.int .i64 0, .slice none 0 0, .slice none 0 0, .slice none 0 0] 58))); have X7 := wno_new HMM.out Q7 p7 Q6.1.bel.size _ rfl; have Z7 := K7.out _ X7.1)
       | fail "none")
     all_goals first
      | (go_meet; exact ⟨_, _, _, _, _, _, _, rfl, rfl, by have h1 := Q6.1.bel.size; have h2 := o7.size; omega, hid X7⟩)
      | (go_step; go_meet; exact ⟨_, _, _, _, _, _, _, rfl, rfl, by have h1 := Q6.1.bel.size; have h2 := o7.size; omega, hid X7⟩)
      | (go_step; go_step; go_meet; exact ⟨_, _, _, _, _, _, _, rfl, rfl, by have h1 := Q6.1.bel.size; have h2 := o7.size; omega, hid X7⟩)
      | (go_step; go_step; go_step; go_meet; exact ⟨_, _, _, _, _, _, _, rfl, rfl, by have h1 := Q6.1.bel.size; have h2 := o7.size; omega, hid X7⟩)
      | fail "no end"
    obtain ⟨X3, a1, a2, a3, c1, c2, c3, rfl, rfl, hX30, hcutN⟩ := hcut
    rename World => wn
    obtain ⟨k0, k1, k2, k3, -⟩ := set_cells hcutN.out.2.1
    have q1 := hid (esame_b wn _ _ (Forks.fullR n) (Forks.fullR n) (OwnExts.at hcutN.out.1.now) (OwnExts.at hcutN.out.1.wb.ls) (by rw [Forks.fullR_len]; omega) (by rw [Forks.fullR_len]; omega) true (by simp))
    have p3 : Hid (IntsAt wn (.slice a3 mm c3) (natI (Forks.nodes v_s2))) := hid (by
     have h := OwnInts.at hcutN.out.2.2.free
     have e : (repF (.ok ⟨0, [], [], natI (Forks.nodes v_s2)⟩)).length = mm := HMM.out
     rw [e] at h
     exact h)
    have q2 := hid (fun wz (hz : Below wn.heap.size wn wz) => isame_bel wz (.slice a3 mm c3) (.slice e2 mm f2) (natI (Forks.nodes v_s2)) (p3.out.below hz) (OwnInts.at (hcutN.out.1.nod.below hz)) (by rw [HMM.out]; omega))
    have K9 : Hid (∀ wz, Below wn.heap.size wn wz → wz.cell? ⟨X3, 0, none⟩ = some (.int .i64 0) ∧ wz.cell? ⟨X3, 1, none⟩ = some (.slice a1 0 c1) ∧ wz.cell? ⟨X3, 2, none⟩ = some (.slice a2 0 c2) ∧ wz.cell? ⟨X3, 3, none⟩ = some (.slice a3 mm c3) ∧ Below w.heap.size w wz) := hid (fun wz hz => by
     have h2 := set_cells ((hz.block _ (lt_of_block hcutN.out.2.1)).trans hcutN.out.2.1)
     exact ⟨h2.1, h2.2.1, h2.2.2.1, h2.2.2.2.1, hcutN.out.1.wb.bel.trans (hz.mono hcutN.out.1.wb.bel.size)⟩)
    clear hcutN p3 HB HBW QN k0 k1 k2 k3
    go_wp2_with fail
    refine q1.out.mono ?_
    rintro e wx ⟨rfl, bx⟩
    obtain ⟨k0, k1, k2, k3, -⟩ := K9.out _ bx
    have q3 := hid (q2.out _ bx)
    have BX := hid bx
    clear bx q1 q2
    go_wp2_with fail
    refine q3.out.mono ?_
    rintro e wy ⟨rfl, by_⟩
    have WY := hid (K9.out _ (BX.out.trans (by_.mono BX.out.size))).2.2.2.2
    clear by_ q3 k0 k1 k2 k3
    go_wp2_with fail
    refine (hal.out _).mono ?_
    rintro e wz ⟨rfl, bz⟩
    have BZ := hid (WY.out.trans (bz.mono WY.out.size))
    clear bz
    go_wp2_with fail
    go_ret
    exact ⟨rfl, BZ.out⟩
   | false =>
    have hf2 : Forks.fitsT 0 2048 (Forks.fullR n) = true := Forks.fits_mk (by omega) (by omega) (by omega) hrow.out (fun y hy => by
     have h2 := Forks.fullR_mem hy
     have : Exts.fin y = y.1 + y.2.2 := rfl
     omega)
    have hlow2 : ∀ i : Int, 2048 ≤ i → Forks.taken (Forks.fullR n) i = false := Forks.low_taken (Forks.fullR_low n)
    obtain ⟨s2, us3, D_s2, v_s2, hR_s2⟩ := Forks.replace_world (a := 0) (b := 2048) (l := Forks.fullR n) HW.out hf2 hlow2
    have HR_s2 := hid hR_s2
    have QM_s2 := hid (fun (wz : World) (P : Nat) (h : WB w W D U us0 L0 0 (.slice none 0 0) [] (.slice (some ⟨g, 0, none⟩) n cl) (Forks.fullR n) wz) (hdk : DiskAt wz.heap.size wz (RDV P (P + 1)) ⟨L0, -1⟩) => h.repOk HW.out.ulen HRS.out (by have := (Forks.walkT_okr HW.out.walk).1.2.2.1; omega) (by have h1 := (Forks.walkT_okr HW.out.walk).1; have h2 := h1.1; have h3 := h1.2.1; omega) P ⟨L0, -1⟩ hdk (rd_small HSM.out) 0 2048 (by omega) (by omega) (.slice (some ⟨g, 0, none⟩) n cl) (Forks.fullR n) (SmallsE.row hrow.out) (h.ls.at) (by rw [Forks.fullR_len]; omega) s2 us3 HR_s2.out.eq)
    clear hR_s2
    go_upto_region 17 with fail
    go_cut [14, 15] from 67 to 84 (fun y z wd => ∃ (X : Nat) (a1 a2 a3 : Option Addr) (c1 c2 c3 : Nat), y = .pointer (some ⟨X, 0, none⟩) ∧ z = .int .i64 0 ∧ w.heap.size ≤ X ∧ Hid (WB w W D U us3 L0 0 (.slice none 0 0) [] (.slice (some ⟨g, 0, none⟩) n cl) (Forks.fullR n) wd ∧ wd.heap[X]? = some (.cells #[.int .i64 s2.depth, .slice a1 s2.root.length c1, .slice a2 s2.changes.length c2, .slice a3 s2.freed.length c3] 58 (0, 0)) ∧ RepAt w.heap.size wd (.ok s2) a1 a2 a3 c1 c2 c3))
    case first =>
     have zw : w.heap.size ≤ w1.heap.size := HB.out.bel.size
     have b0 : Below w1.heap.size w1 w1.drew := (Below.refl _ _).drew
     have SB0 := hid (HB.out.below b0)
     have hP0 : w1.drew.heap.size = w1.heap.size := rfl
     have zU : U < w1.heap.size := lt_of_block HB.out.wa.use
     have bA : Below w1.heap.size w1 (w1.alloc (.cells #[.int .i64 0, .slice none 0 0, .slice none 0 0, .slice none 0 0] 58)).drew := ((Below.refl _ _).alloc (Nat.le_refl _) _).drew
     have SBA := hid (HB.out.below bA)
     have NA : Hid ((w1.alloc (.cells #[.int .i64 0, .slice none 0 0, .slice none 0 0, .slice none 0 0] 58)).drew.heap[w1.heap.size]? = some (.cells #[.int .i64 0, .slice none 0 0, .slice none 0 0, .slice none 0 0] 58)) := hid (heap_alloc_new w1 (.cells #[.int .i64 0, .slice none 0 0, .slice none 0 0, .slice none 0 0] 58))
     have hPA : (w1.alloc (.cells #[.int .i64 0, .slice none 0 0, .slice none 0 0, .slice none 0 0] 58)).drew.heap.size = w1.heap.size + 1 := by simp
     have K6 : Hid (∀ w', Below w1.heap.size w1 w' → w'.cell? ⟨W, 0, none⟩ = some (.slice (some ⟨D, 0, none⟩) 4096 4096) ∧ w'.cell? ⟨W, 1, none⟩ = some (.int .i64 0) ∧ w'.cell? ⟨W, 2, none⟩ = some (.slice none 0 0)) := hid (fun wz hz => by
      obtain ⟨q0, q1, q2, -⟩ := (HB.out.below hz).wa.cells
      exact ⟨q0, q1, q2⟩)
     have K7 : Hid (∀ w', WB w W D U us3 L0 0 (.slice none 0 0) [] (.slice (some ⟨g, 0, none⟩) n cl) (Forks.fullR n) w' → w'.cell? ⟨W, 0, none⟩ = some (.slice (some ⟨D, 0, none⟩) 4096 4096) ∧ w'.cell? ⟨W, 1, none⟩ = some (.int .i64 0) ∧ w'.cell? ⟨W, 2, none⟩ = some (.slice none 0 0)) := hid (fun wz hz => by
      obtain ⟨q0, q1, q2, -⟩ := hz.wa.cells
      exact ⟨q0, q1, q2⟩)
     go_region_held3 (fun w' => w'.cell? ⟨W, 0, none⟩ = some (.slice (some ⟨D, 0, none⟩) 4096 4096) ∧ w'.cell? ⟨W, 1, none⟩ = some (.int .i64 0) ∧ w'.cell? ⟨W, 2, none⟩ = some (.slice none 0 0))
      (first | (refine K6.out _ ?_; assumption) | (with_reducible exact Y7) | (with_reducible exact Y8) | (with_reducible exact Z7) | exact Z7)
      (first
       | (go_at_call 20; (with_reducible refine (reading2_any D (-1) _).mono ?_); rintro e w6 ⟨rfl, hw6⟩; have Q6 := SBA.out.readP HLN.out (-1) _ hPA w6 hw6; have N6 := read_keep hw6 NA.out; have s6 := bA.trans ((read_below hw6).mono bA.size); clear hw6)
       | (go_at_call 20; (with_reducible refine (reading2_any D (-1) _).mono ?_); rintro e w6 ⟨rfl, hw6⟩; have Q6 := SB0.out.readP HLN.out (-1) _ hP0 w6 hw6; have s6 := b0.trans ((read_below hw6).mono b0.size); have bA6 := (Below.refl w6.heap.size w6).alloc (Nat.le_refl _) (.cells #[.int .i64 0, .slice none 0 0, .slice none 0 0, .slice none 0 0] 58); have A6 := Q6.1.below bA6; have D6 := Q6.2.below bA6; have s6A := s6.trans (bA6.mono s6.size); have M6 := heap_alloc_new w6 (.cells #[.int .i64 0, .slice none 0 0, .slice none 0 0, .slice none 0 0] 58); clear hw6)
       | (go_at_call 28; (with_reducible refine (QM_s2.out _ _ Q6.1 Q6.2).mono ?_); rintro e w7 ⟨Q7, o7, a1, a2, a3, c1, c2, c3, rfl, p7⟩; have N7 := (o7.block _ (lt_of_block N6) (Nat.ne_of_gt (by have := s6.size; omega))).trans N6; obtain ⟨k0, k1, k2, k3, g0, g1, g2, g3⟩ := set_cells N7; have Y7 := K7.out _ Q7; have X7 := wbo_put Q7 N7 zw p7 Q6.1.bel.size _ rfl; have Z7 := K7.out _ X7.1; unfold put4 at X7 Z7)
       | (go_at_call 28; (with_reducible refine (QM_s2.out _ _ A6 (D6.mono (by simp))).mono ?_); rintro e w7 ⟨Q7, o7, a1, a2, a3, c1, c2, c3, rfl, p7⟩; have N7 := (o7.block _ (lt_of_block M6) (Nat.ne_of_gt (by have := s6.size; omega))).trans M6; obtain ⟨k0, k1, k2, k3, g0, g1, g2, g3⟩ := set_cells N7; have Y7 := K7.out _ Q7; have X7 := wbo_put Q7 N7 Q6.1.bel.size p7 A6.bel.size _ rfl; have Z7 := K7.out _ X7.1; unfold put4 at X7 Z7)
       | (go_at_call 28; (with_reducible refine (QM_s2.out _ _ Q6.1 Q6.2).mono ?_); rintro e w7 ⟨Q7, o7, a1, a2, a3, c1, c2, c3, rfl, p7⟩; have N7 := heap_alloc_new w7 (.cells #[.int .i64 0, .slice none 0 0, .slice none 0 0, .slice none 0 0] 58); have z7 := o7.size; obtain ⟨k0, k1, k2, k3, g0, g1, g2, g3⟩ := set_cells N7; have Y7 := K7.out _ Q7; have Y8 := K7.out _ (Q7.below ((Below.refl w7.heap.size w7).alloc (Nat.le_refl _) (.cells #[.int .i64 0, .slice none 0 0, .slice none 0 0, .slice none 0 0] 58))); have X7 := wbo_new Q7 p7 Q6.1.bel.size _ rfl; have Z7 := K7.out _ X7.1)
       | fail "none")
     all_goals first
      | (go_meet; exact ⟨_, _, _, _, _, _, _, rfl, rfl, by have h1 := Q6.1.bel.size; have h2 := o7.size; omega, hid X7⟩)
      | (go_step; go_meet; exact ⟨_, _, _, _, _, _, _, rfl, rfl, by have h1 := Q6.1.bel.size; have h2 := o7.size; omega, hid X7⟩)
      | (go_step; go_step; go_meet; exact ⟨_, _, _, _, _, _, _, rfl, rfl, by have h1 := Q6.1.bel.size; have h2 := o7.size; omega, hid X7⟩)
      | (go_step; go_step; go_step; go_meet; exact ⟨_, _, _, _, _, _, _, rfl, rfl, by have h1 := Q6.1.bel.size; have h2 := o7.size; omega, hid X7⟩)
      | fail "no end"
    obtain ⟨X2, rb, a2, a3, rd, c2, c3, rfl, rfl, hX20, hcut2⟩ := hcut
    have hRR : Forks.replT [] 0 2048 (Forks.fullR n) = Forks.fullR n := Forks.repl_nil hf2 (by omega)
    obtain ⟨dq1, dq2⟩ := HR_s2.out.deep (by rw [hRR, Forks.fullR_len]; omega)
    have dq3 := dq2 (by rw [hRR, Forks.fullR_len]; omega)
    obtain ⟨d3, hd3⟩ : ∃ d3 : Nat, s2.depth = (d3 : Int) := ⟨s2.depth.toNat, HR_s2.out.dep⟩
    have hW3 := HR_s2.out.ok
    rw [hRR, hd3, Int.toNat_natCast] at hW3
    have qp2 := hid (hcut2.out.1.put hcut2.out.2.2 HLN.out HR_s2.out.len1 HR_s2.out.st.blk HR_s2.out.frd (Forks.setT_len HR_s2.out.st.set).1 (Forks.setT_len HR_s2.out.st.set).2.1)
    have HLN3 : Hid ((Forks.putC s2.changes L0).length = 4096) := hid (by rw [Forks.putC_len]; exact HLN.out)
    have HSM3 : Hid (∀ s ∈ Forks.putC s2.changes L0, s.size ≤ 140737488351232) := hid (small_put HSM.out HR_s2.out.st.size)
    have HRS3 : Hid (SmallsE s2.root) := hid (rootOk_small (Forks.walkT_okr hW3.walk).1)
    have HW3 := hid hW3
    have hX2 := hcut2.out.2.1
    have hbX := hcut2.out.1.bel.size
    rw [hd3] at dq1 dq3 qp2 hX2
    obtain ⟨k0, k1, k2, k3, -⟩ := set_cells hX2
    have HX2 := hid hX2
    have hXlo : Hid (w.heap.size ≤ X2) := hid hX20
    have g1 : decide ((d3 : Int) < 3) = false := decide_eq_false (by omega)
    have g2 : decide ((4 : Int) < (d3 : Int)) = false := decide_eq_false (by omega)
    have hd4 : Hid (d3 ≤ 4) := hid (by omega)
    clear hX20 hW3 hcut2 HR_s2 QM_s2 HLN HSM HW HRS HB dq1 dq2 dq3 hRR hX2 hbX hd3
    generalize s2.root = root3 at *
    generalize Forks.putC s2.changes L0 = L3 at *
    generalize Forks.freeT s2.freed us3 = us4 at *
    generalize s2.changes.length = m2 at *
    generalize s2.freed.length = m3 at *
    rename World => wq
    go_wp2_with fail
    refine qp2.out.mono ?_
    rintro e w3 ⟨rfl, hB3, hK3⟩
    have HB := hid hB3
    have hX3 := hK3 _ _ _ HX2.out
    have HX3 := hid hX3
    clear hB3 hK3 hX3 HX2 g1 g2 k0 k1 k2 k3 qp2
    have hnd : ∃ m, (natI (Forks.nodes v_s2)).length = m := ⟨_, rfl⟩
    obtain ⟨mm, hmm⟩ := hnd
    have hml : Hid (mm ≤ 4096) := hid (by rw [← hmm]; exact nodes_length v_s2)
    have HMM := hid hmm
    have QW := hid (fun (wz : World) (P : Nat) (h : WB w W D U us4 L3 (d3 : Int) (.slice rb root3.length rd) root3 (.slice (some ⟨g, 0, none⟩) n cl) (Forks.fullR n) wz) (hdk : DiskAt wz.heap.size wz (RDV P (P + 1)) ⟨L3, -1⟩) => h.walk HRS3.out (by have := (Forks.walkT_okr HW3.out.walk).1.2.2.1; omega) hd4.out P hdk (rd_small HSM3.out) v_s2 (Forks.fullR n) HW3.out.walk (Forks.fullR_len n) HMM.out)
    clear hmm
    have HLN := HLN3
    go_upto_region 21 with fail
    go_cut [16, 17, 18] from 102 to 115 (fun x y z wd => ∃ (e1 : Option Addr) (f1 : Nat) (e2 : Option Addr) (f2 : Nat), x = .slice e1 n f1 ∧ y = .slice e2 mm f2 ∧ z = .int .i64 0 ∧ Hid (WNX w W D U X2 us4 L3 (d3 : Int) (.slice rb root3.length rd) root3 (.slice (some ⟨g, 0, none⟩) n cl) (Forks.fullR n) (.slice e1 n f1) (Forks.fullR n) (.slice e2 mm f2) (natI (Forks.nodes v_s2)) #[.int .i64 (d3 : Int), .slice rb root3.length rd, .slice a2 m2 c2, .slice a3 m3 c3] wd))
    case first =>
     have b0 : Below w3.heap.size w3 w3.drew := (Below.refl _ _).drew
     have SB0 := hid (HB.out.below b0)
     have hP0 : w3.drew.heap.size = w3.heap.size := rfl
     have K6 : Hid (∀ w', Below w3.heap.size w3 w' → w'.cell? ⟨W, 0, none⟩ = some (.slice (some ⟨D, 0, none⟩) 4096 4096) ∧ w'.cell? ⟨W, 1, none⟩ = some (.int .i64 (d3 : Int)) ∧ w'.cell? ⟨W, 2, none⟩ = some (.slice rb root3.length rd)) := hid (fun wz hz => by
      obtain ⟨q0, q1, q2, -⟩ := (HB.out.below hz).wa.cells
      exact ⟨q0, q1, q2⟩)
     go_region_held3 (fun w' => w'.cell? ⟨W, 0, none⟩ = some (.slice (some ⟨D, 0, none⟩) 4096 4096) ∧ w'.cell? ⟨W, 1, none⟩ = some (.int .i64 (d3 : Int)) ∧ w'.cell? ⟨W, 2, none⟩ = some (.slice rb root3.length rd))
      (first | (refine K6.out _ ?_; assumption) | exact Z7)
      (first
       | (go_at_call 20; (with_reducible refine (reading2_any D (-1) _).mono ?_); rintro e w6 ⟨rfl, hw6⟩; have Q6 := SB0.out.readP HLN.out (-1) _ hP0 w6 hw6; have s6 := b0.trans ((read_below hw6).mono b0.size); clear hw6)
       | (go_at_call 19; (with_reducible refine (QW.out _ _ Q6.1 Q6.2).mono ?_); rintro e w7 ⟨b7, e1, f1, e2, f2, rfl, Q7⟩; have s7 := s6.trans (b7.mono s6.size); have X7 := (s7.block X2 (lt_of_block HX3.out)).trans HX3.out; have Z7 : w7.cell? ⟨W, 0, none⟩ = some (.slice (some ⟨D, 0, none⟩) 4096 4096) ∧ w7.cell? ⟨W, 1, none⟩ = some (.int .i64 (d3 : Int)) ∧ w7.cell? ⟨W, 2, none⟩ = some (.slice rb root3.length rd) := K6.out _ s7)
       | fail "none")
     all_goals first
      | (go_meet; exact ⟨_, _, _, _, rfl, rfl, rfl, hid ⟨Q7, X7⟩⟩)
      | (go_step; go_meet; exact ⟨_, _, _, _, rfl, rfl, rfl, hid ⟨Q7, X7⟩⟩)
      | (go_step; go_step; go_meet; exact ⟨_, _, _, _, rfl, rfl, rfl, hid ⟨Q7, X7⟩⟩)
      | fail "no end"
    obtain ⟨e1, f1, e2, f2, rfl, rfl, rfl, hcutW⟩ := hcut
    have HBW := hid hcutW.out
    clear HB HX3 QW hcutW
    have HB := HBW
    have hml2 := hml.out
    have QN := hid (fun (wz : World) (P : Nat) (h : WNX w W D U X2 us4 L3 (d3 : Int) (.slice rb root3.length rd) root3 (.slice (some ⟨g, 0, none⟩) n cl) (Forks.fullR n) (.slice e1 n f1) (Forks.fullR n) (.slice e2 mm f2) (natI (Forks.nodes v_s2)) #[.int .i64 (d3 : Int), .slice rb root3.length rd, .slice a2 m2 c2, .slice a3 m3 c3] wz) (hdk : DiskAt wz.heap.size wz (RDV P (P + 1)) ⟨L3, -1⟩) => h.repNone hXlo.out HW3.out HRS3.out (by have := (Forks.walkT_okr HW3.out.walk).1.2.2.1; omega) hd4.out P hdk (rd_small HSM3.out) HMM.out)
    go_upto_region 22 with fail
    go_cut [19, 20] from 116 to 128 (fun y z wd => ∃ (X : Nat) (a1 a2 a3 : Option Addr) (c1 c2 c3 : Nat), y = .pointer (some ⟨X, 0, none⟩) ∧ z = .int .i64 0 ∧ w.heap.size ≤ X ∧ Hid (WN w W D U us4 L3 (d3 : Int) (.slice rb root3.length rd) root3 (.slice (some ⟨g, 0, none⟩) n cl) (Forks.fullR n) (.slice e1 n f1) (Forks.fullR n) (.slice e2 mm f2) (natI (Forks.nodes v_s2)) wd ∧ wd.heap[X]? = some (.cells #[.int .i64 0, .slice a1 0 c1, .slice a2 0 c2, .slice a3 mm c3] 58 (0, 0)) ∧ RepAt w.heap.size wd (.ok ⟨0, [], [], natI (Forks.nodes v_s2)⟩) a1 a2 a3 c1 c2 c3))
    case first =>
     have zw : w.heap.size ≤ wc.heap.size := HB.out.bel.size
     have b0 : Below wc.heap.size wc wc.drew := (Below.refl _ _).drew
     have SB0 := hid (HB.out.below b0)
     have hP0 : wc.drew.heap.size = wc.heap.size := rfl
     have zU : X2 < wc.heap.size := lt_of_block HB.out.st
     have bA : Below wc.heap.size wc (wc.alloc (.cells #[.int .i64 0, .slice none 0 0, .slice none 0 0, .slice none 0 0] 58)).drew := ((Below.refl _ _).alloc (Nat.le_refl _) _).drew
     have SBA := hid (HB.out.below bA)
     have NA : Hid ((wc.alloc (.cells #[.int .i64 0, .slice none 0 0, .slice none 0 0, .slice none 0 0] 58)).drew.heap[wc.heap.size]? = some (.cells #[.int .i64 0, .slice none 0 0, .slice none 0 0, .slice none 0 0] 58)) := hid (heap_alloc_new wc (.cells #[.int .i64 0, .slice none 0 0, .slice none 0 0, .slice none 0 0] 58))
     have hPA : (wc.alloc (.cells #[.int .i64 0, .slice none 0 0, .slice none 0 0, .slice none 0 0] 58)).drew.heap.size = wc.heap.size + 1 := by simp
     have K6 : Hid (∀ w', Below wc.heap.size wc w' → w'.cell? ⟨W, 0, none⟩ = some (.slice (some ⟨D, 0, none⟩) 4096 4096) ∧ w'.cell? ⟨W, 1, none⟩ = some (.int .i64 (d3 : Int)) ∧ w'.cell? ⟨W, 2, none⟩ = some (.slice rb root3.length rd)) := hid (fun wz hz => by
      obtain ⟨q0, q1, q2, -⟩ := (HB.out.below hz).wa.cells
      exact ⟨q0, q1, q2⟩)
     have K7 : Hid (∀ w', WN w W D U us4 L3 (d3 : Int) (.slice rb root3.length rd) root3 (.slice (some ⟨g, 0, none⟩) n cl) (Forks.fullR n) (.slice e1 n f1) (Forks.fullR n) (.slice e2 mm f2) (natI (Forks.nodes v_s2)) w' → w'.cell? ⟨W, 0, none⟩ = some (.slice (some ⟨D, 0, none⟩) 4096 4096) ∧ w'.cell? ⟨W, 1, none⟩ = some (.int .i64 (d3 : Int)) ∧ w'.cell? ⟨W, 2, none⟩ = some (.slice rb root3.length rd)) := hid (fun wz hz => by
      obtain ⟨q0, q1, q2, -⟩ := hz.wb.wa.cells
      exact ⟨q0, q1, q2⟩)
     go_region_held3 (fun w' => w'.cell? ⟨W, 0, none⟩ = some (.slice (some ⟨D, 0, none⟩) 4096 4096) ∧ w'.cell? ⟨W, 1, none⟩ = some (.int .i64 (d3 : Int)) ∧ w'.cell? ⟨W, 2, none⟩ = some (.slice rb root3.length rd))
      (first | (refine K6.out _ ?_; assumption) | (with_reducible exact Y7) | (with_reducible exact Y8) | (with_reducible exact Z7) | exact Z7)
      (first
       | (go_at_call 20; (with_reducible refine (reading2_any D (-1) _).mono ?_); rintro e w6 ⟨rfl, hw6⟩; have Q6 := SBA.out.readP HLN.out (-1) _ hPA w6 hw6; have N6 := read_keep hw6 NA.out; have s6 := bA.trans ((read_below hw6).mono bA.size); clear hw6)
       | (go_at_call 20; (with_reducible refine (reading2_any D (-1) _).mono ?_); rintro e w6 ⟨rfl, hw6⟩; have Q6 := SB0.out.readP HLN.out (-1) _ hP0 w6 hw6; have s6 := b0.trans ((read_below hw6).mono b0.size); have bA6 := (Below.refl w6.heap.size w6).alloc (Nat.le_refl _) (.cells #[.int .i64 0, .slice none 0 0, .slice none 0 0, .slice none 0 0] 58); have A6 := Q6.1.below bA6; have D6 := Q6.2.below bA6; have s6A := s6.trans (bA6.mono s6.size); have M6 := heap_alloc_new w6 (.cells #[.int .i64 0, .slice none 0 0, .slice none 0 0, .slice none 0 0] 58); clear hw6)
       | (go_at_call 28; (with_reducible refine (QN.out _ _ Q6.1 Q6.2).mono ?_); rintro e w7 ⟨Q7, o7, a1, a2, a3, c1, c2, c3, rfl, p7⟩; have N7 := (o7.block _ (lt_of_block N6) (Nat.ne_of_gt (by have := s6.size; omega))).trans N6; obtain ⟨k0, k1, k2, k3, g0, g1, g2, g3⟩ := set_cells N7; have Y7 := K7.out _ Q7; have X7 := wno_put HMM.out Q7 N7 zw p7 Q6.1.bel.size _ rfl; have Z7 := K7.out _ X7.1; unfold put4 at X7 Z7)
       | (go_at_call 28; (with_reducible refine (QN.out _ _ A6 (D6.mono (by simp))).mono ?_); rintro e w7 ⟨Q7, o7, a1, a2, a3, c1, c2, c3, rfl, p7⟩; have N7 := (o7.block _ (lt_of_block M6) (Nat.ne_of_gt (by have := s6.size; omega))).trans M6; obtain ⟨k0, k1, k2, k3, g0, g1, g2, g3⟩ := set_cells N7; have Y7 := K7.out _ Q7; have X7 := wno_put HMM.out Q7 N7 Q6.1.bel.size p7 A6.bel.size _ rfl; have Z7 := K7.out _ X7.1; unfold put4 at X7 Z7)
       | (go_at_call 28; (with_reducible refine (QN.out _ _ Q6.1 Q6.2).mono ?_); rintro e w7 ⟨Q7, o7, a1, a2, a3, c1, c2, c3, rfl, p7⟩; have N7 := heap_alloc_new w7 (.cells #[.int .i64 0, .slice none 0 0, .slice none 0 0, .slice none 0 0] 58); have z7 := o7.size; obtain ⟨k0, k1, k2, k3, g0, g1, g2, g3⟩ := set_cells N7; have Y7 := K7.out _ Q7; have Y8 := K7.out _ (Q7.below ((Below.refl w7.heap.size w7).alloc (Nat.le_refl _) (.cells #[.int .i64 0, .slice none 0 0, .slice none 0 0, .slice none 0 0] 58))); have X7 := wno_new HMM.out Q7 p7 Q6.1.bel.size _ rfl; have Z7 := K7.out _ X7.1)
       | fail "none")
     all_goals first
      | (go_meet; exact ⟨_, _, _, _, _, _, _, rfl, rfl, by have h1 := Q6.1.bel.size; have h2 := o7.size; omega, hid X7⟩)
      | (go_step; go_meet; exact ⟨_, _, _, _, _, _, _, rfl, rfl, by have h1 := Q6.1.bel.size; have h2 := o7.size; omega, hid X7⟩)
      | (go_step; go_step; go_meet; exact ⟨_, _, _, _, _, _, _, rfl, rfl, by have h1 := Q6.1.bel.size; have h2 := o7.size; omega, hid X7⟩)
      | (go_step; go_step; go_step; go_meet; exact ⟨_, _, _, _, _, _, _, rfl, rfl, by have h1 := Q6.1.bel.size; have h2 := o7.size; omega, hid X7⟩)
      | fail "no end"
    obtain ⟨X3, a1, a2, a3, c1, c2, c3, rfl, rfl, hX30, hcutN⟩ := hcut
    rename World => wn
    obtain ⟨k0, k1, k2, k3, -⟩ := set_cells hcutN.out.2.1
    have q1 := hid (esame_b wn _ _ (Forks.fullR n) (Forks.fullR n) (OwnExts.at hcutN.out.1.now) (OwnExts.at hcutN.out.1.wb.ls) (by rw [Forks.fullR_len]; omega) (by rw [Forks.fullR_len]; omega) true (by simp))
    have p3 : Hid (IntsAt wn (.slice a3 mm c3) (natI (Forks.nodes v_s2))) := hid (by
     have h := OwnInts.at hcutN.out.2.2.free
     have e : (repF (.ok ⟨0, [], [], natI (Forks.nodes v_s2)⟩)).length = mm := HMM.out
     rw [e] at h
     exact h)
    have q2 := hid (fun wz (hz : Below wn.heap.size wn wz) => isame_bel wz (.slice a3 mm c3) (.slice e2 mm f2) (natI (Forks.nodes v_s2)) (p3.out.below hz) (OwnInts.at (hcutN.out.1.nod.below hz)) (by rw [HMM.out]; omega))
    have K9 : Hid (∀ wz, Below wn.heap.size wn wz → wz.cell? ⟨X3, 0, none⟩ = some (.int .i64 0) ∧ wz.cell? ⟨X3, 1, none⟩ = some (.slice a1 0 c1) ∧ wz.cell? ⟨X3, 2, none⟩ = some (.slice a2 0 c2) ∧ wz.cell? ⟨X3, 3, none⟩ = some (.slice a3 mm c3) ∧ Below w.heap.size w wz) := hid (fun wz hz => by
     have h2 := set_cells ((hz.block _ (lt_of_block hcutN.out.2.1)).trans hcutN.out.2.1)
     exact ⟨h2.1, h2.2.1, h2.2.2.1, h2.2.2.2.1, hcutN.out.1.wb.bel.trans (hz.mono hcutN.out.1.wb.bel.size)⟩)
    clear hcutN p3 HB HBW QN k0 k1 k2 k3
    go_wp2_with fail
    refine q1.out.mono ?_
    rintro e wx ⟨rfl, bx⟩
    obtain ⟨k0, k1, k2, k3, -⟩ := K9.out _ bx
    have q3 := hid (q2.out _ bx)
    have BX := hid bx
    clear bx q1 q2
    go_wp2_with fail
    refine q3.out.mono ?_
    rintro e wy ⟨rfl, by_⟩
    have WY := hid (K9.out _ (BX.out.trans (by_.mono BX.out.size))).2.2.2.2
    clear by_ q3 k0 k1 k2 k3
    go_wp2_with fail
    refine (hal.out _).mono ?_
    rintro e wz ⟨rfl, bz⟩
    have BZ := hid (WY.out.trans (bz.mono WY.out.size))
    clear bz
    go_wp2_with fail
    go_ret
    exact ⟨rfl, BZ.out⟩
end Go.Proofs.YtgjmeeiejcbjfaaGreat
