/- Forks: alive. -/
import Derived.Test.YtgjmeeiejcbjfaaGreatH35
set_option linter.unusedSimpArgs false
set_option linter.unusedVariables false
namespace Go.Proofs.YtgjmeeiejcbjfaaGreat
open Go.Lib (hid)
open Go Go.RowKit
structure AlSt (w0 : World) (D pl pb : Nat) (L : List ByteArray) (bad : Int) (w : World) : Prop where
 row : Row w D 9 (L.map .string)
 c1 : w.cell? ⟨pl, 0, none⟩ = some (.slice (some ⟨D, 0, none⟩) 4096 4096)
 c2 : w.cell? ⟨pb, 0, none⟩ = some (.int .i64 bad)
 len : L.length = 4096
 loD : w0.heap.size < D
 loL : w0.heap.size < pl
 loB : w0.heap.size < pb
 bel : Below w0.heap.size w0 w
variable {w0 w w' : World} {D pl pb : Nat} {L : List ByteArray} {bad : Int}
theorem AlSt.below (h : AlSt w0 D pl pb L bad w) (hb : Below w.heap.size w w') : AlSt w0 D pl pb L bad w' :=
 ⟨h.row.below hb h.row.lt, (hb.cell (p := ⟨pl, 0, none⟩) (World.block_lt_of_cell? _ _ h.c1)).trans h.c1, (hb.cell (p := ⟨pb, 0, none⟩) (World.block_lt_of_cell? _ _ h.c2)).trans h.c2, h.len, h.loD, h.loL, h.loB, h.bel.trans (hb.mono h.bel.size)⟩
theorem AlSt.only (h : AlSt w0 D pl pb L bad w) (hb : OnlyM w0.heap.size w w') : AlSt w0 D pl pb L bad w' := by
 obtain ⟨fr, hr, hf⟩ := h.row
 have k := fun b (hne : w0.heap.size < b) (hl : b < w.heap.size) => hb.block b hl (by omega)
 exact ⟨⟨fr, (k D h.loD (lt_of_block hr)).trans hr, hf⟩, (World.cell?_of_block (k pl h.loL (World.block_lt_of_cell? _ _ h.c1))).trans h.c1, (World.cell?_of_block (k pb h.loB (World.block_lt_of_cell? _ _ h.c2))).trans h.c2, h.len, h.loD, h.loL, h.loB, h.bel.trans (hb.below h.bel.size (Nat.le_refl _))⟩
theorem AlSt.disk (h : AlSt w0 D pl pb L bad w) : DiskAt w.heap.size w (RDV pl pb) ⟨L, bad⟩ :=
 ⟨pl, pb, D, 4096, rfl, World.block_lt_of_cell? _ _ h.c1, World.block_lt_of_cell? _ _ h.c2, h.row.lt, by have := h.len; dsimp only; omega, by rw [h.c1]; dsimp only; rw [h.len], h.c2, fun k s hk => h.row.cellAt k (by rw [List.getElem?_map, hk]; rfl)⟩
theorem AlSt.put (h : AlSt w0 D pl pb L bad w) (k : Nat) (s : ByteArray) (h1 : pl ≠ D) (h2 : pb ≠ D) : AlSt w0 D pl pb (L.set k s) bad (w.setCell ⟨D, k, none⟩ (.string s)) := by
 have := h.row.set k (.string s)
 rw [← List.map_set] at this
 exact ⟨this, (World.cell?_of_block (Below.heap_setCell _ _ _ _ h1)).trans h.c1, (World.cell?_of_block (Below.heap_setCell _ _ _ _ h2)).trans h.c2, by rw [List.length_set]; exact h.len, h.loD, h.loL, h.loB, h.bel.setCell (Nat.le_of_lt h.loD) _⟩
theorem OnlyM.own {M B sz n : Nat} {T : TypeId} {v : Value} {xs : List Value} (h : OnlyM M w w') (hM : M < B) (ho : w.ownsRow B T sz v n xs) : w'.ownsRow B T sz v n xs :=
 ⟨ho.1, ho.2.imp id (fun ⟨g, cap, cur, hv, hg, hh, r⟩ => ⟨g, cap, cur, hv, hg, by rw [h.block g (lt_of_block hh) (by omega)]; exact hh, r⟩)⟩
theorem ownC_at0 {B : Nat} {v : Value} {x : Int × ByteArray} (h : OwnChgs B w v [x]) : ∃ g c, v = .slice (some ⟨g, 0, none⟩) 1 c ∧ w.cell? ⟨g, 0, none⟩ = some (.int .i64 x.1) ∧ w.cell? ⟨g, 1, none⟩ = some (.string x.2) := by
 rcases h.2 with ⟨hv, hn⟩ | ⟨g, cap, cur, hv, _⟩
 ·cases hn
 ·subst hv
  exact ⟨g, cap, rfl, ownC_cell (l := [x]) h rfl, ownC_cell (l := [x]) h rfl⟩
theorem ownE_at0 {B : Nat} {v : Value} {x : Exts.E} (h : OwnEnts B w v [x]) : ∃ g c, v = .slice (some ⟨g, 0, none⟩) 1 c ∧ w.cell? ⟨g, 1, none⟩ = some (.int .i64 x.2.1) := by
 rcases h.2 with ⟨hv, hn⟩ | ⟨g, cap, cur, hv, _⟩
 ·cases hn
 ·subst hv
  exact ⟨g, cap, rfl, own_cellK (show w.ownsRow B 31 3 _ 1 (ecells [x]) from h) rfl⟩
theorem isame_b (w : World) (v1 v2 : Value) (l1 l2 : IL) (h1 : IntsAt w v1 l1) (h2 : IntsAt w v2 l2) (hn1 : l1.length ≤ 9223372036854775807) (hn2 : l2.length ≤ 9223372036854775807) (r : Bool) (hr : (l1 == l2) = r) :
  Calls Tryz.prog 23 #[v1, v2] w fun e w' => e = .returned (.bool r) ∧ ∃ n, w' = w.drewN n := by
 subst hr
 by_cases hl : l1.length = l2.length
 ·rcases h1 with ⟨rfl, rfl⟩ | ⟨b1, o1, c1, rfl, hc1⟩
  ·have : l2 = [] := List.eq_nil_of_length_eq_zero hl.symm
   subst this
   obtain ⟨a2, k2, rfl⟩ := h2.form
   exact isame_zero _ _ _ _ w
  ·rcases h2 with ⟨rfl, rfl⟩ | ⟨b2, o2, c2, rfl, hc2⟩
   ·have : l1 = [] := List.eq_nil_of_length_eq_zero hl
    subst this
    exact isame_zero _ _ _ _ w
   ·have := isame_some w b1 o1 c1 b2 o2 c2 l1 l2 hl.symm hn1 hc1 hc2
    rwa [hl] at this ⊢
 ·obtain ⟨a1, k1, rfl⟩ := h1.form
  obtain ⟨a2, k2, rfl⟩ := h2.form
  have : (l1 == l2) = false := by rw [beq_eq_false_iff_ne]; intro e; exact hl (by rw [e])
  rw [this]
  exact isame_no _ _ _ _ _ _ hl hn1 hn2 w
set_option maxRecDepth 100000 in
set_option maxHeartbeats 16000000 in
theorem alive_any (w : World) : Calls Tryz.prog 16 #[] w fun e w' => e = .returned (.bool true) ∧ Below w.heap.size w w' := by
 have qb := hid (blocks_any (.slice none 0 0) [] 0 w (.inl ⟨rfl, rfl⟩) (by simp) (fun x hx => by cases hx))
 go_enter Tryz.func16, Tryz.ntmps16
 go_wp2_with fail
 refine qb.out.mono ?_
 rintro e w1 ⟨D, rfl, hD, hrow, b1⟩
 have HR1 := hid hrow
 have B1 := hid b1
 have hDl := HR1.out.lt
 have qr := hid (reading2_any D (-1) w1)
 clear hrow b1 qb
 go_wp2_with fail
 refine qr.out.mono ?_
 rintro e w2 ⟨rfl, rfl⟩
 have A2 := hid (show AlSt w D w1.heap.size (w1.heap.size + 1) Forks.D0 (-1) ((w1.alloc (.cells #[.slice (some ⟨D, 0, none⟩) 4096 4096] 40)).alloc (.cells #[.int .i64 (-1)] 3)) from by
  have h0 := heap_alloc_new w1 (.cells #[.slice (some ⟨D, 0, none⟩) 4096 4096] 40)
  have h1 := heap_alloc_new (w1.alloc (.cells #[.slice (some ⟨D, 0, none⟩) 4096 4096] 40)) (.cells #[.int .i64 (-1)] 3)
  rw [asz] at h1
  have bA : Below w1.heap.size w1 ((w1.alloc (.cells #[.slice (some ⟨D, 0, none⟩) 4096 4096] 40)).alloc (.cells #[.int .i64 (-1)] 3)) := ((Below.refl _ _).alloc (Nat.le_refl _) _).alloc (by simp) _
  have hl := HR1.out.lt
  exact ⟨HR1.out.below bA hl, cell_of_row _ _ 0 _ _ _ (heap_alloc_at h0 _), cell_of_row _ _ 0 _ _ _ h1, Forks.D0_len, hD, by omega, by omega, B1.out.trans (bA.mono B1.out.size)⟩)
 generalize (w1.alloc _).alloc _ = w2 at *
 generalize w1.heap.size = P at *
 clear HR1 B1 qr hD
 go_upto_region 3 with fail
 have q5 := hid (five_any w2)
 go_wp2_with fail
 refine q5.out.mono ?_
 rintro e w3 ⟨v5, rfl, o5, b5⟩
 have A3 := hid (A2.out.below b5)
 rw [Forks.five_eq] at o5
 have O5 := hid o5
 obtain ⟨a5, c5, rfl⟩ := OwnExts.slice o5
 have hz3 : w.heap.size < w3.heap.size := by have := A3.out.loD; have := A3.out.row.lt; omega
 have qx := hid (replace_any w3 ((fiftyFn w3.heap.size w.heap.size hz3).ask () (by decide)) trivial (.inl ⟨_, _, rfl⟩) P (P + 1) ⟨Forks.D0, -1⟩ 0 (.slice none 0 0) [] (fun x hx => by cases hx) (.inl ⟨rfl, rfl⟩) (by simp) (by omega) A3.out.disk (fun b s h => by have := Forks.D0_size s (Forks.rd_mem h); omega) 0 9 (by omega) (by omega) (.slice a5 Forks.F5.length c5) Forks.F5 (fun x hx => by have : Exts.Row Forks.F5 := Ents.row_leaf.1 (by decide); have := Forks.row_small this x hx; unfold SmallE; omega) (OwnExts.at O5.out) (by decide))
 have hal := Forks.al_repl1
 rw [Forks.five_eq] at hal
 rw [hal] at qx
 clear hal b5 o5 q5 A2
 go_wp2_with fail
 refine qx.out.mono ?_
 rintro e w4 ⟨-, ho4, rvx, cvx, fvx, he, h1, h2, h3⟩
 dsimp only at he h1 h2 h3 ho4
 obtain ⟨arx, crx, rfl⟩ := h1.slice
 obtain ⟨acx, ccx, rfl⟩ := h2.slice
 obtain ⟨afx, cfx, rfl⟩ := h3.slice
 obtain rfl : e = .returned (.tuple #[.agg #[.int .i64 1, .slice arx 1 crx, .slice acx 1 ccx, .slice afx 0 cfx], .int .i64 0]) := he
 have A4 := hid (A3.out.only ho4)
 have HRX := hid h1
 have HCX := hid h2
 have HFX := hid h3
 have hX8l : w.heap.size < w4.heap.size := Nat.lt_trans A4.out.loD A4.out.row.lt
 have h3l := hz3
 clear h1 h2 h3 ho4 qx A3 O5 hz3
 go_upto_region 4 with fail
 have bX : Below w4.heap.size w4 (w4.alloc (.cells #[.int .i64 1, .slice arx 1 crx, .slice acx 1 ccx, .slice afx 0 cfx] 58)) := (Below.refl _ _).alloc (Nat.le_refl _) _
 have A5 := hid (A4.out.below bX)
 have X5 := heap_alloc_new w4 (.cells #[.int .i64 1, .slice arx 1 crx, .slice acx 1 ccx, .slice afx 0 cfx] 58)
 have R5 := hid (own_below HRX.out bX)
 obtain ⟨gc, kc, hvc, d0, d1⟩ := ownC_at0 (HCX.out.below bX)
 have hvc' : Value.slice acx 1 ccx = .slice (some ⟨gc, 0, none⟩) 1 kc := hvc
 injection hvc' with e1 _ e2
 subst e1
 subst e2
 have hDP : P ≠ D ∧ P + 1 ≠ D := by omega
 clear hvc bX A4 HRX HCX HFX
 generalize w4.alloc _ = w5 at *
 generalize w4.heap.size = Xb at *
 have x0 := cell_of_row _ _ 0 _ _ _ X5
 have x1 := cell_of_row _ _ 1 _ _ _ X5
 have x2 := cell_of_row _ _ 2 _ _ _ X5
 have x3 := cell_of_row _ _ 3 _ _ _ X5
 have zX := lt_of_block X5
 have zg : gc < w5.heap.size := World.block_lt_of_cell? _ _ d0
 have bL : Below w5.heap.size w5 (w5.alloc (.cells #[.int .i64 0, .int .i64 50, .int .i64 0] 31)) := (Below.refl _ _).alloc (Nat.le_refl _) _
 have hlit : OwnEnts w5.heap.size (w5.alloc (.cells #[.int .i64 0, .int .i64 50, .int .i64 0] 31)) (.slice (some ⟨w5.heap.size, 0, none⟩) 1 1) [(0, 50, 0)] := World.ownsRow_lit w5 #[.int .i64 0, .int .i64 50, .int .i64 0] 1 (Nat.le_refl _) (by unfold maxLen; omega) rfl
 have qs := hid (nsame_b _ (.slice arx 1 crx) (.slice (some ⟨w5.heap.size, 0, none⟩) 1 1) [(0, 50, 0)] [(0, 50, 0)] (OwnEnts.ents (own_below R5.out bL)).ext hlit.ents.ext (by decide) (by decide) true (by decide))
 have BL := hid bL
 clear bL hlit
 go_wp2_with fail
 refine qs.out.mono ?_
 rintro e w6 ⟨rfl, b6⟩
 have b56 : Below w5.heap.size w5 w6 := BL.out.trans (b6.mono BL.out.size)
 have A6 := hid (A5.out.below b56)
 have X6 := hid ((b56.block Xb zX).trans X5)
 have R6 := hid (own_below R5.out b56)
 have d06 := (b56.cell (p := ⟨gc, 0, none⟩) zg).trans d0
 have d16 := (b56.cell (p := ⟨gc, 1, none⟩) zg).trans d1
 have x26 := cell_of_row _ _ 2 _ _ _ X6.out
 clear b6 b56 qs BL A5 R5 X5 x0 x1 x2 x3 zX zg d0 d1
 have c50 := A6.out.row.cellAt 50 (v := .string (Forks.D0.getD 50 ⟨#[]⟩)) (by rw [List.getElem?_map, List.getD, List.getElem?_eq_getElem (by rw [Forks.D0_len]; decide)]; rfl)
 have f50 := A6.out.row.free 50 (by rw [List.length_map, Forks.D0_len]; decide)
 generalize Forks.D0.getD 50 ⟨#[]⟩ = old at c50
 have A7 := hid (show AlSt w D P (P + 1) Forks.D1 (-1) (w6.setCell ⟨D, 50, none⟩ (.string Forks.S50)) from A6.out.put 50 Forks.S50 hDP.1 hDP.2)
 go_upto_region 7 with fail
 obtain ⟨frD, hDb⟩ := A6.out.row.block
 have X7 := set_other (a := ⟨D, 50, none⟩) (u := .string Forks.S50) hDb X6.out (by decide)
 have R7 := hid (own_keepT R6.out (KeepT.set (a := ⟨D, 50, none⟩) (u := .string Forks.S50) hDb (by decide)))
 clear hDb A6 X6 R6 d06 d16 x26 c50 f50 hDP hDl
 generalize w6.setCell _ _ = w7 at *
 have x0 := cell_of_row _ _ 0 _ _ _ X7
 have x1 := cell_of_row _ _ 1 _ _ _ X7
 have HX7 := hid X7
 have h7l : w.heap.size < w7.heap.size := Nat.lt_trans A7.out.loD A7.out.row.lt
 have hsm : SmallsE [(0, 50, 0)] := fun x hx => by
  obtain rfl := List.mem_singleton.1 hx
  unfold SmallE
  decide
 have hds : ∀ (b : Nat) (s : ByteArray), (⟨Forks.D1, -1⟩ : Forks.Disk).rd b = some s → s.size ≤ 140737488351232 := fun b s h => by
  have := Forks.D1_size s (Forks.rd_mem h)
  omega
 have HSM := hid hsm
 have HDS := hid hds
 have qw := hid (Walk_any P (P + 1) ⟨Forks.D1, -1⟩ 1 (.slice arx 1 crx) [(0, 50, 0)] hsm (OwnEnts.ents R7.out).ext (by decide) (by omega) A7.out.disk hds)
 rw [Forks.al_walk] at qw
 clear X7 hsm hds
 go_wp2_with fail
 refine qw.out.mono ?_
 rintro e w8 ⟨b8, av, bv, rfl, oa8, ob8, -⟩
 dsimp only at oa8 ob8
 rw [Forks.nodes_V1] at ob8
 have A8 := hid (A7.out.below b8)
 have X8 := hid ((b8.block Xb (lt_of_block HX7.out)).trans HX7.out)
 have R8 := hid (own_below R7.out b8)
 have L8 := hid oa8
 have N8 := hid (show OwnInts w7.heap.size w8 bv [50] from ob8)
 obtain ⟨aa, ca, rfl⟩ := OwnExts.slice oa8
 obtain ⟨ab, cb, rfl⟩ := N8.out.slice
 have hz7 := A7.out.bel.size
 clear b8 oa8 ob8 qw A7 R7 HX7 x0 x1
 have hz8 : w.heap.size < w8.heap.size := by have := A8.out.loD; have := A8.out.row.lt; omega
 have x0 := cell_of_row _ _ 0 _ _ _ X8.out
 have x1 := cell_of_row _ _ 1 _ _ _ X8.out
 have qy := hid (replace_any w8 (nilAsk w8.heap.size w.heap.size hz8) trivial (.inr rfl) P (P + 1) ⟨Forks.D1, -1⟩ 1 (.slice arx 1 crx) [(0, 50, 0)] HSM.out (OwnEnts.ents R8.out).ext (by decide) (by omega) A8.out.disk HDS.out 2 7 (by omega) (by omega) (.slice none 0 0) [] (fun x hx => by cases hx) (.inl ⟨rfl, rfl⟩) (by decide))
 rw [Forks.al_repl2] at qy
 go_wp2_with fail
 refine qy.out.mono ?_
 rintro e w9 ⟨-, ho9, rvy, cvy, fvy, he, h1, h2, h3⟩
 dsimp only at he h1 h2 h3 ho9
 obtain ⟨ary, cry, rfl⟩ := h1.slice
 obtain ⟨acy, ccy, rfl⟩ := h2.slice
 obtain ⟨afy, cfy, rfl⟩ := h3.slice
 obtain rfl : e = .returned (.tuple #[.agg #[.int .i64 0, .slice ary 2 cry, .slice acy 0 ccy, .slice afy 1 cfy], .int .i64 0]) := he
 have bY : Below w9.heap.size w9 (w9.alloc (.cells #[.int .i64 0, .slice ary 2 cry, .slice acy 0 ccy, .slice afy 1 cfy] 58)) := (Below.refl _ _).alloc (Nat.le_refl _) _
 have A10 := hid ((A8.out.only ho9).below bY)
 have X9 := (ho9.block Xb (lt_of_block X8.out) (by omega)).trans X8.out
 have X10 := hid ((bY.block Xb (lt_of_block X9)).trans X9)
 have R10 := hid (own_below (ho9.own h3l R8.out) bY)
 have L10 := hid (own_below (ho9.own h7l L8.out) bY)
 have N10 := hid (own_below (ho9.own h7l N8.out) bY)
 have Y10 := hid (heap_alloc_new w9 (.cells #[.int .i64 0, .slice ary 2 cry, .slice acy 0 ccy, .slice afy 1 cfy] 58))
 have F10 := hid (own_below h3 bY)
 clear h1 h2 h3 ho9 bY X9 A8 X8 R8 L8 N8 qy x0 x1
 go_upto_region 9 with fail
 generalize w9.alloc _ = w10 at *
 generalize w9.heap.size = Yb at *
 have x0 := cell_of_row _ _ 0 _ _ _ X10.out
 have x1 := cell_of_row _ _ 1 _ _ _ X10.out
 obtain ⟨srz, hmv, hmc⟩ := Forks.al_move
 have qz := hid (move_any w10 P (P + 1) ⟨Forks.D1, -1⟩ 1 (.slice arx 1 crx) [(0, 50, 0)] HSM.out (OwnEnts.ents R10.out) (by decide) (by omega) A10.out.disk HDS.out 4 1 99 (by omega) (by omega) (by omega))
 rw [hmv] at qz
 clear hmv
 go_wp2_with fail
 refine qz.out.mono ?_
 rintro e w11 ⟨b11, rvz, cvz, fvz, he, h1, h2, h3⟩
 obtain ⟨szd, szr, szc, szf⟩ := srz
 dsimp only at he h1 h2 h3 hmc
 obtain ⟨arz, crz, rfl⟩ := h1.slice
 obtain ⟨acz, ccz, rfl⟩ := h2.slice
 obtain ⟨afz, cfz, rfl⟩ := h3.slice
 rw [hmc] at he
 obtain rfl : e = .returned (.tuple #[.agg #[.int .i64 szd, .slice arz szr.length crz, .slice acz 1 ccz, .slice afz szf.length cfz], .int .i64 0]) := he
 have bZ : Below w10.heap.size w10 (w11.alloc (.cells #[.int .i64 szd, .slice arz szr.length crz, .slice acz 1 ccz, .slice afz szf.length cfz] 58)) := b11.alloc b11.size _
 have A12 := hid (A10.out.below bZ)
 have X12 := hid ((bZ.block Xb (lt_of_block X10.out)).trans X10.out)
 have R12 := hid (own_below R10.out bZ)
 have L12 := hid (own_below L10.out bZ)
 have N12 := hid (own_below N10.out bZ)
 have Y12 := hid ((bZ.block Yb (lt_of_block Y10.out)).trans Y10.out)
 have F12 := hid (own_below F10.out bZ)
 have Z12 := hid (heap_alloc_new w11 (.cells #[.int .i64 szd, .slice arz szr.length crz, .slice acz 1 ccz, .slice afz szf.length cfz] 58))
 clear h1 h2 h3 b11 bZ A10 X10 R10 L10 N10 Y10 F10 qz x0 x1 hmc
 go_upto_region 10 with fail
 generalize w11.alloc _ = w12 at *
 generalize w11.heap.size = Zb at *
 generalize szr.length = nzr at *
 generalize szf.length = nzf at *
 have x0 := cell_of_row _ _ 0 _ _ _ X12.out
 have x1 := cell_of_row _ _ 1 _ _ _ X12.out
 have qv := hid (lead_any w12 P (P + 1) ⟨Forks.D1, -1⟩ 1 (.slice arx 1 crx) [(0, 50, 0)] HSM.out (OwnEnts.ents R12.out) (by decide) (by omega) A12.out.disk HDS.out 50 60 (by omega) (by omega))
 rw [Forks.al_lead] at qv
 go_wp2_with fail
 refine qv.out.mono ?_
 rintro e w13 ⟨b13, rvv, cvv, fvv, he, h1, h2, h3⟩
 dsimp only at he h1 h2 h3
 obtain ⟨gv, kv, rfl, rv1⟩ := ownE_at0 h1
 obtain ⟨acv, ccv, rfl⟩ := h2.slice
 obtain ⟨afv, cfv, rfl⟩ := h3.slice
 obtain rfl : e = .returned (.tuple #[.agg #[.int .i64 1, .slice (some ⟨gv, 0, none⟩) 1 kv, .slice acv 1 ccv, .slice afv 1 cfv], .int .i64 0]) := he
 have bV : Below w12.heap.size w12 (w13.alloc (.cells #[.int .i64 1, .slice (some ⟨gv, 0, none⟩) 1 kv, .slice acv 1 ccv, .slice afv 1 cfv] 58)) := b13.alloc b13.size _
 have L14 := hid (own_below L12.out bV)
 have N14 := hid (own_below N12.out bV)
 have Y14 := hid ((bV.block Yb (lt_of_block Y12.out)).trans Y12.out)
 have F14 := hid (own_below F12.out bV)
 have Z14 := hid ((bV.block Zb (lt_of_block Z12.out)).trans Z12.out)
 have V14 := hid (heap_alloc_new w13 (.cells #[.int .i64 1, .slice (some ⟨gv, 0, none⟩) 1 kv, .slice acv 1 ccv, .slice afv 1 cfv] 58))
 have rv14 := (((Below.refl w13.heap.size w13).alloc (Nat.le_refl _) (.cells #[.int .i64 1, .slice (some ⟨gv, 0, none⟩) 1 kv, .slice acv 1 ccv, .slice afv 1 cfv] 58)).cell (p := ⟨gv, 1, none⟩) (World.block_lt_of_cell? _ _ rv1)).trans rv1
 have B14 := hid (A12.out.bel.trans (bV.mono A12.out.bel.size))
 clear h1 h2 h3 b13 bV A12 X12 R12 L12 N12 Y12 F12 Z12 qv x0 x1 rv1
 go_wp2_with fail
 generalize w13.alloc _ = w14 at *
 generalize w13.heap.size = Vb at *
 refine (five_any w14).mono ?_
 rintro e w15 ⟨v15, rfl, o15, b15⟩
 rw [Forks.five_eq] at o15
 have qe := hid (esame_b w15 (.slice aa Forks.F5.length ca) v15 Forks.F5 Forks.F5 (OwnExts.at (own_below L14.out b15)) (OwnExts.at o15) (by decide) (by decide) true (by simp))
 obtain ⟨a15, c15, rfl⟩ := OwnExts.slice o15
 have N15 := hid (own_below N14.out b15)
 have Y15 := hid ((b15.block Yb (lt_of_block Y14.out)).trans Y14.out)
 have F15 := hid (own_below F14.out b15)
 have Z15 := hid ((b15.block Zb (lt_of_block Z14.out)).trans Z14.out)
 have V15 := hid ((b15.block Vb (lt_of_block V14.out)).trans V14.out)
 have rv15 := (b15.cell (p := ⟨gv, 1, none⟩) (World.block_lt_of_cell? _ _ rv14)).trans rv14
 have B15 := hid (B14.out.trans (b15.mono B14.out.size))
 clear b15 o15 L14 N14 Y14 F14 Z14 V14 rv14 B14
 go_wp2_with fail
 refine qe.out.mono ?_
 rintro e w16 ⟨rfl, b16⟩
 have N16 := hid (own_below N15.out b16)
 have Y16 := hid ((b16.block Yb (lt_of_block Y15.out)).trans Y15.out)
 have F16 := hid (own_below F15.out b16)
 have Z16 := hid ((b16.block Zb (lt_of_block Z15.out)).trans Z15.out)
 have V16 := hid ((b16.block Vb (lt_of_block V15.out)).trans V15.out)
 have rv16 := (b16.cell (p := ⟨gv, 1, none⟩) (World.block_lt_of_cell? _ _ rv15)).trans rv15
 have B16 := hid (B15.out.trans (b16.mono B15.out.size))
 clear b16 qe N15 Y15 F15 Z15 V15 rv15 B15
 have bL : Below w16.heap.size w16 (w16.alloc (.cells #[.int .i64 50] 3)) := (Below.refl _ _).alloc (Nat.le_refl _) _
 have hlit : OwnInts w16.heap.size (w16.alloc (.cells #[.int .i64 50] 3)) (.slice (some ⟨w16.heap.size, 0, none⟩) 1 1) [50] := World.ownsRow_lit w16 #[.int .i64 50] 1 (Nat.le_refl _) (by unfold maxLen; omega) rfl
 have qi := hid (isame_b _ (.slice ab ([50] : IL).length cb) (.slice (some ⟨w16.heap.size, 0, none⟩) 1 1) [50] [50] (OwnInts.at (own_below N16.out bL)) (OwnInts.at hlit) (by decide) (by decide) true (by decide))
 have BL := hid bL
 clear bL hlit
 go_wp2_with fail
 refine qi.out.mono ?_
 rintro e w17 ⟨rfl, m17, rfl⟩
 have b17 : Below w16.heap.size w16 ((w16.alloc (.cells #[.int .i64 50] 3)).drewN m17) := Below.drewN' BL.out m17
 have Y17 := (b17.block Yb (lt_of_block Y16.out)).trans Y16.out
 have F17 := hid (own_below F16.out b17)
 have Z17 := (b17.block Zb (lt_of_block Z16.out)).trans Z16.out
 have V17 := (b17.block Vb (lt_of_block V16.out)).trans V16.out
 have rv17 := (b17.cell (p := ⟨gv, 1, none⟩) (World.block_lt_of_cell? _ _ rv16)).trans rv16
 have B17 := hid (B16.out.trans (b17.mono B16.out.size))
 clear b17 qi N16 Y16 F16 Z16 V16 rv16 B16 BL
 generalize (w16.alloc _).drewN m17 = w17 at *
 have y0 := cell_of_row _ _ 0 _ _ _ Y17
 have y1 := cell_of_row _ _ 1 _ _ _ Y17
 have y2 := cell_of_row _ _ 2 _ _ _ Y17
 have y3 := cell_of_row _ _ 3 _ _ _ Y17
 have bL : Below w17.heap.size w17 (w17.alloc (.cells #[.int .i64 50] 3)) := (Below.refl _ _).alloc (Nat.le_refl _) _
 have hlit : OwnInts w17.heap.size (w17.alloc (.cells #[.int .i64 50] 3)) (.slice (some ⟨w17.heap.size, 0, none⟩) 1 1) [50] := World.ownsRow_lit w17 #[.int .i64 50] 1 (Nat.le_refl _) (by unfold maxLen; omega) rfl
 have qi := hid (isame_b _ (.slice afy 1 cfy) (.slice (some ⟨w17.heap.size, 0, none⟩) 1 1) [50] [50] (OwnInts.at (own_below F17.out bL)) (OwnInts.at hlit) (by decide) (by decide) true (by decide))
 have BL := hid bL
 have HZ17 := hid Z17
 have HV17 := hid V17
 clear bL hlit Y17 Z17 V17
 go_wp2_with fail
 refine qi.out.mono ?_
 rintro e w18 ⟨rfl, m18, rfl⟩
 have b18 : Below w17.heap.size w17 ((w17.alloc (.cells #[.int .i64 50] 3)).drewN m18) := Below.drewN' BL.out m18
 have Z18 := (b18.block Zb (lt_of_block HZ17.out)).trans HZ17.out
 have V18 := (b18.block Vb (lt_of_block HV17.out)).trans HV17.out
 have rv18 := (b18.cell (p := ⟨gv, 1, none⟩) (World.block_lt_of_cell? _ _ rv17)).trans rv17
 have B18 := hid (B17.out.trans (b18.mono B17.out.size))
 clear b18 qi F17 HZ17 HV17 rv17 B17 BL y0 y1 y2 y3
 generalize (w17.alloc _).drewN m18 = w18 at *
 have z2 := cell_of_row _ _ 2 _ _ _ Z18
 have v1 := cell_of_row _ _ 1 _ _ _ V18
 have v2 := cell_of_row _ _ 2 _ _ _ V18
 go_wp2_with fail
 go_ret
 exact ⟨rfl, B18.out⟩
end Go.Proofs.YtgjmeeiejcbjfaaGreat
