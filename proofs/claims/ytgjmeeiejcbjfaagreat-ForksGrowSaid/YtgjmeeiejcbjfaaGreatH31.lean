/- Forks: Replace. (Printed by wip/gen/frepl.py.) -/
import Derived.Test.YtgjmeeiejcbjfaaGreatH29
set_option linter.unusedSimpArgs false
set_option linter.unusedVariables false
namespace Go.Proofs.YtgjmeeiejcbjfaaGreat
open Go.Lib (hid)
open Go Go.RowKit
theorem Forks.walkT_okr {dk : Forks.Disk} {depth : Int} {root : EL} {v : Forks.V} {R : EL} (h : Forks.walkT dk depth root = .ok (v, R)) : Forks.RootOk depth root ∧ Exts.Row R ∧ Forks.meets v R = false := by
 unfold Forks.walkT at h
 split at h
 ·cases h
 ·rename_i hr
  have hr' : Forks.RootOk depth root := Classical.byContradiction hr
  cases hm : (if depth = 0 then .ok [] else Forks.allW dk depth.toNat root [] : Except Int Forks.V) with
  | error e => rw [hm] at h; cases h
  | ok v' =>
   rw [hm] at h
   dsimp only at h
   by_cases hc : Ents.Row true (if depth = 0 then root else Forks.rowV v') ∧ Forks.meets v' (if depth = 0 then root else Forks.rowV v') = false
   ·rw [if_pos hc] at h
    injection h with h
    injection h with h1 h2
    subst h1
    subst h2
    exact ⟨hr', Ents.row_leaf.1 hc.1, hc.2⟩
   ·rw [if_neg hc] at h
    cases h
variable {S : Type} {FR : S → World → Prop} {M : Nat} {fv : Value} {s0 : S} {ak : Forks.V → EL → Nat → IL → (Int × IL) × S}
set_option maxRecDepth 100000 in
set_option maxHeartbeats 16000000 in
theorem replace_any (w : World) (hAsk : AskFn S w.heap.size M fv FR s0 ak) (hs0 : FR s0 w) (hfv : (∃ f b, fv = .func f b #[]) ∨ fv = .nilFunc) (pl pb : Nat) (dk : Forks.Disk) (depth : Int) (rv : Value) (root : EL) (hs : SmallsE root) (h : ExtsAt w rv root) (hl : root.length ≤ 1000000000) (hd : -9223372036854775808 ≤ depth ∧ depth ≤ 9223372036854775807) (hdk : DiskAt w.heap.size w (RDV pl pb) dk) (hds : ∀ b s, dk.rd b = some s → s.size ≤ 140737488351232)
  (a b : Int) (ha : -9223372036854775808 ≤ a ∧ a ≤ 9223372036854775807) (hb : -9223372036854775808 ≤ b ∧ b ≤ 9223372036854775807) (lv : Value) (l : EL) (hsl : SmallsE l) (hL : ExtsAt w lv l) (hll : l.length ≤ 100000) :
  Calls Tryz.prog 28 #[.agg #[.int .i64 depth, rv], RDV pl pb, .int .i64 a, .int .i64 b, lv, fv] w (ReplaceOut FR w M (Forks.replaceT ak dk depth root a b l s0)) := by
 have HAsk := hid hAsk
 have HS0 := hid hs0
 have H := hid h
 have HL := hid hL
 have HDK := hid hdk
 have HDS := hid hds
 have hMK := hAsk.lt
 obtain ⟨ar, cr, rfl⟩ := h.form3
 obtain ⟨al, cl, rfl⟩ := hL.form3
 have R1 : Hid (RSt w w.heap.size (w.heap.size + 1) depth (.slice ar root.length cr) ((w.alloc (.cells #[.int .i64 depth, .slice ar root.length cr] 35)).alloc (.cells #[.int .i64 0, .slice none 0 0, .slice none 0 0, .slice none 0 0] 58))) := hid (by
  obtain ⟨h1, h2⟩ := shape_alloc2 w (.cells #[.int .i64 depth, .slice ar root.length cr] 35) (.cells #[.int .i64 0, .slice none 0 0, .slice none 0 0, .slice none 0 0] 58)
  exact ⟨h1, h2, ((Below.refl _ _).alloc (Nat.le_refl _) _).alloc (by simp) _, Nat.le_refl _, Nat.le_succ _⟩)
 have qf := hid (fits_any (.slice al l.length cl) l a b hsl (HL.out.below (B := 0) R1.out.bel) (by omega) ha hb)
 have qw := hid (fun w2 (b2 : Below w.heap.size w w2) => walk_any pl pb dk depth (.slice ar root.length cr) root hs (H.out.below (B := 0) b2) hl hd ((HDK.out.below b2).mono b2.size) hds)
 generalize hRT : Forks.replaceT ak dk depth root a b l s0 = RT at *
 have HRT := hid hRT
 have hFK := hid (fun w2 (b2 : Below w.heap.size w w2) => HAsk.out.keep _ _ _ HS0.out b2)
 clear hAsk hs0 h hL hdk hds hRT hs hsl
 cases hfit : Forks.fitsT a b l
 case false =>
  rw [hfit] at qf
  have hRT2 : Hid (RT = (.error 2, s0)) := hid (by rw [← HRT.out]; unfold Forks.replaceT; rw [if_pos hfit])
  clear hfit qw
  go_enter Tryz.func28, Tryz.ntmps28
  go_wp2_with fail
  generalize (w.alloc _).alloc _ = w1 at *
  refine qf.out.mono ?_
  rintro e w2 ⟨rfl, b2⟩
  have R2 := hid (R1.out.below b2)
  clear b2 qf R1
  obtain ⟨t0, t1, z0, z1, z2, z3, zF⟩ := R2.out.cells
  have zf0 := zF 0
  have zf1 := zF 1
  have zf2 := zF 2
  have zf3 := zF 3
  have RES := R2.out.res
  clear zF
  have FE := hid (repl_err (M := M) (w0 := w) (w := w2) (Z1 := w.heap.size + 1) (r := RT) (k := 2) HAsk.out.keep (.of_below R2.out.bel) (Nat.le_succ _) (hFK.out w2 R2.out.bel) hRT2.out (by decide))
  obtain ⟨n0, n1, n2, n3⟩ := zero4_cells RES
  unfold zero4 at FE n0 n1 n2 n3
  clear RES
  go_wp2_with fail
  refine bodyPost_ret (v := .tuple #[setV 0 (.slice none 0 0) (.slice none 0 0) (.slice none 0 0), .int .i64 2]) ?_ rfl FE.out
  first | (simp [results, Tryz.results28, go_sem, n0, n1, n2, n3, setV]; done)
 case true =>
  rw [hfit] at qf
  have hfs := Forks.fits_spec hfit
  have HFit := hid hfit
  obtain ⟨a0, ab, b1, hlr, hlin⟩ := hfs
  have HLR := hid hlr
  have hll2 := Forks.row_len hlr
  clear hlin hlr
  cases hW : Forks.walkT dk depth root with
  | error k =>
   rw [hW] at qw
   have hRT2 : Hid (RT = (.error k, s0)) := hid (by rw [← HRT.out]; unfold Forks.replaceT; rw [if_neg (by rw [hfit]; decide), hW])
   clear hfit hW
   go_enter Tryz.func28, Tryz.ntmps28
   go_wp2_with fail
   generalize (w.alloc _).alloc _ = w1 at *
   refine qf.out.mono ?_
   rintro e w2 ⟨rfl, b2⟩
   have R2 := hid (R1.out.below b2)
   clear b2 qf R1
   obtain ⟨t0, t1, z0, z1, z2, z3, zF⟩ := R2.out.cells
   clear z0 z1 z2 z3 zF
   have qw2 := hid (qw.out w2 R2.out.bel)
   go_wp2_with fail
   refine qw2.out.mono ?_
   rintro e w3 ⟨b3, rfl, hk⟩
   have R3 := hid (R2.out.below b3)
   have hkb : (k != 0) = true := by rw [bne_iff_ne]; exact hk
   clear qw2 qw b3 t0 t1
   obtain ⟨t0, t1, z0, z1, z2, z3, zF⟩ := R3.out.cells
   have zf0 := zF 0
   have zf1 := zF 1
   have zf2 := zF 2
   have zf3 := zF 3
   have RES := R3.out.res
   clear zF
   have FE := hid (repl_err (M := M) (w0 := w) (w := w3) (Z1 := w.heap.size + 1) (r := RT) (k := k) HAsk.out.keep (.of_below R3.out.bel) (Nat.le_succ _) (hFK.out w3 R3.out.bel) hRT2.out hk)
   obtain ⟨n0, n1, n2, n3⟩ := zero4_cells RES
   unfold zero4 at FE n0 n1 n2 n3
   clear RES hk
   go_wp2_with fail
   refine bodyPost_ret (v := .tuple #[setV 0 (.slice none 0 0) (.slice none 0 0) (.slice none 0 0), .int .i64 k]) ?_ rfl FE.out
   first | (simp [results, Tryz.results28, go_sem, n0, n1, n2, n3, setV]; done)
  | ok x =>
   obtain ⟨v, R⟩ := x
   rw [hW] at qw
   obtain ⟨hrok, hRr, hmr⟩ := Forks.walkT_okr hW
   obtain ⟨d, rfl⟩ : ∃ d : Nat, depth = (d : Int) := ⟨depth.toNat, by have := hrok.1; omega⟩
   have hd4 : d ≤ 4 := by have := hrok.2.1; omega
   rw [Int.toNat_natCast] at qw
   have HRR := hid hRr
   have hRl := Forks.row_len hRr
   have hrow := Forks.repl_row hRr hfit
   have HROW := hid hrow
   have hrowl := Forks.row_len hrow
   have hRT1 : Hid (RT = if Forks.meets v (Forks.replT R a b l) = true then (.error 2, s0) else Forks.replaceV ak v d (Forks.replT R a b l)) := hid (by rw [← HRT.out]; unfold Forks.replaceT; rw [if_neg (by rw [hfit]; decide), hW]; simp)
   have qr := hid (fun w3 uv (h3 : ExtsAt w3 uv R) (h4 : ExtsAt w3 (.slice al l.length cl) l) => replaced_any uv (.slice al l.length cl) R l a b HRR.out h3 h4 (by omega) hll a0 ab b1)
   generalize hRO : Forks.replT R a b l = row at *
   clear hfit hW hrow hRr hmr hrok hRO
   cases hmt : Forks.meets v row
   case true =>
    have hRT2 : Hid (RT = (.error 2, s0)) := hid (by rw [hRT1.out, if_pos hmt])
    have qm := hid (fun w4 X (h4 : WAtR w.heap.size X w4 (RDV pl pb) d v R) (hg : Forks.Good v) uv (hu : ExtsAt w4 uv row) => meets_any h4 hg uv row HROW.out hu (by omega) true hmt)
    clear hmt hRT1
    go_enter Tryz.func28, Tryz.ntmps28
    go_wp2_with fail
    generalize (w.alloc _).alloc _ = w1 at *
    refine qf.out.mono ?_
    rintro e w2 ⟨rfl, b2⟩
    have R2 := hid (R1.out.below b2)
    clear b2 qf R1
    obtain ⟨t0, t1, z0, z1, z2, z3, zF⟩ := R2.out.cells
    clear z0 z1 z2 z3 zF
    have qw2 := hid (qw.out w2 R2.out.bel)
    go_wp2_with fail
    refine qw2.out.mono ?_
    rintro e w3 ⟨b3, X, rfl, hWX, hgd⟩
    have R3 := hid (R2.out.below b3)
    have HWX := hid (show WAtR w.heap.size X w3 _ d v R from by
     obtain ⟨Lb, Tb, lvv, rvv, hld, hraw⟩ := hWX
     have hsz := R2.out.bel.size
     exact ⟨Lb, Tb, lvv, rvv, hld, hraw.x, hraw.lb, hraw.tb, (fun i u hu => by obtain ⟨cs, ho, hc⟩ := hraw.lvl i u hu; exact ⟨cs, World.ownsRow.mono ho hsz, hc⟩), World.ownsRow.mono hraw.row hsz, hraw.ne, Nat.le_trans hsz hraw.loX, Nat.le_trans hsz hraw.loL, Nat.le_trans hsz hraw.loT⟩)
    have HG := hid hgd
    clear qw2 qw b3 t0 t1 hWX hgd
    obtain ⟨uv, cX2, ho3⟩ := HWX.out.rowv
    obtain ⟨auv, cuv, rfl⟩ := OwnExts.slice ho3
    have HO3 := hid ho3
    have qr3 := hid (qr.out w3 _ (OwnExts.at ho3) (HL.out.below (B := 0) R3.out.bel))
    clear ho3 qr
    go_wp2_with fail
    refine qr3.out.mono ?_
    rintro e w4 ⟨xv, rfl, hx4, b4, hor⟩
    have R4 := hid (R3.out.below b4)
    have W4 := hid (HWX.out.below b4)
    have HX4 := hid (show OwnExts w.heap.size w4 xv row from by
     rcases hor with ⟨rfl, rfl⟩ | ho
     ·exact own_below HO3.out b4
     ·exact World.ownsRow.mono ho R3.out.bel.size)
    obtain ⟨axv, cxv, rfl⟩ := OwnExts.slice HX4.out
    clear hx4 hor b4 qr3 cX2 HO3
    have qm4 := hid (qm.out w4 X W4.out HG.out _ (OwnExts.at HX4.out))
    clear qm
    go_wp2_with fail
    refine qm4.out.mono ?_
    rintro e w5 ⟨rfl, b5⟩
    have R5 := hid (R4.out.below b5)
    clear b5 qm4
    obtain ⟨t0, t1, z0, z1, z2, z3, zF⟩ := R5.out.cells
    have zf0 := zF 0
    have zf1 := zF 1
    have zf2 := zF 2
    have zf3 := zF 3
    have RES := R5.out.res
    clear zF
    have FE := hid (repl_err (M := M) (w0 := w) (w := w5) (Z1 := w.heap.size + 1) (r := RT) (k := 2) HAsk.out.keep (.of_below R5.out.bel) (Nat.le_succ _) (hFK.out w5 R5.out.bel) hRT2.out (by decide))
    obtain ⟨n0, n1, n2, n3⟩ := zero4_cells RES
    unfold zero4 at FE n0 n1 n2 n3
    clear RES
    go_wp2_with fail
    refine bodyPost_ret (v := .tuple #[setV 0 (.slice none 0 0) (.slice none 0 0) (.slice none 0 0), .int .i64 2]) ?_ rfl FE.out
    first | (simp [results, Tryz.results28, go_sem, n0, n1, n2, n3, setV]; done)
   case false =>
    have hRT2 : Hid (RT = Forks.replaceV ak v d row) := hid (by rw [hRT1.out, if_neg (by rw [hmt]; decide)])
    have qm := hid (fun w4 X (h4 : WAtR w.heap.size X w4 (RDV pl pb) d v R) (hg : Forks.Good v) uv (hu : ExtsAt w4 uv row) => meets_any h4 hg uv row HROW.out hu (by omega) false hmt)
    clear hmt hRT1
    go_enter Tryz.func28, Tryz.ntmps28
    go_wp2_with fail
    generalize (w.alloc _).alloc _ = w1 at *
    refine qf.out.mono ?_
    rintro e w2 ⟨rfl, b2⟩
    have R2 := hid (R1.out.below b2)
    clear b2 qf R1
    obtain ⟨t0, t1, z0, z1, z2, z3, zF⟩ := R2.out.cells
    clear z0 z1 z2 z3 zF
    have qw2 := hid (qw.out w2 R2.out.bel)
    go_wp2_with fail
    refine qw2.out.mono ?_
    rintro e w3 ⟨b3, X, rfl, hWX, hgd⟩
    have R3 := hid (R2.out.below b3)
    have HWX := hid (show WAtR w.heap.size X w3 _ d v R from by
     obtain ⟨Lb, Tb, lvv, rvv, hld, hraw⟩ := hWX
     have hsz := R2.out.bel.size
     exact ⟨Lb, Tb, lvv, rvv, hld, hraw.x, hraw.lb, hraw.tb, (fun i u hu => by obtain ⟨cs, ho, hc⟩ := hraw.lvl i u hu; exact ⟨cs, World.ownsRow.mono ho hsz, hc⟩), World.ownsRow.mono hraw.row hsz, hraw.ne, Nat.le_trans hsz hraw.loX, Nat.le_trans hsz hraw.loL, Nat.le_trans hsz hraw.loT⟩)
    have HG := hid hgd
    clear qw2 qw b3 t0 t1 hWX hgd
    obtain ⟨uv, cX2, ho3⟩ := HWX.out.rowv
    obtain ⟨auv, cuv, rfl⟩ := OwnExts.slice ho3
    have HO3 := hid ho3
    have qr3 := hid (qr.out w3 _ (OwnExts.at ho3) (HL.out.below (B := 0) R3.out.bel))
    clear ho3 qr
    go_wp2_with fail
    refine qr3.out.mono ?_
    rintro e w4 ⟨xv, rfl, hx4, b4, hor⟩
    have R4 := hid (R3.out.below b4)
    have W4 := hid (HWX.out.below b4)
    have HX4 := hid (show OwnExts w.heap.size w4 xv row from by
     rcases hor with ⟨rfl, rfl⟩ | ho
     ·exact own_below HO3.out b4
     ·exact World.ownsRow.mono ho R3.out.bel.size)
    obtain ⟨axv, cxv, rfl⟩ := OwnExts.slice HX4.out
    clear hx4 hor b4 qr3 cX2 HO3
    have qm4 := hid (qm.out w4 X W4.out HG.out _ (OwnExts.at HX4.out))
    clear qm
    go_wp2_with fail
    refine qm4.out.mono ?_
    rintro e w5 ⟨rfl, b5⟩
    have R5 := hid (R4.out.below b5)
    have W5 := hid (W4.out.below b5)
    have HX5 := hid (own_below HX4.out b5)
    clear b5 qm4 R4 W4 HX4
    have bM : Below w5.heap.size w5 (w5.alloc (.cells #[.int .i64 0] 144)) := (Below.refl _ _).alloc (Nat.le_refl _) _
    have R6 := hid (R5.out.below bM)
    have W6 := hid (W5.out.below bM)
    have HX6 := hid (own_below HX5.out bM)
    have hM6 : MakerAt (w5.alloc (.cells #[.int .i64 0] 144)) w5.heap.size 0 := heap_alloc_new w5 _
    obtain ⟨hok, hkn⟩ := Forks.lvls_ok HG.out d hd4
    obtain ⟨Lb, cX1, hLv⟩ := W6.out.lvls
    have hrowE : ExtsAt (w5.alloc (.cells #[.int .i64 0] 144)) (.slice axv row.length cxv) row := OwnExts.at HX6.out
    have qs := hid (shape_any w5.heap.size (.slice (some ⟨Lb, 0, none⟩) d d) (.slice axv row.length cxv) (Forks.lvls v d) row _ hM6 hLv hrowE hok (by omega))
    have hlo5 := R5.out.bel.size
    have HM6 := hid hM6
    have HKN := hid hkn
    have HOK := hid hok
    clear bM hM6 hLv hrowE hok hkn R5 W5 HX5
    go_wp2_with fail
    generalize w5.alloc _ = w6 at *
    refine qs.out.mono ?_
    rintro e w7 ⟨lv7, rv7, rfl, hlv7, hrv7, hmk7, hon7⟩
    have R7 := hid (R6.out.only hon7 HM6.out hlo5 (by decide) (by decide))
    have k7 := fun T (hT : T ≠ 144) => hon7.keepS (T := T) HM6.out hT
    have W7 := hid (W6.out.keepW (.of_all k7))
    have HX7 := hid (own_keepT HX6.out (k7 _ (by decide)))
    obtain ⟨alv, clv, rfl⟩ := hlv7.form
    obtain ⟨arv, crv, rfl⟩ := hrv7.form
    have HL7 := hid hlv7.typed
    have HR7 := hid hrv7
    have HM7 := hid hmk7
    clear hlv7 hrv7 hmk7 hon7 k7 qs R6 W6 HX6 cX1 HM6
    have bS : Below w7.heap.size w7 (w7.alloc (.cells #[.slice alv (Forks.shapeT (Forks.lvls v d) row 0).1.1.length clv, .slice arv (Forks.shapeT (Forks.lvls v d) row 0).1.2.length crv] 146)) := (Below.refl _ _).alloc (Nat.le_refl _) _
    have hS8 : (w7.alloc (.cells #[.slice alv (Forks.shapeT (Forks.lvls v d) row 0).1.1.length clv, .slice arv (Forks.shapeT (Forks.lvls v d) row 0).1.2.length crv] 146)).heap[w7.heap.size]? = some (.cells #[.slice alv (Forks.shapeT (Forks.lvls v d) row 0).1.1.length clv, .slice arv (Forks.shapeT (Forks.lvls v d) row 0).1.2.length crv] 146 (0, 0)) := heap_alloc_new w7 _
    have R8 := hid (R7.out.below bS)
    have W8 := hid (W7.out.below bS)
    have HX8 := hid (own_below HX7.out bS)
    have HL8 := hid (HL7.out.below bS)
    have HR8 := hid (HR7.out.keep (.of_below bS))
    have HM8 := hid (HM7.out.below bS)
    have hlo7 := R7.out.bel.size
    have s8 := free_zero hS8
    have c80 := cell_of_row _ _ 0 _ _ _ hS8
    have c81 := cell_of_row _ _ 1 _ _ _ hS8
    have HS8 := hid hS8
    clear bS hS8 R7 W7 HX7 HL7 HR7 HM7
    by_cases h4 : 4 < (Forks.shapeT (Forks.lvls v d) row 0).1.1.length
    ·have HPK : Hid (Forks.pick (Forks.lvls v d) row = Forks.shapeT [] row 0) := hid (if_pos h4)
     have HKE : Hid (Forks.known v (Forks.lvls v d) row = (natI (Forks.nodes v)).take (Forks.shapeT [] row 0).2) := hid (if_pos h4)
     obtain ⟨hsb1, hsb2, hsb3⟩ := Forks.shape_bounds [] .nil row (by omega)
     have hch := Forks.shape_chain [] row 0
     have hfd := Forks.shape_fed [] row (fun L h => by cases h)
     have hnm := Forks.shape_named [] row (fun L h => by cases h)
     have h4' : (4 : Int) < ((Forks.shapeT (Forks.lvls v d) row 0).1.1.length : Int) := by omega
     go_upto_region 15 with fail
     generalize Forks.shapeT (Forks.lvls v d) row 0 = SH0 at *
     generalize w7.alloc _ = w8 at *
     generalize w7.heap.size = SB at *
     clear HM8 HL8 HR8 s8 c80 c81 h4 HKN HOK
     have bB : Below w8.heap.size w8 (w8.alloc (.cells #[.int .i64 0] 144)) := (Below.refl _ _).alloc (Nat.le_refl _) _
     have R9 := hid (R8.out.below bB)
     have W9 := hid (W8.out.below bB)
     have HX9 := hid (own_below HX8.out bB)
     have S9 := hid ((bB.block SB (lt_of_block HS8.out)).trans HS8.out)
     have hM9 : MakerAt (w8.alloc (.cells #[.int .i64 0] 144)) w8.heap.size 0 := heap_alloc_new w8 _
     have HM9 := hid hM9
     have qn := hid (nodes_any W9.out HG.out)
     have hlo8 := R8.out.bel.size
     clear bB R8 W8 HX8 HS8 hM9
     go_wp2_with fail
     generalize w8.alloc _ = w9 at *
     generalize w8.heap.size = MB at *
     refine qn.out.mono ?_
     rintro e w10 ⟨⟨un, rfl, on10⟩, b10⟩
     have R10 := hid (R9.out.below b10)
     have W10 := hid (W9.out.below b10)
     have HX10 := hid (own_below HX9.out b10)
     have S10 := hid ((b10.block SB (lt_of_block S9.out)).trans S9.out)
     have HM10 := hid (HM9.out.below b10)
     have HN10 := hid on10
     obtain ⟨an, cn, rfl⟩ := on10.slice
     have hcn := OwnInts.caps on10
     have hnl := nodes_length v
     have qs2 := hid (shape_any MB (.slice none 0 0) (.slice axv row.length cxv) [] row w10 HM10.out (.inl ⟨rfl, rfl⟩) (OwnExts.at HX10.out) .nil (by omega))
     clear b10 on10 qn R9 W9 HX9 S9 HM9
     generalize hNN : natI (Forks.nodes v) = NN at *
     have HNN : Hid (∀ x ∈ NN, 1 ≤ x ∧ x < 4096) := hid (by
      rw [← hNN]
      intro x hx
      obtain ⟨n, hn, rfl⟩ := List.mem_map.1 hx
      obtain ⟨y, hy, e⟩ := List.any_eq_true.1 (List.mem_filter.1 hn).2
      have := HG.out.blk y hy
      simp at e
      omega)
     clear hNN
     go_wp2_with fail
     refine qs2.out.mono ?_
     rintro e w11 ⟨lv11, rv11, rfl, hlv11, hrv11, hmk11, hon11⟩
     have k11 := fun T (hT : T ≠ 144) => hon11.keepS (T := T) HM10.out hT
     have R11 := R10.out.only hon11 HM10.out hlo8 (by decide) (by decide)
     have W11 := W10.out.keepW (.of_all k11)
     have HX11 := own_keepT HX10.out (k11 _ (by decide))
     have S11 := k11 _ (by decide) _ _ _ S10.out
     have HN11 := own_keepT HN10.out (k11 _ (by decide))
     obtain ⟨alv, clv, rfl⟩ := hlv11.form
     obtain ⟨arv, crv, rfl⟩ := hrv11.form
     generalize Forks.shapeT [] row 0 = SH at *
     obtain ⟨⟨LV, RO⟩, mm⟩ := SH
     dsimp only at *
     have k12 := (two_put (a := .slice alv LV.length clv) (b := .slice arv RO.length crv) S11).2
     have HSS := hid (two_put (a := .slice alv LV.length clv) (b := .slice arv RO.length crv) S11).1
     have hS11l := lt_of_block S11
     have hloSB : w.heap.size ≤ SB := hlo7
     have RS := hid (R11.put2 (a := .slice alv LV.length clv) (b := .slice arv RO.length crv) S11 hloSB)
     have WS := hid (W11.keepW (.of_all k12))
     have HXS := hid (own_keepT HX11 (k12 _ (by decide)))
     have HLS := hid (hlv11.typed.keep (k12 _ (by decide)) (k12 _ (by decide)) (k12 _ (by decide)))
     have HRS := hid (hrv11.keep (k12 _ (by decide)))
     have HMS := hid (hmk11.keep (k12 _ (by decide)))
     have HNS := hid (own_keepT HN11 (k12 _ (by decide)))
     have x0 := cell_of_row _ _ 0 _ _ _ S11
     have x1 := cell_of_row _ _ 1 _ _ _ S11
     have xf0 := free_zero S11 0
     have xf1 := free_zero S11 1
     have cMS := cell_of_one HMS.out
     have hROl := Forks.chain_root_len hch (by omega) hsb3
     have HCH := hid hch
     have HFD := hid hfd
     have HNM := hid hnm
     have HLN := hid hsb3
     have hLVn := hsb1
     clear hch hfd hnm hsb1 hsb3 qs2 hlv11 hrv11 hmk11 hon11 k11 k12 R11 W11 HX11 S11 HN11 R10 W10 HX10 S10 HM10 HN10
     by_cases hmn : mm ≤ NN.length
     ·obtain ⟨K, hKd⟩ : ∃ K : IL, K = NN.take mm := ⟨_, rfl⟩
      have hKlen : K.length = mm := by rw [hKd, List.length_take]; omega
      have HKS0 := hid ((OwnInts.at HNS.out).takeS mm hmn)
      rw [← hKd] at HKS0 HKE
      have hKl : K.length ≤ 4096 := by omega
      have hKok : ∀ x ∈ K, 1 ≤ x ∧ x < 4096 := by rw [hKd]; intro x hx; exact HNN.out x (List.mem_of_mem_take hx)
      have g1 : ¬ (NN.length : Int) < (mm : Int) := by omega
      have g2 : (mm : Int) ≤ (NN.length : Int) := by omega
      have g3 : (mm : Int) ≤ (cn : Int) := by omega
      have g4 : (0 : Int) ≤ (mm : Int) := by omega
      generalize NN.length = nn at *
      clear hKd HNS
      have gm : (min (nn : Int) (mm : Int)).toNat = mm := by omega
      go_upto_region 18 with fail
      skip
      clear gm
      generalize hwS : (w11.setCell _ _).setCell _ _ = wS at *
      have HKS := HKS0
      clear cMS x0 x1 xf0 xf1 hwS HKS0 hcn hnl hmn g1 g2 g3 g4 hKlen
      rcases hfv with ⟨ff, fb, rfl⟩ | rfl
      ·-- the asker
       have bA : Below wS.heap.size wS (wS.alloc (.cells #[(.func ff fb #[]), .pointer (some ⟨X, 0, none⟩), .slice axv row.length cxv, .slice none 0 0] 150)) := (Below.refl _ _).alloc (Nat.le_refl _) _
       have hA9 : AskerAt (wS.alloc (.cells #[(.func ff fb #[]), .pointer (some ⟨X, 0, none⟩), .slice axv row.length cxv, .slice none 0 0] 150)) wS.heap.size X (.func ff fb #[]) (.slice axv row.length cxv) (.slice none 0 0) := heap_alloc_new wS _
       have R9 := hid (RS.out.below bA)
       have W9 := hid (WS.out.below bA)
       have HX9 := hid (own_below HXS.out bA)
       have HL9 := hid (HLS.out.below bA)
       have HR9 := hid (HRS.out.keep (.of_below bA))
       have hM9 := HMS.out.below bA
       have hS9 := (bA.block SB (lt_of_block HSS.out)).trans HSS.out
       have hloS := RS.out.bel.size
       have cM := cell_of_one hM9
       have qa := hid (HAsk.out.call mm (hFK.out _ R9.out.bel) hA9 R9.out.bel.size hloS W9.out HG.out HX9.out (fun x hx => by have := Forks.row_small HROW.out x hx; unfold SmallE; omega) (by omega) ((HKS.out.below bA)) hKl (by omega))
       have HA9 := hid hA9
       have HS9 := hid hS9
       have hSBA : SB ≠ wS.heap.size := by have := lt_of_block HSS.out; omega
       have hZA : w.heap.size + 1 ≠ wS.heap.size := by have := lt_of_block RS.out.res; omega
       have hgood := HAsk.out.good v row (mm + 1 - (K.length + 1)) (0 :: K)
       clear bA hA9 hM9 hS9 RS WS HXS HLS HRS HMS HSS HKS
       generalize hAK : ak v row (mm + 1 - (K.length + 1)) (0 :: K) = AK at *
       obtain ⟨⟨ek, TT⟩, s9⟩ := AK
       have hRT3 : Hid (RT = if ek = 0 then (Forks.setT v LV RO TT, s9) else (.error ek, s9)) := hid (by
        rw [hRT2.out]
        unfold Forks.replaceV
        dsimp only
        rw [HPK.out, HKE.out]
        dsimp only
        rw [hAK])
       clear hAK
       go_wp2_with fail
       generalize wS.alloc _ = w9 at *
       refine qa.out.mono ?_
       rintro e w10 ⟨rfl, hf10, ho10, hk10, tv, ha10, ht10⟩
       dsimp only at hf10 ht10 ho10 hk10 ha10
       have o10 := hid ((OnlyM.of_below R9.out.bel (M := M)).of_AM ho10 hloS)
       have res10 := (ho10.block (w.heap.size + 1) (lt_of_block R9.out.res) hZA (by omega)).trans R9.out.res
       by_cases hek : ek = 0
       ·subst hek
        have hRT4 : Hid (RT = (Forks.setT v LV RO TT, s9)) := hid (by rw [hRT3.out, if_pos rfl])
        obtain ⟨D, hTT, hDl, hDok, -, -⟩ := hgood rfl
        have hTT : TT = (0 :: K) ++ D := hTT
        have hsok := Forks.setOk_shape HROW.out HCH.out HFD.out HNM.out (by omega) (T := TT) (by rw [hTT]; exact Forks.told_ok hKok (fun x hx => ⟨(hDok x hx).1, (hDok x hx).2.1⟩) (by omega)) hLVn HLN.out hROl
        have qset := hid (set_any w10 ha10 (OwnInts.at ht10) (HL9.out.keep hk10.lvs hk10.nodes hk10.ents) (HR9.out.keep hk10.ents) (W9.out.keepW hk10) HG.out hsok)
        have s10 := (ho10.block SB (lt_of_block HS9.out) hSBA (by omega)).trans HS9.out
        have s100 := cell_of_row _ _ 0 _ _ _ s10
        have s101 := cell_of_row _ _ 1 _ _ _ s10
        have HF10 := hid hf10
        have HRES := hid res10
        clear qa hf10 ho10 hk10 ha10 ht10 hgood hRT3 hDok hTT hDl hsok res10 s10
        cases hST : Forks.setT v LV RO TT with
        | error k =>
         rw [hST] at qset hRT4
         clear hST
         go_wp2_with fail
         refine qset.out.mono ?_
         rintro e w11 ⟨b11, he, hk⟩
         obtain rfl : e = .returned (.tuple #[.agg #[.int .i64 0, .slice none 0 0, .slice none 0 0, .slice none 0 0], .int .i64 k]) := he
         have RES := (b11.block (w.heap.size + 1) (lt_of_block HRES.out)).trans HRES.out
         have z0 := cell_of_row _ _ 0 _ _ _ RES
         have z1 := cell_of_row _ _ 1 _ _ _ RES
         have z2 := cell_of_row _ _ 2 _ _ _ RES
         have z3 := cell_of_row _ _ 3 _ _ _ RES
         have zf0 := free_zero RES 0
         have zf1 := free_zero RES 1
         have zf2 := free_zero RES 2
         have zf3 := free_zero RES 3
         have o11 := o10.out.trans (.of_below b11)
         have f11 := HAsk.out.keep _ _ _ HF10.out (b11.mono o10.out.size)
         have FE := hid (repl_err (M := M) (w0 := w) (w := w11) (Z1 := w.heap.size + 1) (r := RT) (k := k) HAsk.out.keep o11 (Nat.le_succ _) f11 hRT4.out hk)
         obtain ⟨n0, n1, n2, n3⟩ := zero4_cells RES
         unfold zero4 at FE n0 n1 n2 n3
         clear RES hk o11 f11 b11 qset
         go_wp2_with fail
         refine bodyPost_ret (v := .tuple #[setV 0 (.slice none 0 0) (.slice none 0 0) (.slice none 0 0), .int .i64 k]) ?_ rfl FE.out
         first | (simp [results, Tryz.results28, go_sem, n0, n1, n2, n3, setV]; done)
        | ok sr =>
         rw [hST] at qset hRT4
         clear hST
         go_wp2_with fail
         refine qset.out.mono ?_
         rintro e w11 ⟨b11, rvv, cvv, fvv, he, h1, h2, h3⟩
         obtain rfl : e = .returned (.tuple #[.agg #[.int .i64 sr.depth, rvv, cvv, fvv], .int .i64 0]) := he
         have RES := (b11.block (w.heap.size + 1) (lt_of_block HRES.out)).trans HRES.out
         have z0 := cell_of_row _ _ 0 _ _ _ RES
         have z1 := cell_of_row _ _ 1 _ _ _ RES
         have z2 := cell_of_row _ _ 2 _ _ _ RES
         have z3 := cell_of_row _ _ 3 _ _ _ RES
         have zf0 := free_zero RES 0
         have zf1 := free_zero RES 1
         have zf2 := free_zero RES 2
         have zf3 := free_zero RES 3
         have FO := hid (repl_ok (M := M) (w0 := w) (Z1 := w.heap.size + 1) HAsk.out.keep o10.out b11 (Nat.le_succ _) HF10.out hRT4.out RES h1 h2 h3)
         obtain ⟨arr, crr, rfl⟩ := h1.slice
         obtain ⟨acc, ccc, rfl⟩ := h2.slice
         obtain ⟨aff, cff, rfl⟩ := h3.slice
         have n0 := cell_of_row _ _ 0 _ _ _ FO.out.2
         have n1 := cell_of_row _ _ 1 _ _ _ FO.out.2
         have n2 := cell_of_row _ _ 2 _ _ _ FO.out.2
         have n3 := cell_of_row _ _ 3 _ _ _ FO.out.2
         unfold put4 at FO n0 n1 n2 n3
         obtain ⟨sd, sro, sch, sfr⟩ := sr
         dsimp only at *
         generalize sro.length = nr at *
         generalize sch.length = nc at *
         generalize sfr.length = nf at *
         clear h1 h2 h3 RES b11 qset HRES hRT4
         go_wp2_with fail
         refine bodyPost_ret (v := .tuple #[setV sd (.slice arr nr crr) (.slice acc nc ccc) (.slice aff nf cff), .int .i64 0]) ?_ rfl FO.out.1
         first | (simp [results, Tryz.results28, go_sem, n0, n1, n2, n3, setV]; done)
       ·have hRT4 : Hid (RT = (.error ek, s9)) := hid (by rw [hRT3.out, if_neg hek])
        have hekb : (ek != 0) = true := by rw [bne_iff_ne]; exact hek
        have RES := res10
        have z0 := cell_of_row _ _ 0 _ _ _ RES
        have z1 := cell_of_row _ _ 1 _ _ _ RES
        have z2 := cell_of_row _ _ 2 _ _ _ RES
        have z3 := cell_of_row _ _ 3 _ _ _ RES
        have zf0 := free_zero RES 0
        have zf1 := free_zero RES 1
        have zf2 := free_zero RES 2
        have zf3 := free_zero RES 3
        have HF10 := hid hf10
        clear qa hf10 ho10 hk10 ha10 ht10 hgood hRT3 res10
        have FE := hid (repl_err (M := M) (w0 := w) (w := w10) (Z1 := w.heap.size + 1) (r := RT) (k := ek) HAsk.out.keep o10.out (Nat.le_succ _) HF10.out hRT4.out hek)
        obtain ⟨n0, n1, n2, n3⟩ := zero4_cells RES
        unfold zero4 at FE n0 n1 n2 n3
        clear RES hek
        go_wp2_with fail
        refine bodyPost_ret (v := .tuple #[setV 0 (.slice none 0 0) (.slice none 0 0) (.slice none 0 0), .int .i64 ek]) ?_ rfl FE.out
        first | (simp [results, Tryz.results28, go_sem, n0, n1, n2, n3, setV]; done)
      ·-- the asker
       have bA : Below wS.heap.size wS (wS.alloc (.cells #[.nilFunc, .pointer (some ⟨X, 0, none⟩), .slice axv row.length cxv, .slice none 0 0] 150)) := (Below.refl _ _).alloc (Nat.le_refl _) _
       have hA9 : AskerAt (wS.alloc (.cells #[.nilFunc, .pointer (some ⟨X, 0, none⟩), .slice axv row.length cxv, .slice none 0 0] 150)) wS.heap.size X .nilFunc (.slice axv row.length cxv) (.slice none 0 0) := heap_alloc_new wS _
       have R9 := hid (RS.out.below bA)
       have W9 := hid (WS.out.below bA)
       have HX9 := hid (own_below HXS.out bA)
       have HL9 := hid (HLS.out.below bA)
       have HR9 := hid (HRS.out.keep (.of_below bA))
       have hM9 := HMS.out.below bA
       have hS9 := (bA.block SB (lt_of_block HSS.out)).trans HSS.out
       have hloS := RS.out.bel.size
       have cM := cell_of_one hM9
       have qa := hid (HAsk.out.call mm (hFK.out _ R9.out.bel) hA9 R9.out.bel.size hloS W9.out HG.out HX9.out (fun x hx => by have := Forks.row_small HROW.out x hx; unfold SmallE; omega) (by omega) ((HKS.out.below bA)) hKl (by omega))
       have HA9 := hid hA9
       have HS9 := hid hS9
       have hSBA : SB ≠ wS.heap.size := by have := lt_of_block HSS.out; omega
       have hZA : w.heap.size + 1 ≠ wS.heap.size := by have := lt_of_block RS.out.res; omega
       have hgood := HAsk.out.good v row (mm + 1 - (K.length + 1)) (0 :: K)
       clear bA hA9 hM9 hS9 RS WS HXS HLS HRS HMS HSS HKS
       generalize hAK : ak v row (mm + 1 - (K.length + 1)) (0 :: K) = AK at *
       obtain ⟨⟨ek, TT⟩, s9⟩ := AK
       have hRT3 : Hid (RT = if ek = 0 then (Forks.setT v LV RO TT, s9) else (.error ek, s9)) := hid (by
        rw [hRT2.out]
        unfold Forks.replaceV
        dsimp only
        rw [HPK.out, HKE.out]
        dsimp only
        rw [hAK])
       clear hAK
       go_wp2_with fail
       generalize wS.alloc _ = w9 at *
       refine qa.out.mono ?_
       rintro e w10 ⟨rfl, hf10, ho10, hk10, tv, ha10, ht10⟩
       dsimp only at hf10 ht10 ho10 hk10 ha10
       have o10 := hid ((OnlyM.of_below R9.out.bel (M := M)).of_AM ho10 hloS)
       have res10 := (ho10.block (w.heap.size + 1) (lt_of_block R9.out.res) hZA (by omega)).trans R9.out.res
       by_cases hek : ek = 0
       ·subst hek
        have hRT4 : Hid (RT = (Forks.setT v LV RO TT, s9)) := hid (by rw [hRT3.out, if_pos rfl])
        obtain ⟨D, hTT, hDl, hDok, -, -⟩ := hgood rfl
        have hTT : TT = (0 :: K) ++ D := hTT
        have hsok := Forks.setOk_shape HROW.out HCH.out HFD.out HNM.out (by omega) (T := TT) (by rw [hTT]; exact Forks.told_ok hKok (fun x hx => ⟨(hDok x hx).1, (hDok x hx).2.1⟩) (by omega)) hLVn HLN.out hROl
        have qset := hid (set_any w10 ha10 (OwnInts.at ht10) (HL9.out.keep hk10.lvs hk10.nodes hk10.ents) (HR9.out.keep hk10.ents) (W9.out.keepW hk10) HG.out hsok)
        have s10 := (ho10.block SB (lt_of_block HS9.out) hSBA (by omega)).trans HS9.out
        have s100 := cell_of_row _ _ 0 _ _ _ s10
        have s101 := cell_of_row _ _ 1 _ _ _ s10
        have HF10 := hid hf10
        have HRES := hid res10
        clear qa hf10 ho10 hk10 ha10 ht10 hgood hRT3 hDok hTT hDl hsok res10 s10
        cases hST : Forks.setT v LV RO TT with
        | error k =>
         rw [hST] at qset hRT4
         clear hST
         go_wp2_with fail
         refine qset.out.mono ?_
         rintro e w11 ⟨b11, he, hk⟩
         obtain rfl : e = .returned (.tuple #[.agg #[.int .i64 0, .slice none 0 0, .slice none 0 0, .slice none 0 0], .int .i64 k]) := he
         have RES := (b11.block (w.heap.size + 1) (lt_of_block HRES.out)).trans HRES.out
         have z0 := cell_of_row _ _ 0 _ _ _ RES
         have z1 := cell_of_row _ _ 1 _ _ _ RES
         have z2 := cell_of_row _ _ 2 _ _ _ RES
         have z3 := cell_of_row _ _ 3 _ _ _ RES
         have zf0 := free_zero RES 0
         have zf1 := free_zero RES 1
         have zf2 := free_zero RES 2
         have zf3 := free_zero RES 3
         have o11 := o10.out.trans (.of_below b11)
         have f11 := HAsk.out.keep _ _ _ HF10.out (b11.mono o10.out.size)
         have FE := hid (repl_err (M := M) (w0 := w) (w := w11) (Z1 := w.heap.size + 1) (r := RT) (k := k) HAsk.out.keep o11 (Nat.le_succ _) f11 hRT4.out hk)
         obtain ⟨n0, n1, n2, n3⟩ := zero4_cells RES
         unfold zero4 at FE n0 n1 n2 n3
         clear RES hk o11 f11 b11 qset
         go_wp2_with fail
         refine bodyPost_ret (v := .tuple #[setV 0 (.slice none 0 0) (.slice none 0 0) (.slice none 0 0), .int .i64 k]) ?_ rfl FE.out
         first | (simp [results, Tryz.results28, go_sem, n0, n1, n2, n3, setV]; done)
        | ok sr =>
         rw [hST] at qset hRT4
         clear hST
         go_wp2_with fail
         refine qset.out.mono ?_
         rintro e w11 ⟨b11, rvv, cvv, fvv, he, h1, h2, h3⟩
         obtain rfl : e = .returned (.tuple #[.agg #[.int .i64 sr.depth, rvv, cvv, fvv], .int .i64 0]) := he
         have RES := (b11.block (w.heap.size + 1) (lt_of_block HRES.out)).trans HRES.out
         have z0 := cell_of_row _ _ 0 _ _ _ RES
         have z1 := cell_of_row _ _ 1 _ _ _ RES
         have z2 := cell_of_row _ _ 2 _ _ _ RES
         have z3 := cell_of_row _ _ 3 _ _ _ RES
         have zf0 := free_zero RES 0
         have zf1 := free_zero RES 1
         have zf2 := free_zero RES 2
         have zf3 := free_zero RES 3
         have FO := hid (repl_ok (M := M) (w0 := w) (Z1 := w.heap.size + 1) HAsk.out.keep o10.out b11 (Nat.le_succ _) HF10.out hRT4.out RES h1 h2 h3)
         obtain ⟨arr, crr, rfl⟩ := h1.slice
         obtain ⟨acc, ccc, rfl⟩ := h2.slice
         obtain ⟨aff, cff, rfl⟩ := h3.slice
         have n0 := cell_of_row _ _ 0 _ _ _ FO.out.2
         have n1 := cell_of_row _ _ 1 _ _ _ FO.out.2
         have n2 := cell_of_row _ _ 2 _ _ _ FO.out.2
         have n3 := cell_of_row _ _ 3 _ _ _ FO.out.2
         unfold put4 at FO n0 n1 n2 n3
         obtain ⟨sd, sro, sch, sfr⟩ := sr
         dsimp only at *
         generalize sro.length = nr at *
         generalize sch.length = nc at *
         generalize sfr.length = nf at *
         clear h1 h2 h3 RES b11 qset HRES hRT4
         go_wp2_with fail
         refine bodyPost_ret (v := .tuple #[setV sd (.slice arr nr crr) (.slice acc nc ccc) (.slice aff nf cff), .int .i64 0]) ?_ rfl FO.out.1
         first | (simp [results, Tryz.results28, go_sem, n0, n1, n2, n3, setV]; done)
       ·have hRT4 : Hid (RT = (.error ek, s9)) := hid (by rw [hRT3.out, if_neg hek])
        have hekb : (ek != 0) = true := by rw [bne_iff_ne]; exact hek
        have RES := res10
        have z0 := cell_of_row _ _ 0 _ _ _ RES
        have z1 := cell_of_row _ _ 1 _ _ _ RES
        have z2 := cell_of_row _ _ 2 _ _ _ RES
        have z3 := cell_of_row _ _ 3 _ _ _ RES
        have zf0 := free_zero RES 0
        have zf1 := free_zero RES 1
        have zf2 := free_zero RES 2
        have zf3 := free_zero RES 3
        have HF10 := hid hf10
        clear qa hf10 ho10 hk10 ha10 ht10 hgood hRT3 res10
        have FE := hid (repl_err (M := M) (w0 := w) (w := w10) (Z1 := w.heap.size + 1) (r := RT) (k := ek) HAsk.out.keep o10.out (Nat.le_succ _) HF10.out hRT4.out hek)
        obtain ⟨n0, n1, n2, n3⟩ := zero4_cells RES
        unfold zero4 at FE n0 n1 n2 n3
        clear RES hek
        go_wp2_with fail
        refine bodyPost_ret (v := .tuple #[setV 0 (.slice none 0 0) (.slice none 0 0) (.slice none 0 0), .int .i64 ek]) ?_ rfl FE.out
        first | (simp [results, Tryz.results28, go_sem, n0, n1, n2, n3, setV]; done)
     ·obtain ⟨K, hKd⟩ : ∃ K : IL, K = NN := ⟨_, rfl⟩
      have HKS0 := hid ((OwnInts.at HNS.out))
      have hKt : NN.take mm = NN := List.take_of_length_le (by omega)
      rw [hKt] at HKE
      have hKl : NN.length ≤ 4096 := by omega
      have hKok : ∀ x ∈ NN, 1 ≤ x ∧ x < 4096 := HNN.out
      subst hKd
      have g1 : (K.length : Int) < (mm : Int) := by omega
      have g3 : (K.length : Int) ≤ (cn : Int) := by omega
      have g4 : (0 : Int) ≤ (K.length : Int) := by omega
      clear hKt HNS
      have gm : (min (K.length : Int) (mm : Int)).toNat = K.length := by omega
      go_upto_region 18 with fail
      skip
      clear gm
      generalize hwS : (w11.setCell _ _).setCell _ _ = wS at *
      have HKS := HKS0
      clear cMS x0 x1 xf0 xf1 hwS HKS0 hcn hnl hmn g1 g3 g4
      rcases hfv with ⟨ff, fb, rfl⟩ | rfl
      ·-- the asker
       have bA : Below wS.heap.size wS (wS.alloc (.cells #[(.func ff fb #[]), .pointer (some ⟨X, 0, none⟩), .slice axv row.length cxv, .slice none 0 0] 150)) := (Below.refl _ _).alloc (Nat.le_refl _) _
       have hA9 : AskerAt (wS.alloc (.cells #[(.func ff fb #[]), .pointer (some ⟨X, 0, none⟩), .slice axv row.length cxv, .slice none 0 0] 150)) wS.heap.size X (.func ff fb #[]) (.slice axv row.length cxv) (.slice none 0 0) := heap_alloc_new wS _
       have R9 := hid (RS.out.below bA)
       have W9 := hid (WS.out.below bA)
       have HX9 := hid (own_below HXS.out bA)
       have HL9 := hid (HLS.out.below bA)
       have HR9 := hid (HRS.out.keep (.of_below bA))
       have hM9 := HMS.out.below bA
       have hS9 := (bA.block SB (lt_of_block HSS.out)).trans HSS.out
       have hloS := RS.out.bel.size
       have cM := cell_of_one hM9
       have qa := hid (HAsk.out.call mm (hFK.out _ R9.out.bel) hA9 R9.out.bel.size hloS W9.out HG.out HX9.out (fun x hx => by have := Forks.row_small HROW.out x hx; unfold SmallE; omega) (by omega) ((HKS.out.below bA)) hKl (by omega))
       have HA9 := hid hA9
       have HS9 := hid hS9
       have hSBA : SB ≠ wS.heap.size := by have := lt_of_block HSS.out; omega
       have hZA : w.heap.size + 1 ≠ wS.heap.size := by have := lt_of_block RS.out.res; omega
       have hgood := HAsk.out.good v row (mm + 1 - (K.length + 1)) (0 :: K)
       clear bA hA9 hM9 hS9 RS WS HXS HLS HRS HMS HSS HKS
       generalize hAK : ak v row (mm + 1 - (K.length + 1)) (0 :: K) = AK at *
       obtain ⟨⟨ek, TT⟩, s9⟩ := AK
       have hRT3 : Hid (RT = if ek = 0 then (Forks.setT v LV RO TT, s9) else (.error ek, s9)) := hid (by
        rw [hRT2.out]
        unfold Forks.replaceV
        dsimp only
        rw [HPK.out, HKE.out]
        dsimp only
        rw [hAK])
       clear hAK
       go_wp2_with fail
       generalize wS.alloc _ = w9 at *
       refine qa.out.mono ?_
       rintro e w10 ⟨rfl, hf10, ho10, hk10, tv, ha10, ht10⟩
       dsimp only at hf10 ht10 ho10 hk10 ha10
       have o10 := hid ((OnlyM.of_below R9.out.bel (M := M)).of_AM ho10 hloS)
       have res10 := (ho10.block (w.heap.size + 1) (lt_of_block R9.out.res) hZA (by omega)).trans R9.out.res
       by_cases hek : ek = 0
       ·subst hek
        have hRT4 : Hid (RT = (Forks.setT v LV RO TT, s9)) := hid (by rw [hRT3.out, if_pos rfl])
        obtain ⟨D, hTT, hDl, hDok, -, -⟩ := hgood rfl
        have hTT : TT = (0 :: K) ++ D := hTT
        have hsok := Forks.setOk_shape HROW.out HCH.out HFD.out HNM.out (by omega) (T := TT) (by rw [hTT]; exact Forks.told_ok hKok (fun x hx => ⟨(hDok x hx).1, (hDok x hx).2.1⟩) (by omega)) hLVn HLN.out hROl
        have qset := hid (set_any w10 ha10 (OwnInts.at ht10) (HL9.out.keep hk10.lvs hk10.nodes hk10.ents) (HR9.out.keep hk10.ents) (W9.out.keepW hk10) HG.out hsok)
        have s10 := (ho10.block SB (lt_of_block HS9.out) hSBA (by omega)).trans HS9.out
        have s100 := cell_of_row _ _ 0 _ _ _ s10
        have s101 := cell_of_row _ _ 1 _ _ _ s10
        have HF10 := hid hf10
        have HRES := hid res10
        clear qa hf10 ho10 hk10 ha10 ht10 hgood hRT3 hDok hTT hDl hsok res10 s10
        cases hST : Forks.setT v LV RO TT with
        | error k =>
         rw [hST] at qset hRT4
         clear hST
         go_wp2_with fail
         refine qset.out.mono ?_
         rintro e w11 ⟨b11, he, hk⟩
         obtain rfl : e = .returned (.tuple #[.agg #[.int .i64 0, .slice none 0 0, .slice none 0 0, .slice none 0 0], .int .i64 k]) := he
         have RES := (b11.block (w.heap.size + 1) (lt_of_block HRES.out)).trans HRES.out
         have z0 := cell_of_row _ _ 0 _ _ _ RES
         have z1 := cell_of_row _ _ 1 _ _ _ RES
         have z2 := cell_of_row _ _ 2 _ _ _ RES
         have z3 := cell_of_row _ _ 3 _ _ _ RES
         have zf0 := free_zero RES 0
         have zf1 := free_zero RES 1
         have zf2 := free_zero RES 2
         have zf3 := free_zero RES 3
         have o11 := o10.out.trans (.of_below b11)
         have f11 := HAsk.out.keep _ _ _ HF10.out (b11.mono o10.out.size)
         have FE := hid (repl_err (M := M) (w0 := w) (w := w11) (Z1 := w.heap.size + 1) (r := RT) (k := k) HAsk.out.keep o11 (Nat.le_succ _) f11 hRT4.out hk)
         obtain ⟨n0, n1, n2, n3⟩ := zero4_cells RES
         unfold zero4 at FE n0 n1 n2 n3
         clear RES hk o11 f11 b11 qset
         go_wp2_with fail
         refine bodyPost_ret (v := .tuple #[setV 0 (.slice none 0 0) (.slice none 0 0) (.slice none 0 0), .int .i64 k]) ?_ rfl FE.out
         first | (simp [results, Tryz.results28, go_sem, n0, n1, n2, n3, setV]; done)
        | ok sr =>
         rw [hST] at qset hRT4
         clear hST
         go_wp2_with fail
         refine qset.out.mono ?_
         rintro e w11 ⟨b11, rvv, cvv, fvv, he, h1, h2, h3⟩
         obtain rfl : e = .returned (.tuple #[.agg #[.int .i64 sr.depth, rvv, cvv, fvv], .int .i64 0]) := he
         have RES := (b11.block (w.heap.size + 1) (lt_of_block HRES.out)).trans HRES.out
         have z0 := cell_of_row _ _ 0 _ _ _ RES
         have z1 := cell_of_row _ _ 1 _ _ _ RES
         have z2 := cell_of_row _ _ 2 _ _ _ RES
         have z3 := cell_of_row _ _ 3 _ _ _ RES
         have zf0 := free_zero RES 0
         have zf1 := free_zero RES 1
         have zf2 := free_zero RES 2
         have zf3 := free_zero RES 3
         have FO := hid (repl_ok (M := M) (w0 := w) (Z1 := w.heap.size + 1) HAsk.out.keep o10.out b11 (Nat.le_succ _) HF10.out hRT4.out RES h1 h2 h3)
         obtain ⟨arr, crr, rfl⟩ := h1.slice
         obtain ⟨acc, ccc, rfl⟩ := h2.slice
         obtain ⟨aff, cff, rfl⟩ := h3.slice
         have n0 := cell_of_row _ _ 0 _ _ _ FO.out.2
         have n1 := cell_of_row _ _ 1 _ _ _ FO.out.2
         have n2 := cell_of_row _ _ 2 _ _ _ FO.out.2
         have n3 := cell_of_row _ _ 3 _ _ _ FO.out.2
         unfold put4 at FO n0 n1 n2 n3
         obtain ⟨sd, sro, sch, sfr⟩ := sr
         dsimp only at *
         generalize sro.length = nr at *
         generalize sch.length = nc at *
         generalize sfr.length = nf at *
         clear h1 h2 h3 RES b11 qset HRES hRT4
         go_wp2_with fail
         refine bodyPost_ret (v := .tuple #[setV sd (.slice arr nr crr) (.slice acc nc ccc) (.slice aff nf cff), .int .i64 0]) ?_ rfl FO.out.1
         first | (simp [results, Tryz.results28, go_sem, n0, n1, n2, n3, setV]; done)
       ·have hRT4 : Hid (RT = (.error ek, s9)) := hid (by rw [hRT3.out, if_neg hek])
        have hekb : (ek != 0) = true := by rw [bne_iff_ne]; exact hek
        have RES := res10
        have z0 := cell_of_row _ _ 0 _ _ _ RES
        have z1 := cell_of_row _ _ 1 _ _ _ RES
        have z2 := cell_of_row _ _ 2 _ _ _ RES
        have z3 := cell_of_row _ _ 3 _ _ _ RES
        have zf0 := free_zero RES 0
        have zf1 := free_zero RES 1
        have zf2 := free_zero RES 2
        have zf3 := free_zero RES 3
        have HF10 := hid hf10
        clear qa hf10 ho10 hk10 ha10 ht10 hgood hRT3 res10
        have FE := hid (repl_err (M := M) (w0 := w) (w := w10) (Z1 := w.heap.size + 1) (r := RT) (k := ek) HAsk.out.keep o10.out (Nat.le_succ _) HF10.out hRT4.out hek)
        obtain ⟨n0, n1, n2, n3⟩ := zero4_cells RES
        unfold zero4 at FE n0 n1 n2 n3
        clear RES hek
        go_wp2_with fail
        refine bodyPost_ret (v := .tuple #[setV 0 (.slice none 0 0) (.slice none 0 0) (.slice none 0 0), .int .i64 ek]) ?_ rfl FE.out
        first | (simp [results, Tryz.results28, go_sem, n0, n1, n2, n3, setV]; done)
      ·-- the asker
       have bA : Below wS.heap.size wS (wS.alloc (.cells #[.nilFunc, .pointer (some ⟨X, 0, none⟩), .slice axv row.length cxv, .slice none 0 0] 150)) := (Below.refl _ _).alloc (Nat.le_refl _) _
       have hA9 : AskerAt (wS.alloc (.cells #[.nilFunc, .pointer (some ⟨X, 0, none⟩), .slice axv row.length cxv, .slice none 0 0] 150)) wS.heap.size X .nilFunc (.slice axv row.length cxv) (.slice none 0 0) := heap_alloc_new wS _
       have R9 := hid (RS.out.below bA)
       have W9 := hid (WS.out.below bA)
       have HX9 := hid (own_below HXS.out bA)
       have HL9 := hid (HLS.out.below bA)
       have HR9 := hid (HRS.out.keep (.of_below bA))
       have hM9 := HMS.out.below bA
       have hS9 := (bA.block SB (lt_of_block HSS.out)).trans HSS.out
       have hloS := RS.out.bel.size
       have cM := cell_of_one hM9
       have qa := hid (HAsk.out.call mm (hFK.out _ R9.out.bel) hA9 R9.out.bel.size hloS W9.out HG.out HX9.out (fun x hx => by have := Forks.row_small HROW.out x hx; unfold SmallE; omega) (by omega) ((HKS.out.below bA)) hKl (by omega))
       have HA9 := hid hA9
       have HS9 := hid hS9
       have hSBA : SB ≠ wS.heap.size := by have := lt_of_block HSS.out; omega
       have hZA : w.heap.size + 1 ≠ wS.heap.size := by have := lt_of_block RS.out.res; omega
       have hgood := HAsk.out.good v row (mm + 1 - (K.length + 1)) (0 :: K)
       clear bA hA9 hM9 hS9 RS WS HXS HLS HRS HMS HSS HKS
       generalize hAK : ak v row (mm + 1 - (K.length + 1)) (0 :: K) = AK at *
       obtain ⟨⟨ek, TT⟩, s9⟩ := AK
       have hRT3 : Hid (RT = if ek = 0 then (Forks.setT v LV RO TT, s9) else (.error ek, s9)) := hid (by
        rw [hRT2.out]
        unfold Forks.replaceV
        dsimp only
        rw [HPK.out, HKE.out]
        dsimp only
        rw [hAK])
       clear hAK
       go_wp2_with fail
       generalize wS.alloc _ = w9 at *
       refine qa.out.mono ?_
       rintro e w10 ⟨rfl, hf10, ho10, hk10, tv, ha10, ht10⟩
       dsimp only at hf10 ht10 ho10 hk10 ha10
       have o10 := hid ((OnlyM.of_below R9.out.bel (M := M)).of_AM ho10 hloS)
       have res10 := (ho10.block (w.heap.size + 1) (lt_of_block R9.out.res) hZA (by omega)).trans R9.out.res
       by_cases hek : ek = 0
       ·subst hek
        have hRT4 : Hid (RT = (Forks.setT v LV RO TT, s9)) := hid (by rw [hRT3.out, if_pos rfl])
        obtain ⟨D, hTT, hDl, hDok, -, -⟩ := hgood rfl
        have hTT : TT = (0 :: K) ++ D := hTT
        have hsok := Forks.setOk_shape HROW.out HCH.out HFD.out HNM.out (by omega) (T := TT) (by rw [hTT]; exact Forks.told_ok hKok (fun x hx => ⟨(hDok x hx).1, (hDok x hx).2.1⟩) (by omega)) hLVn HLN.out hROl
        have qset := hid (set_any w10 ha10 (OwnInts.at ht10) (HL9.out.keep hk10.lvs hk10.nodes hk10.ents) (HR9.out.keep hk10.ents) (W9.out.keepW hk10) HG.out hsok)
        have s10 := (ho10.block SB (lt_of_block HS9.out) hSBA (by omega)).trans HS9.out
        have s100 := cell_of_row _ _ 0 _ _ _ s10
        have s101 := cell_of_row _ _ 1 _ _ _ s10
        have HF10 := hid hf10
        have HRES := hid res10
        clear qa hf10 ho10 hk10 ha10 ht10 hgood hRT3 hDok hTT hDl hsok res10 s10
        cases hST : Forks.setT v LV RO TT with
        | error k =>
         rw [hST] at qset hRT4
         clear hST
         go_wp2_with fail
         refine qset.out.mono ?_
         rintro e w11 ⟨b11, he, hk⟩
         obtain rfl : e = .returned (.tuple #[.agg #[.int .i64 0, .slice none 0 0, .slice none 0 0, .slice none 0 0], .int .i64 k]) := he
         have RES := (b11.block (w.heap.size + 1) (lt_of_block HRES.out)).trans HRES.out
         have z0 := cell_of_row _ _ 0 _ _ _ RES
         have z1 := cell_of_row _ _ 1 _ _ _ RES
         have z2 := cell_of_row _ _ 2 _ _ _ RES
         have z3 := cell_of_row _ _ 3 _ _ _ RES
         have zf0 := free_zero RES 0
         have zf1 := free_zero RES 1
         have zf2 := free_zero RES 2
         have zf3 := free_zero RES 3
         have o11 := o10.out.trans (.of_below b11)
         have f11 := HAsk.out.keep _ _ _ HF10.out (b11.mono o10.out.size)
         have FE := hid (repl_err (M := M) (w0 := w) (w := w11) (Z1 := w.heap.size + 1) (r := RT) (k := k) HAsk.out.keep o11 (Nat.le_succ _) f11 hRT4.out hk)
         obtain ⟨n0, n1, n2, n3⟩ := zero4_cells RES
         unfold zero4 at FE n0 n1 n2 n3
         clear RES hk o11 f11 b11 qset
         go_wp2_with fail
         refine bodyPost_ret (v := .tuple #[setV 0 (.slice none 0 0) (.slice none 0 0) (.slice none 0 0), .int .i64 k]) ?_ rfl FE.out
         first | (simp [results, Tryz.results28, go_sem, n0, n1, n2, n3, setV]; done)
        | ok sr =>
         rw [hST] at qset hRT4
         clear hST
         go_wp2_with fail
         refine qset.out.mono ?_
         rintro e w11 ⟨b11, rvv, cvv, fvv, he, h1, h2, h3⟩
         obtain rfl : e = .returned (.tuple #[.agg #[.int .i64 sr.depth, rvv, cvv, fvv], .int .i64 0]) := he
         have RES := (b11.block (w.heap.size + 1) (lt_of_block HRES.out)).trans HRES.out
         have z0 := cell_of_row _ _ 0 _ _ _ RES
         have z1 := cell_of_row _ _ 1 _ _ _ RES
         have z2 := cell_of_row _ _ 2 _ _ _ RES
         have z3 := cell_of_row _ _ 3 _ _ _ RES
         have zf0 := free_zero RES 0
         have zf1 := free_zero RES 1
         have zf2 := free_zero RES 2
         have zf3 := free_zero RES 3
         have FO := hid (repl_ok (M := M) (w0 := w) (Z1 := w.heap.size + 1) HAsk.out.keep o10.out b11 (Nat.le_succ _) HF10.out hRT4.out RES h1 h2 h3)
         obtain ⟨arr, crr, rfl⟩ := h1.slice
         obtain ⟨acc, ccc, rfl⟩ := h2.slice
         obtain ⟨aff, cff, rfl⟩ := h3.slice
         have n0 := cell_of_row _ _ 0 _ _ _ FO.out.2
         have n1 := cell_of_row _ _ 1 _ _ _ FO.out.2
         have n2 := cell_of_row _ _ 2 _ _ _ FO.out.2
         have n3 := cell_of_row _ _ 3 _ _ _ FO.out.2
         unfold put4 at FO n0 n1 n2 n3
         obtain ⟨sd, sro, sch, sfr⟩ := sr
         dsimp only at *
         generalize sro.length = nr at *
         generalize sch.length = nc at *
         generalize sfr.length = nf at *
         clear h1 h2 h3 RES b11 qset HRES hRT4
         go_wp2_with fail
         refine bodyPost_ret (v := .tuple #[setV sd (.slice arr nr crr) (.slice acc nc ccc) (.slice aff nf cff), .int .i64 0]) ?_ rfl FO.out.1
         first | (simp [results, Tryz.results28, go_sem, n0, n1, n2, n3, setV]; done)
       ·have hRT4 : Hid (RT = (.error ek, s9)) := hid (by rw [hRT3.out, if_neg hek])
        have hekb : (ek != 0) = true := by rw [bne_iff_ne]; exact hek
        have RES := res10
        have z0 := cell_of_row _ _ 0 _ _ _ RES
        have z1 := cell_of_row _ _ 1 _ _ _ RES
        have z2 := cell_of_row _ _ 2 _ _ _ RES
        have z3 := cell_of_row _ _ 3 _ _ _ RES
        have zf0 := free_zero RES 0
        have zf1 := free_zero RES 1
        have zf2 := free_zero RES 2
        have zf3 := free_zero RES 3
        have HF10 := hid hf10
        clear qa hf10 ho10 hk10 ha10 ht10 hgood hRT3 res10
        have FE := hid (repl_err (M := M) (w0 := w) (w := w10) (Z1 := w.heap.size + 1) (r := RT) (k := ek) HAsk.out.keep o10.out (Nat.le_succ _) HF10.out hRT4.out hek)
        obtain ⟨n0, n1, n2, n3⟩ := zero4_cells RES
        unfold zero4 at FE n0 n1 n2 n3
        clear RES hek
        go_wp2_with fail
        refine bodyPost_ret (v := .tuple #[setV 0 (.slice none 0 0) (.slice none 0 0) (.slice none 0 0), .int .i64 ek]) ?_ rfl FE.out
        first | (simp [results, Tryz.results28, go_sem, n0, n1, n2, n3, setV]; done)
    ·have HPK : Hid (Forks.pick (Forks.lvls v d) row = Forks.shapeT (Forks.lvls v d) row 0) := hid (if_neg h4)
     have HKE : Hid (Forks.known v (Forks.lvls v d) row = []) := hid (if_neg h4)
     obtain ⟨hsb1, hsb2, hsb3⟩ := Forks.shape_bounds (Forks.lvls v d) HOK.out row (by omega)
     have hch := Forks.shape_chain (Forks.lvls v d) row 0
     have hfd := Forks.shape_fed (Forks.lvls v d) row HOK.out.fed
     have hnm := Forks.shape_named (Forks.lvls v d) row HKN.out
     have h4' : ¬ (4 : Int) < ((Forks.shapeT (Forks.lvls v d) row 0).1.1.length : Int) := by omega
     go_upto_region 18 with fail
     generalize Forks.shapeT (Forks.lvls v d) row 0 = SH at *
     obtain ⟨⟨LV, RO⟩, mm⟩ := SH
     dsimp only at *
     have hROl := Forks.chain_root_len hch (by omega) hsb3
     have HCH := hid hch
     have HFD := hid hfd
     have HNM := hid hnm
     have HLN := hid hsb3
     have hLVn := hsb1
     generalize hwS : w7.alloc _ = wS at *
     generalize hSB : w7.heap.size = SB at *
     have HKS : Hid (IntsAt wS (.slice none 0 0) []) := hid (.inl ⟨rfl, rfl⟩)
     obtain ⟨K, hKd⟩ : ∃ K : IL, K = [] := ⟨_, rfl⟩
     rw [← hKd] at HKS HKE
     have hKl : K.length ≤ 4096 := by rw [hKd]; simp
     have hKok : ∀ x ∈ K, 1 ≤ x ∧ x < 4096 := by rw [hKd]; intro x hx; cases hx
     clear hch hfd hnm hsb1 hsb3 hwS hSB h4 hKd HKN HOK
     have RS := R8
     have WS := W8
     have HXS := HX8
     have HLS := HL8
     have HRS := HR8
     have HMS := HM8
     have HSS := HS8
     rcases hfv with ⟨ff, fb, rfl⟩ | rfl
     ·-- the asker
      have bA : Below wS.heap.size wS (wS.alloc (.cells #[(.func ff fb #[]), .pointer (some ⟨X, 0, none⟩), .slice axv row.length cxv, .slice none 0 0] 150)) := (Below.refl _ _).alloc (Nat.le_refl _) _
      have hA9 : AskerAt (wS.alloc (.cells #[(.func ff fb #[]), .pointer (some ⟨X, 0, none⟩), .slice axv row.length cxv, .slice none 0 0] 150)) wS.heap.size X (.func ff fb #[]) (.slice axv row.length cxv) (.slice none 0 0) := heap_alloc_new wS _
      have R9 := hid (RS.out.below bA)
      have W9 := hid (WS.out.below bA)
      have HX9 := hid (own_below HXS.out bA)
      have HL9 := hid (HLS.out.below bA)
      have HR9 := hid (HRS.out.keep (.of_below bA))
      have hM9 := HMS.out.below bA
      have hS9 := (bA.block SB (lt_of_block HSS.out)).trans HSS.out
      have hloS := RS.out.bel.size
      have cM := cell_of_one hM9
      have qa := hid (HAsk.out.call mm (hFK.out _ R9.out.bel) hA9 R9.out.bel.size hloS W9.out HG.out HX9.out (fun x hx => by have := Forks.row_small HROW.out x hx; unfold SmallE; omega) (by omega) ((HKS.out.below bA)) hKl (by omega))
      have HA9 := hid hA9
      have HS9 := hid hS9
      have hSBA : SB ≠ wS.heap.size := by have := lt_of_block HSS.out; omega
      have hZA : w.heap.size + 1 ≠ wS.heap.size := by have := lt_of_block RS.out.res; omega
      have hgood := HAsk.out.good v row (mm + 1 - (K.length + 1)) (0 :: K)
      clear bA hA9 hM9 hS9 RS WS HXS HLS HRS HMS HSS HKS
      generalize hAK : ak v row (mm + 1 - (K.length + 1)) (0 :: K) = AK at *
      obtain ⟨⟨ek, TT⟩, s9⟩ := AK
      have hRT3 : Hid (RT = if ek = 0 then (Forks.setT v LV RO TT, s9) else (.error ek, s9)) := hid (by
       rw [hRT2.out]
       unfold Forks.replaceV
       dsimp only
       rw [HPK.out, HKE.out]
       dsimp only
       rw [hAK])
      clear hAK
      go_wp2_with fail
      generalize wS.alloc _ = w9 at *
      refine qa.out.mono ?_
      rintro e w10 ⟨rfl, hf10, ho10, hk10, tv, ha10, ht10⟩
      dsimp only at hf10 ht10 ho10 hk10 ha10
      have o10 := hid ((OnlyM.of_below R9.out.bel (M := M)).of_AM ho10 hloS)
      have res10 := (ho10.block (w.heap.size + 1) (lt_of_block R9.out.res) hZA (by omega)).trans R9.out.res
      by_cases hek : ek = 0
      ·subst hek
       have hRT4 : Hid (RT = (Forks.setT v LV RO TT, s9)) := hid (by rw [hRT3.out, if_pos rfl])
       obtain ⟨D, hTT, hDl, hDok, -, -⟩ := hgood rfl
       have hTT : TT = (0 :: K) ++ D := hTT
       have hsok := Forks.setOk_shape HROW.out HCH.out HFD.out HNM.out (by omega) (T := TT) (by rw [hTT]; exact Forks.told_ok hKok (fun x hx => ⟨(hDok x hx).1, (hDok x hx).2.1⟩) (by omega)) hLVn HLN.out hROl
       have qset := hid (set_any w10 ha10 (OwnInts.at ht10) (HL9.out.keep hk10.lvs hk10.nodes hk10.ents) (HR9.out.keep hk10.ents) (W9.out.keepW hk10) HG.out hsok)
       have s10 := (ho10.block SB (lt_of_block HS9.out) hSBA (by omega)).trans HS9.out
       have s100 := cell_of_row _ _ 0 _ _ _ s10
       have s101 := cell_of_row _ _ 1 _ _ _ s10
       have HF10 := hid hf10
       have HRES := hid res10
       clear qa hf10 ho10 hk10 ha10 ht10 hgood hRT3 hDok hTT hDl hsok res10 s10
       cases hST : Forks.setT v LV RO TT with
       | error k =>
        rw [hST] at qset hRT4
        clear hST
        go_wp2_with fail
        refine qset.out.mono ?_
        rintro e w11 ⟨b11, he, hk⟩
        obtain rfl : e = .returned (.tuple #[.agg #[.int .i64 0, .slice none 0 0, .slice none 0 0, .slice none 0 0], .int .i64 k]) := he
        have RES := (b11.block (w.heap.size + 1) (lt_of_block HRES.out)).trans HRES.out
        have z0 := cell_of_row _ _ 0 _ _ _ RES
        have z1 := cell_of_row _ _ 1 _ _ _ RES
        have z2 := cell_of_row _ _ 2 _ _ _ RES
        have z3 := cell_of_row _ _ 3 _ _ _ RES
        have zf0 := free_zero RES 0
        have zf1 := free_zero RES 1
        have zf2 := free_zero RES 2
        have zf3 := free_zero RES 3
        have o11 := o10.out.trans (.of_below b11)
        have f11 := HAsk.out.keep _ _ _ HF10.out (b11.mono o10.out.size)
        have FE := hid (repl_err (M := M) (w0 := w) (w := w11) (Z1 := w.heap.size + 1) (r := RT) (k := k) HAsk.out.keep o11 (Nat.le_succ _) f11 hRT4.out hk)
        obtain ⟨n0, n1, n2, n3⟩ := zero4_cells RES
        unfold zero4 at FE n0 n1 n2 n3
        clear RES hk o11 f11 b11 qset
        go_wp2_with fail
        refine bodyPost_ret (v := .tuple #[setV 0 (.slice none 0 0) (.slice none 0 0) (.slice none 0 0), .int .i64 k]) ?_ rfl FE.out
        first | (simp [results, Tryz.results28, go_sem, n0, n1, n2, n3, setV]; done)
       | ok sr =>
        rw [hST] at qset hRT4
        clear hST
        go_wp2_with fail
        refine qset.out.mono ?_
        rintro e w11 ⟨b11, rvv, cvv, fvv, he, h1, h2, h3⟩
        obtain rfl : e = .returned (.tuple #[.agg #[.int .i64 sr.depth, rvv, cvv, fvv], .int .i64 0]) := he
        have RES := (b11.block (w.heap.size + 1) (lt_of_block HRES.out)).trans HRES.out
        have z0 := cell_of_row _ _ 0 _ _ _ RES
        have z1 := cell_of_row _ _ 1 _ _ _ RES
        have z2 := cell_of_row _ _ 2 _ _ _ RES
        have z3 := cell_of_row _ _ 3 _ _ _ RES
        have zf0 := free_zero RES 0
        have zf1 := free_zero RES 1
        have zf2 := free_zero RES 2
        have zf3 := free_zero RES 3
        have FO := hid (repl_ok (M := M) (w0 := w) (Z1 := w.heap.size + 1) HAsk.out.keep o10.out b11 (Nat.le_succ _) HF10.out hRT4.out RES h1 h2 h3)
        obtain ⟨arr, crr, rfl⟩ := h1.slice
        obtain ⟨acc, ccc, rfl⟩ := h2.slice
        obtain ⟨aff, cff, rfl⟩ := h3.slice
        have n0 := cell_of_row _ _ 0 _ _ _ FO.out.2
        have n1 := cell_of_row _ _ 1 _ _ _ FO.out.2
        have n2 := cell_of_row _ _ 2 _ _ _ FO.out.2
        have n3 := cell_of_row _ _ 3 _ _ _ FO.out.2
        unfold put4 at FO n0 n1 n2 n3
        obtain ⟨sd, sro, sch, sfr⟩ := sr
        dsimp only at *
        generalize sro.length = nr at *
        generalize sch.length = nc at *
        generalize sfr.length = nf at *
        clear h1 h2 h3 RES b11 qset HRES hRT4
        go_wp2_with fail
        refine bodyPost_ret (v := .tuple #[setV sd (.slice arr nr crr) (.slice acc nc ccc) (.slice aff nf cff), .int .i64 0]) ?_ rfl FO.out.1
        first | (simp [results, Tryz.results28, go_sem, n0, n1, n2, n3, setV]; done)
      ·have hRT4 : Hid (RT = (.error ek, s9)) := hid (by rw [hRT3.out, if_neg hek])
       have hekb : (ek != 0) = true := by rw [bne_iff_ne]; exact hek
       have RES := res10
       have z0 := cell_of_row _ _ 0 _ _ _ RES
       have z1 := cell_of_row _ _ 1 _ _ _ RES
       have z2 := cell_of_row _ _ 2 _ _ _ RES
       have z3 := cell_of_row _ _ 3 _ _ _ RES
       have zf0 := free_zero RES 0
       have zf1 := free_zero RES 1
       have zf2 := free_zero RES 2
       have zf3 := free_zero RES 3
       have HF10 := hid hf10
       clear qa hf10 ho10 hk10 ha10 ht10 hgood hRT3 res10
       have FE := hid (repl_err (M := M) (w0 := w) (w := w10) (Z1 := w.heap.size + 1) (r := RT) (k := ek) HAsk.out.keep o10.out (Nat.le_succ _) HF10.out hRT4.out hek)
       obtain ⟨n0, n1, n2, n3⟩ := zero4_cells RES
       unfold zero4 at FE n0 n1 n2 n3
       clear RES hek
       go_wp2_with fail
       refine bodyPost_ret (v := .tuple #[setV 0 (.slice none 0 0) (.slice none 0 0) (.slice none 0 0), .int .i64 ek]) ?_ rfl FE.out
       first | (simp [results, Tryz.results28, go_sem, n0, n1, n2, n3, setV]; done)
     ·-- the asker
      have bA : Below wS.heap.size wS (wS.alloc (.cells #[.nilFunc, .pointer (some ⟨X, 0, none⟩), .slice axv row.length cxv, .slice none 0 0] 150)) := (Below.refl _ _).alloc (Nat.le_refl _) _
      have hA9 : AskerAt (wS.alloc (.cells #[.nilFunc, .pointer (some ⟨X, 0, none⟩), .slice axv row.length cxv, .slice none 0 0] 150)) wS.heap.size X .nilFunc (.slice axv row.length cxv) (.slice none 0 0) := heap_alloc_new wS _
      have R9 := hid (RS.out.below bA)
      have W9 := hid (WS.out.below bA)
      have HX9 := hid (own_below HXS.out bA)
      have HL9 := hid (HLS.out.below bA)
      have HR9 := hid (HRS.out.keep (.of_below bA))
      have hM9 := HMS.out.below bA
      have hS9 := (bA.block SB (lt_of_block HSS.out)).trans HSS.out
      have hloS := RS.out.bel.size
      have cM := cell_of_one hM9
      have qa := hid (HAsk.out.call mm (hFK.out _ R9.out.bel) hA9 R9.out.bel.size hloS W9.out HG.out HX9.out (fun x hx => by have := Forks.row_small HROW.out x hx; unfold SmallE; omega) (by omega) ((HKS.out.below bA)) hKl (by omega))
      have HA9 := hid hA9
      have HS9 := hid hS9
      have hSBA : SB ≠ wS.heap.size := by have := lt_of_block HSS.out; omega
      have hZA : w.heap.size + 1 ≠ wS.heap.size := by have := lt_of_block RS.out.res; omega
      have hgood := HAsk.out.good v row (mm + 1 - (K.length + 1)) (0 :: K)
      clear bA hA9 hM9 hS9 RS WS HXS HLS HRS HMS HSS HKS
      generalize hAK : ak v row (mm + 1 - (K.length + 1)) (0 :: K) = AK at *
      obtain ⟨⟨ek, TT⟩, s9⟩ := AK
      have hRT3 : Hid (RT = if ek = 0 then (Forks.setT v LV RO TT, s9) else (.error ek, s9)) := hid (by
       rw [hRT2.out]
       unfold Forks.replaceV
       dsimp only
       rw [HPK.out, HKE.out]
       dsimp only
       rw [hAK])
      clear hAK
      go_wp2_with fail
      generalize wS.alloc _ = w9 at *
      refine qa.out.mono ?_
      rintro e w10 ⟨rfl, hf10, ho10, hk10, tv, ha10, ht10⟩
      dsimp only at hf10 ht10 ho10 hk10 ha10
      have o10 := hid ((OnlyM.of_below R9.out.bel (M := M)).of_AM ho10 hloS)
      have res10 := (ho10.block (w.heap.size + 1) (lt_of_block R9.out.res) hZA (by omega)).trans R9.out.res
      by_cases hek : ek = 0
      ·subst hek
       have hRT4 : Hid (RT = (Forks.setT v LV RO TT, s9)) := hid (by rw [hRT3.out, if_pos rfl])
       obtain ⟨D, hTT, hDl, hDok, -, -⟩ := hgood rfl
       have hTT : TT = (0 :: K) ++ D := hTT
       have hsok := Forks.setOk_shape HROW.out HCH.out HFD.out HNM.out (by omega) (T := TT) (by rw [hTT]; exact Forks.told_ok hKok (fun x hx => ⟨(hDok x hx).1, (hDok x hx).2.1⟩) (by omega)) hLVn HLN.out hROl
       have qset := hid (set_any w10 ha10 (OwnInts.at ht10) (HL9.out.keep hk10.lvs hk10.nodes hk10.ents) (HR9.out.keep hk10.ents) (W9.out.keepW hk10) HG.out hsok)
       have s10 := (ho10.block SB (lt_of_block HS9.out) hSBA (by omega)).trans HS9.out
       have s100 := cell_of_row _ _ 0 _ _ _ s10
       have s101 := cell_of_row _ _ 1 _ _ _ s10
       have HF10 := hid hf10
       have HRES := hid res10
       clear qa hf10 ho10 hk10 ha10 ht10 hgood hRT3 hDok hTT hDl hsok res10 s10
       cases hST : Forks.setT v LV RO TT with
       | error k =>
        rw [hST] at qset hRT4
        clear hST
        go_wp2_with fail
        refine qset.out.mono ?_
        rintro e w11 ⟨b11, he, hk⟩
        obtain rfl : e = .returned (.tuple #[.agg #[.int .i64 0, .slice none 0 0, .slice none 0 0, .slice none 0 0], .int .i64 k]) := he
        have RES := (b11.block (w.heap.size + 1) (lt_of_block HRES.out)).trans HRES.out
        have z0 := cell_of_row _ _ 0 _ _ _ RES
        have z1 := cell_of_row _ _ 1 _ _ _ RES
        have z2 := cell_of_row _ _ 2 _ _ _ RES
        have z3 := cell_of_row _ _ 3 _ _ _ RES
        have zf0 := free_zero RES 0
        have zf1 := free_zero RES 1
        have zf2 := free_zero RES 2
        have zf3 := free_zero RES 3
        have o11 := o10.out.trans (.of_below b11)
        have f11 := HAsk.out.keep _ _ _ HF10.out (b11.mono o10.out.size)
        have FE := hid (repl_err (M := M) (w0 := w) (w := w11) (Z1 := w.heap.size + 1) (r := RT) (k := k) HAsk.out.keep o11 (Nat.le_succ _) f11 hRT4.out hk)
        obtain ⟨n0, n1, n2, n3⟩ := zero4_cells RES
        unfold zero4 at FE n0 n1 n2 n3
        clear RES hk o11 f11 b11 qset
        go_wp2_with fail
        refine bodyPost_ret (v := .tuple #[setV 0 (.slice none 0 0) (.slice none 0 0) (.slice none 0 0), .int .i64 k]) ?_ rfl FE.out
        first | (simp [results, Tryz.results28, go_sem, n0, n1, n2, n3, setV]; done)
       | ok sr =>
        rw [hST] at qset hRT4
        clear hST
        go_wp2_with fail
        refine qset.out.mono ?_
        rintro e w11 ⟨b11, rvv, cvv, fvv, he, h1, h2, h3⟩
        obtain rfl : e = .returned (.tuple #[.agg #[.int .i64 sr.depth, rvv, cvv, fvv], .int .i64 0]) := he
        have RES := (b11.block (w.heap.size + 1) (lt_of_block HRES.out)).trans HRES.out
        have z0 := cell_of_row _ _ 0 _ _ _ RES
        have z1 := cell_of_row _ _ 1 _ _ _ RES
        have z2 := cell_of_row _ _ 2 _ _ _ RES
        have z3 := cell_of_row _ _ 3 _ _ _ RES
        have zf0 := free_zero RES 0
        have zf1 := free_zero RES 1
        have zf2 := free_zero RES 2
        have zf3 := free_zero RES 3
        have FO := hid (repl_ok (M := M) (w0 := w) (Z1 := w.heap.size + 1) HAsk.out.keep o10.out b11 (Nat.le_succ _) HF10.out hRT4.out RES h1 h2 h3)
        obtain ⟨arr, crr, rfl⟩ := h1.slice
        obtain ⟨acc, ccc, rfl⟩ := h2.slice
        obtain ⟨aff, cff, rfl⟩ := h3.slice
        have n0 := cell_of_row _ _ 0 _ _ _ FO.out.2
        have n1 := cell_of_row _ _ 1 _ _ _ FO.out.2
        have n2 := cell_of_row _ _ 2 _ _ _ FO.out.2
        have n3 := cell_of_row _ _ 3 _ _ _ FO.out.2
        unfold put4 at FO n0 n1 n2 n3
        obtain ⟨sd, sro, sch, sfr⟩ := sr
        dsimp only at *
        generalize sro.length = nr at *
        generalize sch.length = nc at *
        generalize sfr.length = nf at *
        clear h1 h2 h3 RES b11 qset HRES hRT4
        go_wp2_with fail
        refine bodyPost_ret (v := .tuple #[setV sd (.slice arr nr crr) (.slice acc nc ccc) (.slice aff nf cff), .int .i64 0]) ?_ rfl FO.out.1
        first | (simp [results, Tryz.results28, go_sem, n0, n1, n2, n3, setV]; done)
      ·have hRT4 : Hid (RT = (.error ek, s9)) := hid (by rw [hRT3.out, if_neg hek])
       have hekb : (ek != 0) = true := by rw [bne_iff_ne]; exact hek
       have RES := res10
       have z0 := cell_of_row _ _ 0 _ _ _ RES
       have z1 := cell_of_row _ _ 1 _ _ _ RES
       have z2 := cell_of_row _ _ 2 _ _ _ RES
       have z3 := cell_of_row _ _ 3 _ _ _ RES
       have zf0 := free_zero RES 0
       have zf1 := free_zero RES 1
       have zf2 := free_zero RES 2
       have zf3 := free_zero RES 3
       have HF10 := hid hf10
       clear qa hf10 ho10 hk10 ha10 ht10 hgood hRT3 res10
       have FE := hid (repl_err (M := M) (w0 := w) (w := w10) (Z1 := w.heap.size + 1) (r := RT) (k := ek) HAsk.out.keep o10.out (Nat.le_succ _) HF10.out hRT4.out hek)
       obtain ⟨n0, n1, n2, n3⟩ := zero4_cells RES
       unfold zero4 at FE n0 n1 n2 n3
       clear RES hek
       go_wp2_with fail
       refine bodyPost_ret (v := .tuple #[setV 0 (.slice none 0 0) (.slice none 0 0) (.slice none 0 0), .int .i64 ek]) ?_ rfl FE.out
       first | (simp [results, Tryz.results28, go_sem, n0, n1, n2, n3, setV]; done)
end Go.Proofs.YtgjmeeiejcbjfaaGreat
