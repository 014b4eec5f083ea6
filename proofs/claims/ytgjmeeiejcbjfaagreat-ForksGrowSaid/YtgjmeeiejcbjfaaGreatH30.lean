/- Forks: turned. -/
import Derived.Test.YtgjmeeiejcbjfaaGreatH29
set_option linter.unusedSimpArgs false
set_option linter.unusedVariables false
namespace Go.Proofs.YtgjmeeiejcbjfaaGreat
open Go.Lib (hid)
open Go Go.RowKit
structure TSt (w0 : World) (Z0 Z1 Y : Nat) (d : Nat) (rv rv' cv : Value) (l : EL) (C : CL) (w : World) : Prop where
 tree : w.heap[Z0]? = some (.cells #[.int .i64 (d : Int), rv] 35 (0, 0))
 res : w.heap[Z1]? = some (.cells #[.int .i64 0, .slice none 0 0, .slice none 0 0, .slice none 0 0] 58 (0, 0))
 y : w.heap[Y]? = some (.cells #[.int .i64 (d : Int), rv', cv, .slice none 0 0] 58 (0, 0))
 root : OwnEnts w0.heap.size w rv' l
 ch : OwnChgs w0.heap.size w cv C
 bel : Below w0.heap.size w0 w
 lo0 : w0.heap.size ≤ Z0
 lo1 : w0.heap.size ≤ Z1
 loY : w0.heap.size ≤ Y
 ne : Y ≠ Z1
variable {w0 w w' : World} {Z0 Z1 Y d : Nat} {rv rv' cv : Value} {l : EL} {C : CL}
theorem TSt.below (h : TSt w0 Z0 Z1 Y d rv rv' cv l C w) (hb : Below w.heap.size w w') : TSt w0 Z0 Z1 Y d rv rv' cv l C w' :=
 ⟨by rw [hb.block Z0 (lt_of_block h.tree)]; exact h.tree, by rw [hb.block Z1 (lt_of_block h.res)]; exact h.res, by rw [hb.block Y (lt_of_block h.y)]; exact h.y, own_below h.root hb, h.ch.below hb, h.bel.trans (hb.mono h.bel.size), h.lo0, h.lo1, h.loY, h.ne⟩
theorem TSt.cells (h : TSt w0 Z0 Z1 Y d rv rv' cv l C w) : w.cell? ⟨Z0, 0, none⟩ = some (.int .i64 (d : Int)) ∧ w.cell? ⟨Z0, 1, none⟩ = some rv ∧ w.cell? ⟨Y, 0, none⟩ = some (.int .i64 (d : Int)) ∧ w.cell? ⟨Y, 1, none⟩ = some rv' ∧ w.cell? ⟨Y, 2, none⟩ = some cv ∧ w.cell? ⟨Y, 3, none⟩ = some (.slice none 0 0) ∧ ∀ k, w.frozen? ⟨Y, k, none⟩ = false :=
 ⟨cell_of_row w Z0 0 _ _ _ h.tree, cell_of_row w Z0 1 _ _ _ h.tree, cell_of_row w Y 0 _ _ _ h.y, cell_of_row w Y 1 _ _ _ h.y, cell_of_row w Y 2 _ _ _ h.y, cell_of_row w Y 3 _ _ _ h.y, free_zero h.y⟩
theorem TSt.cellsR (h : TSt w0 Z0 Z1 Y d rv rv' cv l C w) : w.cell? ⟨Z1, 0, none⟩ = some (.int .i64 0) ∧ w.cell? ⟨Z1, 1, none⟩ = some (.slice none 0 0) ∧ w.cell? ⟨Z1, 2, none⟩ = some (.slice none 0 0) ∧ w.cell? ⟨Z1, 3, none⟩ = some (.slice none 0 0) ∧ ∀ k, w.frozen? ⟨Z1, k, none⟩ = false :=
 ⟨cell_of_row w Z1 0 _ _ _ h.res, cell_of_row w Z1 1 _ _ _ h.res, cell_of_row w Z1 2 _ _ _ h.res, cell_of_row w Z1 3 _ _ _ h.res, free_zero h.res⟩
theorem TSt.setCh {cv' : Value} {C' : CL} (h : TSt w0 Z0 Z1 Y d rv rv' cv l C w) (hc : OwnChgs w0.heap.size w cv' C') : TSt w0 Z0 Z1 Y d rv rv' cv' l C' (w.setCell ⟨Y, 2, none⟩ cv') := by
 have s := fun T (hT : T ≠ 58) => KeepT.set (T := T) (u := cv') (a := ⟨Y, 2, none⟩) h.y hT
 have y5 := block_setCellS h.y 2 cv'
 exact ⟨s _ (by decide) _ _ _ h.tree, (Below.heap_setCell _ _ _ _ h.ne.symm).trans h.res, by simpa using y5, own_keepT h.root (s _ (by decide)), own_keepT hc (s _ (by decide)), h.bel.setCell h.loY _, h.lo0, h.lo1, h.loY, h.ne⟩
theorem TSt.setRoot {g n c : Nat} (h : TSt w0 Z0 Z1 Y d rv (.slice (some ⟨g, 0, none⟩) n c) cv l C w) (i : Nat) (hi : i < l.length) (tt : Int) : TSt w0 Z0 Z1 Y d rv (.slice (some ⟨g, 0, none⟩) n c) cv (Forks.turnAt l i tt) C (w.setCell ⟨g, i * 3 + 1, none⟩ (.int .i64 tt)) ∧ w.frozen? ⟨g, i * 3 + 1, none⟩ = false ∧ ∃ u, w.cell? ⟨g, i * 3 + 1, none⟩ = some u := by
 have hr : w.ownsRow w0.heap.size 31 3 (.slice (some ⟨g, 0, none⟩) n c) l.length (ecells l) := h.root
 have hl : n = l.length := by
  rcases hr.2 with ⟨hv, _⟩ | ⟨g', cap', cur, hv, _⟩
  ·cases hv
  ·injection hv
 subst hl
 obtain ⟨cur, fr, hb⟩ : ∃ cur fr, w.heap[g]? = some (.cells cur 31 fr) := by
  rcases hr.2 with ⟨hv, _⟩ | ⟨g', cap', cur, hv, hb, hg, _⟩
  ·cases hv
  ·cases hv; exact ⟨_, _, hg⟩
 have hlo : w0.heap.size ≤ g := by
  rcases hr.2 with ⟨hv, _⟩ | ⟨g', cap', cur, hv, hb, hg, _⟩
  ·cases hv
  ·cases hv; exact hb
 have s := fun T (hT : T ≠ 31) => KeepT.set (T := T) (u := .int .i64 tt) (a := ⟨g, i * 3 + 1, none⟩) hb hT
 have ho := own_setK hr (i * 3 + 1) (.int .i64 tt)
 rw [ecells_setP _ _ _ hi] at ho
 have ho2 : OwnEnts w0.heap.size (w.setCell ⟨g, i * 3 + 1, none⟩ (.int .i64 tt)) (.slice (some ⟨g, 0, none⟩) l.length c) (Forks.turnAt l i tt) := by
  unfold OwnEnts
  rw [Forks.turnAt_len]
  exact ho
 refine ⟨⟨s _ (by decide) _ _ _ h.tree, s _ (by decide) _ _ _ h.res, s _ (by decide) _ _ _ h.y, ho2, own_keepT h.ch (s _ (by decide)), h.bel.setCell hlo _, h.lo0, h.lo1, h.loY, h.ne⟩, own_freeK hr _, _, own_cellK hr (by have := (ecells_at l i hi).2.1; exact this)⟩
def TurnOut (w0 : World) (r : Forks.SetR) (e : Ending) (w' : World) : Prop :=
 Below w0.heap.size w0 w' ∧ ∃ rv cv fv, e = .returned (setV r.depth rv cv fv) ∧ OwnEnts w0.heap.size w' rv r.root ∧ OwnChgs w0.heap.size w' cv r.changes ∧ OwnInts w0.heap.size w' fv r.freed ∧ fv = .slice none 0 0
theorem TSt.out {r : Forks.SetR} (h : TSt w0 Z0 Z1 Y d rv rv' cv l C w) (hr : r = ⟨(d : Int), l, C, []⟩) :
  TurnOut w0 r (.returned (setV (d : Int) rv' cv (.slice none 0 0))) (put4 w Z1 (.int .i64 (d : Int)) rv' cv (.slice none 0 0)) ∧ (put4 w Z1 (.int .i64 (d : Int)) rv' cv (.slice none 0 0)).heap[Z1]? = some (.cells #[.int .i64 (d : Int), rv', cv, .slice none 0 0] 58 (0, 0)) := by
 subst hr
 obtain ⟨p1, p2⟩ := put4_block (a := .int .i64 (d : Int)) (b := rv') (c := cv) (d := .slice none 0 0) h.res
 exact ⟨⟨h.bel.trans (put4_below w _ _ _ _ h.lo1), rv', cv, _, rfl, own_keepT h.root (p2 _ (by decide)), own_keepT h.ch (p2 _ (by decide)), World.ownsRow_nil _ _ _ _, rfl⟩, p1⟩
set_option maxRecDepth 100000 in
set_option maxHeartbeats 8000000 in
theorem turned_any {B X : Nat} {rdv : Value} {v : Forks.V} {R0 : EL} (isv : Value) (p : Exts.E → Bool) (tt : Int) (htt : -9223372036854775808 ≤ tt ∧ tt ≤ 9223372036854775807) (level : Nat) (w : World) (hW : WAtR B X w rdv d v R0) (hg : Forks.Good v) (root : EL) (hr : EntsAt w rv root) (hl : root.length ≤ 1000000) (hlev : level ≤ d) (hd4 : d ≤ 4)
  (hIdx : ∀ wz u l, Below w.heap.size w wz → EntsAt wz u l → l.length ≤ 1000000 → Calls Tryz.prog 99 #[u, isv] wz fun e w' => e = .returned (.int .i64 (idxOf p l)) ∧ Below wz.heap.size wz w') :
  Calls Tryz.prog 61 #[.pointer (some ⟨X, 0, none⟩), .agg #[.int .i64 (d : Int), rv], .int .i64 (level : Int), isv, .int .i64 tt] w (TurnOut w (Forks.turnedT v d root level p tt)) := by
 obtain ⟨ic, hic, hzc, hsc, hbc⟩ := info_parts info_change
 have HW := hid hW
 have HG := hid hg
 have HR := hid hr
 have HI := hid hIdx
 obtain ⟨ar, cr, rfl⟩ := hr.form
 have R1 : Hid (RSt w w.heap.size (w.heap.size + 1) (d : Int) (.slice ar root.length cr) ((w.alloc (.cells #[.int .i64 (d : Int), .slice ar root.length cr] 35)).alloc (.cells #[.int .i64 0, .slice none 0 0, .slice none 0 0, .slice none 0 0] 58))) := hid (by
  obtain ⟨h1, h2⟩ := shape_alloc2 w (.cells #[.int .i64 (d : Int), .slice ar root.length cr] 35) (.cells #[.int .i64 0, .slice none 0 0, .slice none 0 0, .slice none 0 0] 58)
  exact ⟨h1, h2, ((Below.refl _ _).alloc (Nat.le_refl _) _).alloc (by simp) _, Nat.le_refl _, Nat.le_succ _⟩)
 have qs := hid (same_any (d : Int) (.slice ar root.length cr) root _ (HR.out.keep (.of_below R1.out.bel)) hl)
 generalize hTT : Forks.turnedT v d root level p tt = RT at *
 have HTT := hid hTT
 clear hW hg hr hIdx hTT
 go_enter Tryz.func61, Tryz.ntmps61
 go_wp2_with fail
 generalize (w.alloc _).alloc _ = w1 at *
 obtain ⟨t0, t1, -, -, -, -, -⟩ := R1.out.cells
 go_wp2_with fail
 refine qs.out.mono ?_
 rintro e w2 ⟨v2, he, o2, b2⟩
 obtain ⟨a2, c2, rfl⟩ := o2.slice
 obtain rfl : e = .returned (.agg #[.int .i64 (d : Int), .slice a2 root.length c2, .slice none 0 0, .slice none 0 0]) := he
 have R2 := hid (R1.out.below b2)
 have O2 := hid o2
 clear b2 o2 qs t0 t1
 go_upto_region 2 with fail
 have T3 := hid (show TSt w w.heap.size (w.heap.size + 1) w2.heap.size d (.slice ar root.length cr) (.slice a2 root.length c2) (.slice none 0 0) root [] (w2.alloc (.cells #[.int .i64 (d : Int), .slice a2 root.length c2, .slice none 0 0, .slice none 0 0] 58)) from by
  have bA : Below w2.heap.size w2 (w2.alloc (.cells #[.int .i64 (d : Int), .slice a2 root.length c2, .slice none 0 0, .slice none 0 0] 58)) := (Below.refl _ _).alloc (Nat.le_refl _) _
  have h := R2.out.below bA
  have hz := lt_of_block R2.out.res
  exact ⟨h.tree, h.res, heap_alloc_new w2 _, World.ownsRow.mono (own_below O2.out bA) R1.out.bel.size, World.ownsRow_nil _ _ _ _, h.bel, h.lo0, h.lo1, R2.out.bel.size, by omega⟩)
 clear R2 O2 R1
 generalize w2.alloc _ = w3 at *
 generalize w2.heap.size = Y at *
 by_cases hdl : d = level
 ·have hdI : ((d : Int) == (level : Int)) = true := by rw [beq_iff_eq]; omega
  obtain ⟨t0, t1, y0, y1, y2, y3, yF⟩ := T3.out.cells
  have qi := hid (HI.out w3 (.slice ar root.length cr) root T3.out.bel (HR.out.keep (.of_below T3.out.bel)) hl)
  have hRT : Hid (RT = ⟨(d : Int), if 0 ≤ idxOf p root then Forks.turnAt root (idxOf p root).toNat tt else root, [], []⟩) := hid (by rw [← HTT.out]; unfold Forks.turnedT; rw [if_pos hdl])
  have hlt := hid (fun h => Forks.idxOf_lt (l := root) (p := p) h)
  generalize idxOf p root = I at *
  clear hlev hdl yF y2 y3
  by_cases hI : 0 ≤ I
  ·obtain ⟨i, rfl⟩ : ∃ i : Nat, I = (i : Int) := ⟨I.toNat, by omega⟩
   have hil := hlt.out hI
   rw [Int.toNat_natCast] at hil
   have hRT2 : Hid (RT = ⟨(d : Int), Forks.turnAt root i tt, [], []⟩) := hid (by rw [hRT.out, if_pos hI]; simp)
   have i0 : (0 : Int) ≤ (i : Int) := hI
   have i1 : (i : Int) < (root.length : Int) := by omega
   clear hI hlt hRT
   go_wp2_with fail
   refine qi.out.mono ?_
   rintro e w4 ⟨rfl, b4⟩
   have T4 := hid (T3.out.below b4)
   clear b4 qi T3 t0 t1 y0 y1
   obtain ⟨g, rfl⟩ : ∃ g, a2 = some ⟨g, 0, none⟩ := by
    rcases T4.out.root.2 with ⟨hv, hn⟩ | ⟨g', cap', cur, hv, _⟩
    ·omega
    ·cases hv; exact ⟨g', rfl⟩
   obtain ⟨T5, f5, u5, c5⟩ := T4.out.setRoot i hil tt
   have HT5 := hid T5
   obtain ⟨-, -, y0, y1, -, -, -⟩ := T4.out.cells
   have T6 := HT5
   clear T5
   have FO := hid (T6.out.out (r := RT) hRT2.out)
   obtain ⟨r0, r1, r2, r3, rF⟩ := T6.out.cellsR
   obtain ⟨-, -, y60, y61, y62, y63, -⟩ := T6.out.cells
   have rf0 := rF 0
   have rf1 := rF 1
   have rf2 := rF 2
   have rf3 := rF 3
   have n0 := cell_of_row _ _ 0 _ _ _ FO.out.2
   have n1 := cell_of_row _ _ 1 _ _ _ FO.out.2
   have n2 := cell_of_row _ _ 2 _ _ _ FO.out.2
   have n3 := cell_of_row _ _ 3 _ _ _ FO.out.2
   unfold put4 at FO n0 n1 n2 n3
   clear rF
   go_wp2_with fail
   refine bodyPost_ret (v := setV (d : Int) (.slice (some ⟨g, 0, none⟩) root.length c2) (.slice none 0 0) (.slice none 0 0)) ?_ rfl FO.out.1
   first | (simp [results, Tryz.results61, go_sem, n0, n1, n2, n3, setV]; done)
  ·have hRT2 : Hid (RT = ⟨(d : Int), root, [], []⟩) := hid (by rw [hRT.out, if_neg hI])
   clear hlt hRT
   go_wp2_with fail
   refine qi.out.mono ?_
   rintro e w4 ⟨rfl, b4⟩
   have T4 := hid (T3.out.below b4)
   clear b4 qi T3 t0 t1 y0 y1
   have FO := hid (T4.out.out (r := RT) hRT2.out)
   obtain ⟨r0, r1, r2, r3, rF⟩ := T4.out.cellsR
   obtain ⟨-, -, y0, y1, y2, y3, -⟩ := T4.out.cells
   have rf0 := rF 0
   have rf1 := rF 1
   have rf2 := rF 2
   have rf3 := rF 3
   have n0 := cell_of_row _ _ 0 _ _ _ FO.out.2
   have n1 := cell_of_row _ _ 1 _ _ _ FO.out.2
   have n2 := cell_of_row _ _ 2 _ _ _ FO.out.2
   have n3 := cell_of_row _ _ 3 _ _ _ FO.out.2
   unfold put4 at FO n0 n1 n2 n3
   clear rF
   go_wp2_with fail
   refine bodyPost_ret (v := setV (d : Int) (.slice a2 root.length c2) (.slice none 0 0) (.slice none 0 0)) ?_ rfl FO.out.1
   first | (simp [results, Tryz.results61, go_sem, n0, n1, n2, n3, setV]; done)
 ·have hdI : ((d : Int) == (level : Int)) = false := by rw [beq_eq_false_iff_ne]; omega
  have hld : level < d := by omega
  have hRT : Hid (RT = ⟨(d : Int), root, (Forks.lvl v (level + 1)).foldl (Forks.turnN v (level == 0) p tt) [], []⟩) := hid (by rw [← HTT.out]; unfold Forks.turnedT; rw [if_neg hdl])
  obtain ⟨Lb, cXw, hLv⟩ := HW.out.lvls
  have cX1 := (T3.out.bel.cell (p := ⟨X, 1, none⟩) (World.block_lt_of_cell? _ _ cXw)).trans cXw
  obtain ⟨b, off, u, hb, cuw, hnu⟩ := hLv.cellAt level (by rw [Forks.lvls_len]; exact hld)
  injection hb with hb
  injection hb with hb1 hb2
  subst hb1
  subst hb2
  have cu := (T3.out.bel.cell (p := ⟨Lb, 0 + level, none⟩) (World.block_lt_of_cell? _ _ cuw)).trans cuw
  rw [Nat.zero_add] at cu
  rw [Forks.lvls_at v d level hld] at hnu
  have hLF := hid (Forks.lvl_ok HG.out (level + 1))
  have hLS := hid (Forks.lvl_small HG.out (level + 1))
  obtain ⟨leaf, hleaf⟩ : ∃ leaf : Bool, (level == 0) = leaf := ⟨_, rfl⟩
  have hleafI : ((level : Int) == 0) = leaf := by
   rw [← hleaf]
   cases level with
   | zero => rfl
   | succ k => rw [beq_eq_false_iff_ne.2 (by omega), beq_eq_false_iff_ne.2 (by omega)]
  rw [hleaf] at hRT
  obtain ⟨t0, t1, y0, y1, y2, y3, yF⟩ := T3.out.cells
  have l0 : (0 : Int) ≤ (level : Int) := by omega
  have l1 : (level : Int) < (d : Int) := by omega
  have HNU := hid hnu.1
  have hnuT : Hid (∀ cv C wz, TSt w w.heap.size (w.heap.size + 1) Y d (.slice ar root.length cr) (.slice a2 root.length c2) cv root C wz → NodesT wz u (Forks.lvl v (level + 1))) := hid (fun cv C wz hz => HNU.out.below hz.bel)
  obtain ⟨au, ku, rfl⟩ := hnu.1.form
  generalize hLL : Forks.lvl v (level + 1) = L at *
  have hLn : L.length ≤ 100000 := hLF.out.2.2
  clear hLv hnu hLL hdl hleaf HTT cuw cXw
  go_wp2_with fail
  go_loopw [47] (fun q wr => ∃ (i : Nat) (cv : Value), q = .int .i64 i ∧ i ≤ L.length ∧ Hid (TSt w w.heap.size (w.heap.size + 1) Y d (.slice ar root.length cr) (.slice a2 root.length c2) cv root ((L.take i).foldl (Forks.turnN v leaf p tt) []) wr)) (fun q _ => L.length - (intOf q).toNat)
  case atStart => exact ⟨0, _, rfl, by omega, T3⟩
  case round =>
   clear T3 t0 t1 y0 y1 y2 y3 yF cX1 cu HNU
   obtain ⟨i, cv, rfl, hi, hst⟩ := hrel
   by_cases hlt : i < L.length
   ·have i0 : (0 : Int) ≤ (i : Int) := by omega
    have i1 : (i : Int) < (L.length : Int) := by omega
    obtain ⟨bn, on, ax, cx, rfl, d0, d1, hE⟩ := (hnuT.out _ _ wr hst.out).cellsAt i hlt
    have hmem : L.getD i (0, []) ∈ L := by rw [show L.getD i (0, []) = L[i] by simp [List.getD, hlt]]; exact List.getElem_mem hlt
    have hfed := hLF.out.1 _ hmem
    have hkn := hLF.out.2.1 _ hmem
    have hsx := hLS.out _ hmem
    have hF1 := hid (Forks.fold_take (Forks.turnN v leaf p tt) [] L i hlt (0, []))
    generalize L.getD i (0, []) = x at *
    obtain ⟨xb, xl⟩ := x
    dsimp only at *
    obtain ⟨nb, rfl⟩ : ∃ nb : Nat, xb = (nb : Int) := ⟨xb.toNat, by omega⟩
    have bA : Below wr.heap.size wr (wr.alloc (.cells #[.int .i64 (nb : Int), .slice ax xl.length cx] 131)) := (Below.refl _ _).alloc (Nat.le_refl _) _
    have x0 : (wr.alloc (.cells #[.int .i64 (nb : Int), .slice ax xl.length cx] 131)).cell? ⟨wr.heap.size, 0, none⟩ = some (.int .i64 (nb : Int)) := box_cell _ _ _ _
    have x1 : (wr.alloc (.cells #[.int .i64 (nb : Int), .slice ax xl.length cx] 131)).cell? ⟨wr.heap.size, 1, none⟩ = some (.slice ax xl.length cx) := box_cell _ _ _ _
    have zY : wr.heap.size < (wr.alloc (.cells #[.int .i64 (nb : Int), .slice ax xl.length cx] 131)).heap.size := by simp
    have T4 := hid (hst.out.below bA)
    have E4 := hid (hE.keep (.of_below bA))
    have qi := hid (HI.out _ (.slice ax xl.length cx) xl T4.out.bel E4.out (by omega))
    have hil := hid (fun h => Forks.idxOf_lt (l := xl) (p := p) h)
    have hF1 := hid (hF1.out.trans (Forks.turnN_def v leaf p tt _ _ xl))
    rw [Int.toNat_natCast] at hF1
    generalize hIx : idxOf p xl = I at *
    clear hst hE bA hmem hIx
    go_wp2_with fail
    generalize wr.alloc _ = w4 at *
    generalize wr.heap.size = Yn at *
    refine qi.out.mono ?_
    rintro e w5 ⟨rfl, b5⟩
    have T5 := hid (T4.out.below b5)
    have x05 := (b5.cell (p := ⟨Yn, 0, none⟩) zY).trans x0
    have x15 := (b5.cell (p := ⟨Yn, 1, none⟩) zY).trans x1
    have E5 := hid (E4.out.keep (.of_below b5))
    have zY5 : Yn < w5.heap.size := Nat.lt_of_lt_of_le zY b5.size
    clear b5 qi T4 E4 x0 x1 zY
    by_cases hI : 0 ≤ I
    ·obtain ⟨k, rfl⟩ : ∃ k : Nat, I = (k : Int) := ⟨I.toNat, by omega⟩
     have hkl := hil.out hI
     rw [Int.toNat_natCast] at hkl
     have k0 : (0 : Int) ≤ (k : Int) := hI
     have k1 : (k : Int) < (xl.length : Int) := by omega
     have k2 : ¬ (k : Int) < 0 := by omega
     rw [if_pos hI, Int.toNat_natCast] at hF1
     have qc := hid (nclone_any (.slice ax xl.length cx) xl w5 E5.out.ext (by omega))
     have hts := Forks.turnAt_small hsx k hkl tt htt
     have hW5 := hid (fun wz (hz : Below w.heap.size w wz) => HW.out.keepW (.of_below hz))
     clear hI hil
     go_wp2_with fail
     refine qc.out.mono ?_
     rintro e w6 ⟨v6, rfl, o6, b6⟩
     obtain ⟨g, c6, rfl, hg5⟩ : ∃ g c6, v6 = .slice (some ⟨g, 0, none⟩) xl.length c6 ∧ w5.heap.size ≤ g := by
      rcases o6.2 with ⟨hv, hn⟩ | ⟨g', cap', cur, hv, hg, _⟩
      ·omega
      ·exact ⟨g', cap', hv, hg⟩
     have o6' : w6.ownsRow w5.heap.size 31 3 (.slice (some ⟨g, 0, none⟩) xl.length c6) xl.length (ecells xl) := o6
     have f6 := own_freeK o6' (k * 3 + 1)
     have c6c := own_cellK o6' (ecells_at xl k hkl).2.1
     have o7 := own_setK o6' (k * 3 + 1) (.int .i64 tt)
     rw [ecells_setP _ _ _ hkl] at o7
     have O7 := hid (show OwnEnts w5.heap.size (w6.setCell ⟨g, k * 3 + 1, none⟩ (.int .i64 tt)) (.slice (some ⟨g, 0, none⟩) xl.length c6) (Forks.turnAt xl k tt) from by
      unfold OwnEnts
      rw [Forks.turnAt_len]
      exact o7)
     have B7 := hid (b6.setCell (p := ⟨g, k * 3 + 1, none⟩) hg5 (.int .i64 tt))
     have qe := hid (encode_any leaf (.slice (some ⟨g, 0, none⟩) xl.length c6) (Forks.turnAt xl k tt) _ hts (O7.out.ents.ext) (by rw [Forks.turnAt_len]; omega))
     have x07 := (B7.out.cell (p := ⟨Yn, 0, none⟩) zY5).trans x05
     have x17 := (B7.out.cell (p := ⟨Yn, 1, none⟩) zY5).trans x15
     have T7 := hid (T5.out.below B7.out)
     have zY7 : Yn < (w6.setCell ⟨g, k * 3 + 1, none⟩ (.int .i64 tt)).heap.size := Nat.lt_of_lt_of_le zY5 B7.out.size
     generalize Ents.encR (Forks.turnAt xl k tt) leaf = ER at *
     obtain ⟨bs, er⟩ := ER
     dsimp only at hF1 qe
     clear qc o6 b6 o7 x05 x15 O7 hts E5 T5 zY5
     go_wp2_with fail
     clear f6 c6c o6' x17 hg5
     have y07 := x07
     clear x07
     generalize w6.setCell _ _ = w7 at *
     refine qe.out.mono ?_
     rintro e w8 ⟨rfl, b8⟩
     have T8 := hid (T7.out.below b8)
     have x08 := (b8.cell (p := ⟨Yn, 0, none⟩) zY7).trans y07
     clear b8 qe T7 y07 zY7
     obtain ⟨Lb', Tb, lv', rv'', hl', hw'⟩ := hW5.out w8 T8.out.bel
     have cX := hw'.cellX.2.2.2
     have hTX : (Forks.texts v)[nb]? = some (Forks.textOf v nb) := Forks.texts_at v nb (by omega)
     have cV := hw'.tb.cellAt nb (v := .string (Forks.textOf v nb)) (by rw [List.getElem?_map, hTX]; rfl)
     have n0 : (0 : Int) ≤ (nb : Int) := by omega
     have n1 : (nb : Int) < 4096 := by omega
     generalize Forks.textOf v nb = S2 at *
     generalize txt bs = S1 at *
     clear hw' hTX hW5
     by_cases her : er = 0
     ·cases hcmp : S1.toList == S2.toList
      case false =>
       have hC1 : Hid ((L.take (i + 1)).foldl (Forks.turnN v leaf p tt) [] = [((nb : Int), S1)]) := hid (by rw [hF1.out, if_pos ⟨her, hcmp⟩])
       subst her
       clear hF1
       go_upto_region 15 with fail
       go_quiet (fail)
       have T9 := hid (T8.out.below (Below.drewN' (Below.refl _ _) nq))
       have x09 : (w8.drewN nq).cell? ⟨Yn, 0, none⟩ = some (.int .i64 (nb : Int)) := x08
       clear x08 cX cV T8
       generalize w8.drewN nq = w9 at *
       have bA : Below w9.heap.size w9 (w9.alloc (.cells #[.int .i64 (nb : Int), .string S1] 72)) := (Below.refl _ _).alloc (Nat.le_refl _) _
       have TA := T9.out.below bA
       have hlit : OwnChgs w.heap.size (w9.alloc (.cells #[.int .i64 (nb : Int), .string S1] 72)) (.slice (some ⟨w9.heap.size, 0, none⟩) 1 1) [((nb : Int), S1)] := World.ownsRow_lit w9 #[.int .i64 (nb : Int), .string S1] 1 T9.out.bel.size (by unfold maxLen; omega) rfl
       have T10 := hid (TA.setCh hlit)
       obtain ⟨-, -, -, -, y2, -, yF⟩ := TA.cells
       have yf2 := yF 2
       clear TA hlit bA yF
       go_wp2_with fail
       go_roundw
       case rel => exact ⟨i + 1, _, by go_num, by omega, hid (by rw [hC1.out]; exact T10.out)⟩
       case measure => simp [intOf]; omega
      case true =>
       have hC1 : Hid ((L.take (i + 1)).foldl (Forks.turnN v leaf p tt) [] = (L.take i).foldl (Forks.turnN v leaf p tt) []) := hid (by rw [hF1.out, if_neg (fun h => by rw [hcmp] at h; cases h.2)])
       subst her
       clear hF1
       go_upto_region 15 with fail
       go_quiet (fail)
       go_wp2_with fail
       go_roundw
       case rel => exact ⟨i + 1, _, by go_num, by omega, hid (by rw [hC1.out]; exact T8.out.below (Below.drewN' (Below.refl _ _) _))⟩
       case measure => simp [intOf]; omega
     ·have hC1 : Hid ((L.take (i + 1)).foldl (Forks.turnN v leaf p tt) [] = (L.take i).foldl (Forks.turnN v leaf p tt) []) := hid (by rw [hF1.out, if_neg (fun h => her h.1)])
      have herb : (er == 0) = false := by rw [beq_eq_false_iff_ne]; exact her
      clear hF1
      go_upto_region 15 with fail
      go_quiet (fail)
      go_wp2_with fail
      go_roundw
      case rel => exact ⟨i + 1, _, by go_num, by omega, hid (by rw [hC1.out]; exact T8.out.below (Below.drewN' (Below.refl _ _) _))⟩
      case measure => simp [intOf]; omega
    ·have I1 : I < 0 := by omega
     have hC1 : Hid ((L.take (i + 1)).foldl (Forks.turnN v leaf p tt) [] = (L.take i).foldl (Forks.turnN v leaf p tt) []) := hid (by rw [hF1.out, if_neg hI])
     clear hF1 hil hI
     go_wp2_with fail
     go_roundw
     case rel => exact ⟨i + 1, _, by go_num, by omega, hid (by rw [hC1.out]; exact T5.out)⟩
     case measure => simp [intOf]; omega
   ·obtain rfl : i = L.length := by omega
    have hst2 := hst.out
    rw [List.take_length] at hst2
    have T9 := hid hst2
    obtain ⟨ac, cc, rfl⟩ := hst2.ch.slice
    generalize hCC : L.foldl (Forks.turnN v leaf p tt) [] = CC at *
    generalize hnc : CC.length = nc at *
    clear hst hst2 hCC
    have FO := hid (T9.out.out (r := RT) hRT.out)
    obtain ⟨r0, r1, r2, r3, rF⟩ := T9.out.cellsR
    obtain ⟨-, -, y0, y1, y2, y3, -⟩ := T9.out.cells
    have rf0 := rF 0
    have rf1 := rF 1
    have rf2 := rF 2
    have rf3 := rF 3
    have n0 := cell_of_row _ _ 0 _ _ _ FO.out.2
    have n1 := cell_of_row _ _ 1 _ _ _ FO.out.2
    have n2 := cell_of_row _ _ 2 _ _ _ FO.out.2
    have n3 := cell_of_row _ _ 3 _ _ _ FO.out.2
    unfold put4 at FO n0 n1 n2 n3
    clear rF
    go_wp2_with fail
    refine bodyPost_ret (v := setV (d : Int) (.slice a2 root.length c2) (.slice ac nc cc) (.slice none 0 0)) ?_ rfl FO.out.1
    first | (simp [results, Tryz.results61, go_sem, n0, n1, n2, n3, setV]; done)
end Go.Proofs.YtgjmeeiejcbjfaaGreat
