/- Forks: Lead. (Printed by wip/gen/flead.py.) -/
import Derived.Test.YtgjmeeiejcbjfaaGreatH33
import Derived.Deep.RegionLaw
set_option linter.unusedSimpArgs false
set_option linter.unusedVariables false
namespace Go.Proofs.YtgjmeeiejcbjfaaGreat
open Go.Lib (hid)
open Go Go.RowKit
namespace Forks
open Go.Lib (hid)
def leadAt (v : V) (d : Nat) (fr : Int) : Nat := (idxOf (fun L : List Node => L.any fun n => n.1 == fr) (lvls v d) + 1).toNat
def leadV (v : V) (d : Nat) (root R : EL) (fr tt : Int) : Except Int SetR :=
 if fr < 0 then .error 4
 else if 4096 ≤ fr then .error 4
 else if has v fr.toNat = false then .error 4
 else if tt < 1 then .error 2
 else if 4096 ≤ tt then .error 2
 else if tt ≠ fr ∧ has v tt.toNat = true then .error 2
 else if taken R tt = true then .error 2
 else if tt = fr then .ok ⟨d, root, [], []⟩
 else .ok ⟨d, (turnedT v d root (leadAt v d fr) (fun x => x.2.1 == fr) tt).root, leadSort (turnedT v d root (leadAt v d fr) (fun x => x.2.1 == fr) tt).changes (tt, textOf v fr.toNat), [fr]⟩
def leadT (dk : Disk) (depth : Int) (root : EL) (fr tt : Int) : Except Int SetR :=
 match walkT dk depth root with
 | .error k => .error k
 | .ok x => leadV x.1 depth.toNat root x.2 fr tt
theorem leadAt_le (v : V) (d : Nat) (fr : Int) : leadAt v d fr ≤ d := by
 unfold leadAt
 rcases idxOf_cases (fun L : List Node => L.any fun n => n.1 == fr) (lvls v d) with h | ⟨j, hj, h⟩
 ·rw [h]; simp
 ·rw [h]
  rw [lvls_len] at hj
  omega
theorem lvl_has {v : V} {k : Nat} : ∀ n ∈ lvl v k, has v n.1.toNat = true := fun n hn => by
 obtain ⟨x, hx, rfl⟩ := List.mem_map.1 hn
 exact List.any_eq_true.2 ⟨x, (List.mem_filter.1 hx).1, by simp⟩
theorem turn_mem (v : V) (leaf : Bool) (p : E → Bool) (tt : Int) : ∀ (L : List Node) (c : CL) (x : Int × ByteArray), x ∈ L.foldl (turnN v leaf p tt) c → x ∈ c ∨ ∃ n ∈ L, x.1 = n.1
 | [], c, x, h => .inl h
 | n :: L, c, x, h => by
  rcases turn_mem v leaf p tt L _ x h with h | ⟨m, hm, e⟩
  ·unfold turnN at h
   split at h
   ·split at h
    ·rw [List.mem_singleton] at h
     exact .inr ⟨n, by simp, by rw [h]⟩
    ·exact .inl h
   ·exact .inl h
  ·exact .inr ⟨m, by simp [hm], e⟩
theorem turned_chg (v : V) (hg : Good v) (d : Nat) (root : EL) (level : Nat) (p : E → Bool) (tt : Int) : (turnedT v d root level p tt).changes.length ≤ 1 ∧ (∀ x ∈ (turnedT v d root level p tt).changes, 1 ≤ x.1 ∧ x.1 ≤ 4095 ∧ has v x.1.toNat = true) ∧ (turnedT v d root level p tt).depth = d ∧ (turnedT v d root level p tt).freed = [] ∧ (turnedT v d root level p tt).root.length = root.length := by
 unfold turnedT
 split
 ·refine ⟨by simp, (fun x h => by cases h), rfl, rfl, ?_⟩
  dsimp only
  split
  ·exact turnAt_len _ _ _
  ·rfl
 ·refine ⟨turn_len v _ p tt _ [] (by simp), fun x hx => ?_, rfl, rfl, rfl⟩
  rcases turn_mem v _ p tt _ [] x hx with h | ⟨n, hn, e⟩
  ·cases h
  ·have := (lvl_ok hg (level + 1)).2.1 n hn
   rw [e]
   exact ⟨this.1, this.2, lvl_has n hn⟩
end Forks
theorem toC_of : ∀ (l : CL), (∀ x ∈ l, 0 ≤ x.1 ∧ x.1 < 4096) → ∃ f : List FC, toC f = l ∧ f.length = l.length ∧ ∀ a ∈ f, ∃ x ∈ l, x.1 = (a.1.val : Int)
 | [], _ => ⟨[], rfl, rfl, (fun a h => by cases h)⟩
 | x :: l, h => by
  obtain ⟨f, h1, h2, h3⟩ := toC_of l (fun y hy => h y (by simp [hy]))
  have hx := h x (by simp)
  refine ⟨(⟨x.1.toNat, by omega⟩, x.2) :: f, ?_, by simp [h2], fun a ha => ?_⟩
  ·show (((x.1.toNat : Nat) : Int), x.2) :: toC f = _
   rw [h1, show ((x.1.toNat : Nat) : Int) = x.1 by omega]
  ·rcases List.mem_cons.1 ha with rfl | ha
   ·exact ⟨x, by simp, by dsimp only; omega⟩
   ·obtain ⟨y, hy, e⟩ := h3 a ha
    exact ⟨y, by simp [hy], e⟩
theorem TSt.pushCh {w0 w w5 : World} {Z0 Z1 Y d : Nat} {rv rv' cv v' : Value} {l : EL} {C C' : CL} (h : TSt w0 Z0 Z1 Y d rv rv' cv l C w) (hg : w.grownBy w5 cv.ownBlock) (hown : OwnChgs w0.heap.size w5 v' C') :
  TSt w0 Z0 Z1 Y d rv rv' v' l C' (w5.setCell ⟨Y, 2, none⟩ v') ∧ w5.heap[Y]? = some (.cells #[.int .i64 (d : Int), rv', cv, .slice none 0 0] 58 (0, 0)) ∧ ∀ T, T ≠ 72 → T ≠ 58 → KeepT T w (w5.setCell ⟨Y, 2, none⟩ v') := by
 have ho : w.ownsRow w0.heap.size 72 2 cv C.length (ccells C) := h.ch
 have k := fun T (hT : T ≠ 72) => KeepT.grown (T := T) ho hg hT
 have hy := k _ (by decide) _ _ _ h.y
 have s := fun T (hT : T ≠ 58) => KeepT.set (T := T) (u := v') (a := ⟨Y, 2, none⟩) hy hT
 have y5 := block_setCellS hy 2 v'
 refine ⟨⟨s _ (by decide) _ _ _ (k _ (by decide) _ _ _ h.tree), (Below.heap_setCell _ _ _ _ h.ne.symm).trans (k _ (by decide) _ _ _ h.res), by simpa using y5, own_keepT (own_keepT h.root (k _ (by decide))) (s _ (by decide)), own_keepT hown (s _ (by decide)), ?_, h.lo0, h.lo1, h.loY, h.ne⟩, hy, fun T h1 h2 => (k T h1).trans (s T h2)⟩
 exact (h.bel.grown hg h.bel.size (fun k hk => (ho.lt k hk).1)).setCell h.loY _
theorem TSt.sorted {w0 w w5 : World} {Z0 Z1 Y d : Nat} {rv rv' cv : Value} {l : EL} {C C' : CL} (h : TSt w0 Z0 Z1 Y d rv rv' cv l C w) (hk : ∀ T, T ≠ 72 → KeepT T w w5) (hb : Below w0.heap.size w w5) (hown : OwnChgs w0.heap.size w5 cv C') : TSt w0 Z0 Z1 Y d rv rv' cv l C' w5 :=
 ⟨hk _ (by decide) _ _ _ h.tree, hk _ (by decide) _ _ _ h.res, hk _ (by decide) _ _ _ h.y, own_keepT h.root (hk _ (by decide)), hown, h.bel.trans hb, h.lo0, h.lo1, h.loY, h.ne⟩
structure LdSt (w0 : World) (depth : Int) (rv : Value) (fr : Int) (w : World) : Prop where
 tree : w.heap[w0.heap.size]? = some (.cells #[.int .i64 depth, rv] 35 (0, 0))
 fr : w.heap[w0.heap.size + 1]? = some (.cells #[.int .i64 fr] 3 (0, 0))
 res : w.heap[w0.heap.size + 1 + 1]? = some (.cells #[.int .i64 0, .slice none 0 0, .slice none 0 0, .slice none 0 0] 58 (0, 0))
 bel : Below w0.heap.size w0 w
variable {w0 w w' : World} {depth : Int} {rv : Value} {fr : Int}
theorem LdSt.below (h : LdSt w0 depth rv fr w) (hb : Below w.heap.size w w') : LdSt w0 depth rv fr w' :=
 ⟨by rw [hb.block _ (lt_of_block h.tree)]; exact h.tree, by rw [hb.block _ (lt_of_block h.fr)]; exact h.fr, by rw [hb.block _ (lt_of_block h.res)]; exact h.res, h.bel.trans (hb.mono h.bel.size)⟩
theorem LdSt.cells (h : LdSt w0 depth rv fr w) : w.cell? ⟨w0.heap.size, 0, none⟩ = some (.int .i64 depth) ∧ w.cell? ⟨w0.heap.size, 1, none⟩ = some rv ∧ w.cell? ⟨w0.heap.size + 1, 0, none⟩ = some (.int .i64 fr) :=
 ⟨cell_of_row w _ 0 _ _ _ h.tree, cell_of_row w _ 1 _ _ _ h.tree, cell_of_row w _ 0 _ _ _ h.fr⟩
theorem WAtR.textAt {B X d : Nat} {rdv : Value} {v : Forks.V} {R : EL} (h : WAtR B X w rdv d v R) (b : Nat) (hb : b < 4096) : ∃ Tb, w.cell? ⟨X, 3, none⟩ = some (.slice (some ⟨Tb, 0, none⟩) 4096 4096) ∧ w.cell? ⟨Tb, b, none⟩ = some (.string (Forks.textOf v b)) := by
 obtain ⟨Lb, Tb, lv, rv, hl, hw⟩ := h
 exact ⟨Tb, hw.cellX.2.2.2, hw.tb.cellAt b (by rw [List.getElem?_map, Forks.texts_at v b hb]; rfl)⟩
theorem text_empty {v : Forks.V} (hg : Forks.Good v) (b : Nat) (r : Bool) (hr : Forks.has v b = r) : (Forks.textOf v b).toList.isEmpty = !r := by
 have h := Forks.textOf_has hg b
 rw [hr] at h
 cases r
 ·have h0 : (Forks.textOf v b).size = 0 := h.mpr rfl
  show _ = true
  rw [List.isEmpty_iff, ByteArray.toList_eq]
  exact List.eq_nil_of_length_eq_zero (by rw [list_length, h0])
 ·show _ = false
  cases he : (Forks.textOf v b).toList.isEmpty
  ·rfl
  ·rw [List.isEmpty_iff, ByteArray.toList_eq] at he
   have h0 : (Forks.textOf v b).size = 0 := by rw [← list_length, he]; rfl
   exact absurd (h.mp h0) (by decide)
set_option maxRecDepth 100000 in
set_option maxHeartbeats 16000000 in
theorem lead_any (w : World) (pl pb : Nat) (dk : Forks.Disk) (depth : Int) (rv : Value) (root : EL) (hs : SmallsE root) (h : EntsAt w rv root) (hl : root.length ≤ 1000000) (hd : -9223372036854775808 ≤ depth ∧ depth ≤ 9223372036854775807) (hdk : DiskAt w.heap.size w (RDV pl pb) dk) (hds : ∀ b s, dk.rd b = some s → s.size ≤ 140737488351232)
  (fr tt : Int) (hfr : -9223372036854775808 ≤ fr ∧ fr ≤ 9223372036854775807) (htt : -9223372036854775808 ≤ tt ∧ tt ≤ 9223372036854775807) :
  Calls Tryz.prog 25 #[.agg #[.int .i64 depth, rv], RDV pl pb, .int .i64 fr, .int .i64 tt] w (SetOut w (Forks.leadT dk depth root fr tt)) := by
 have H := hid h
 have HDK := hid hdk
 have HDS := hid hds
 obtain ⟨ar, cr, rfl⟩ := h.form
 have R1 : Hid (LdSt w depth (.slice ar root.length cr) fr (((w.alloc (.cells #[.int .i64 depth, .slice ar root.length cr] 35)).alloc (.cells #[.int .i64 fr] 3)).alloc (.cells #[.int .i64 0, .slice none 0 0, .slice none 0 0, .slice none 0 0] 58))) := hid (by
  have h0 := heap_alloc_new w (.cells #[.int .i64 depth, .slice ar root.length cr] 35)
  have h1 := heap_alloc_new (w.alloc (.cells #[.int .i64 depth, .slice ar root.length cr] 35)) (.cells #[.int .i64 fr] 3)
  rw [asz] at h1
  have h2 := heap_alloc_new ((w.alloc (.cells #[.int .i64 depth, .slice ar root.length cr] 35)).alloc (.cells #[.int .i64 fr] 3)) (.cells #[.int .i64 0, .slice none 0 0, .slice none 0 0, .slice none 0 0] 58)
  rw [asz, asz] at h2
  exact ⟨heap_alloc_at (heap_alloc_at h0 _) _, heap_alloc_at h1 _, h2, (((Below.refl _ _).alloc (Nat.le_refl _) _).alloc (by simp) _).alloc (by simp; omega) _⟩)
 have qw := hid (walk_any pl pb dk depth (.slice ar root.length cr) root hs (H.out.ext.below (B := 0) R1.out.bel) (by omega) hd ((HDK.out.below R1.out.bel).mono R1.out.bel.size) hds)
 generalize hRT : Forks.leadT dk depth root fr tt = RT at *
 have HRT := hid hRT
 clear h hdk hds hRT
 cases hW : Forks.walkT dk depth root with
 | error k =>
  rw [hW] at qw
  have hRT2 : Hid (RT = .error k) := hid (by rw [← HRT.out]; unfold Forks.leadT; rw [hW])
  clear hW
  go_enter Tryz.func25, Tryz.ntmps25
  go_wp2_with fail
  generalize ((w.alloc _).alloc _).alloc _ = w1 at *
  obtain ⟨t0, t1, -⟩ := R1.out.cells
  go_wp2_with fail
  refine qw.out.mono ?_
  rintro e w3 ⟨b3, rfl, hk⟩
  have R3 := hid (R1.out.below b3)
  have hkb : (k != 0) = true := by rw [bne_iff_ne]; exact hk
  clear qw b3 t0 t1
  have RES := R3.out.res
  have z0 := cell_of_row _ _ 0 _ _ _ RES
  have z1 := cell_of_row _ _ 1 _ _ _ RES
  have z2 := cell_of_row _ _ 2 _ _ _ RES
  have z3 := cell_of_row _ _ 3 _ _ _ RES
  have zf0 := free_zero RES 0
  have zf1 := free_zero RES 1
  have zf2 := free_zero RES 2
  have zf3 := free_zero RES 3
  have FE := hid (set_err (w0 := w) (w := w3) (Z := w.heap.size + 1 + 1) (r := RT) (k := k) R3.out.bel (by omega) hRT2.out hk)
  obtain ⟨n0, n1, n2, n3⟩ := zero4_cells RES
  unfold zero4 at FE n0 n1 n2 n3
  clear RES hk
  go_wp2_with fail
  refine bodyPost_ret (v := .tuple #[setV 0 (.slice none 0 0) (.slice none 0 0) (.slice none 0 0), .int .i64 k]) ?_ rfl FE.out
  first | (simp [results, Tryz.results25, go_sem, n0, n1, n2, n3, setV]; done)
 | ok x =>
  obtain ⟨v, R⟩ := x
  rw [hW] at qw
  obtain ⟨hrok, hRr, hmr⟩ := Forks.walkT_okr hW
  obtain ⟨d, rfl⟩ : ∃ d : Nat, depth = (d : Int) := ⟨depth.toNat, by have := hrok.1; omega⟩
  have hd4 : d ≤ 4 := by have := hrok.2.1; omega
  rw [Int.toNat_natCast] at qw
  have hRl := Forks.row_len hRr
  have HRR := hid hRr
  have hRT1 : Hid (RT = Forks.leadV v d root R fr tt) := hid (by rw [← HRT.out]; unfold Forks.leadT; rw [hW]; simp)
  unfold Forks.leadV at hRT1
  clear hW hRr hmr hrok
  by_cases hf1 : fr < 0
  ·have dq1 : decide (fr < 0) = true := decide_eq_true hf1
   have hRT2 : Hid (RT = .error 4) := hid (by rw [hRT1.out, if_pos hf1])
   go_enter Tryz.func25, Tryz.ntmps25
   go_wp2_with fail
   generalize ((w.alloc _).alloc _).alloc _ = w1 at *
   obtain ⟨t0, t1, -⟩ := R1.out.cells
   go_wp2_with fail
   refine qw.out.mono ?_
   rintro e w3 ⟨b3, X, rfl, hWX, hgd⟩
   have R3 := hid (R1.out.below b3)
   have HWX := hid hWX
   have HG := hid hgd
   obtain ⟨s0, s1, s2⟩ := R3.out.cells
   clear qw b3 t0 t1 hWX hgd
   go_upto_region 4 with fail
   go_quiet (fail)
   have R4 := hid (R3.out.below (Below.drewN' (Below.refl _ _) nq))
   clear R3 s0 s1 s2
   generalize w3.drewN nq = w4 at *
   have RES := R4.out.res
   have z0 := cell_of_row _ _ 0 _ _ _ RES
   have z1 := cell_of_row _ _ 1 _ _ _ RES
   have z2 := cell_of_row _ _ 2 _ _ _ RES
   have z3 := cell_of_row _ _ 3 _ _ _ RES
   have zf0 := free_zero RES 0
   have zf1 := free_zero RES 1
   have zf2 := free_zero RES 2
   have zf3 := free_zero RES 3
   have FE := hid (set_err (w0 := w) (w := w4) (Z := w.heap.size + 1 + 1) (r := RT) (k := 4) R4.out.bel (by omega) hRT2.out (by decide))
   obtain ⟨n0, n1, n2, n3⟩ := zero4_cells RES
   unfold zero4 at FE n0 n1 n2 n3
   clear RES
   go_wp2_with fail
   refine bodyPost_ret (v := .tuple #[setV 0 (.slice none 0 0) (.slice none 0 0) (.slice none 0 0), .int .i64 4]) ?_ rfl FE.out
   first | (simp [results, Tryz.results25, go_sem, n0, n1, n2, n3, setV]; done)
  by_cases hf2 : 4096 ≤ fr
  ·have dq1 : decide (fr < 0) = false := decide_eq_false hf1
   have dq2 : decide (4096 ≤ fr) = true := decide_eq_true hf2
   have hRT2 : Hid (RT = .error 4) := hid (by rw [hRT1.out, if_neg hf1, if_pos hf2])
   go_enter Tryz.func25, Tryz.ntmps25
   go_wp2_with fail
   generalize ((w.alloc _).alloc _).alloc _ = w1 at *
   obtain ⟨t0, t1, -⟩ := R1.out.cells
   go_wp2_with fail
   refine qw.out.mono ?_
   rintro e w3 ⟨b3, X, rfl, hWX, hgd⟩
   have R3 := hid (R1.out.below b3)
   have HWX := hid hWX
   have HG := hid hgd
   obtain ⟨s0, s1, s2⟩ := R3.out.cells
   clear qw b3 t0 t1 hWX hgd
   go_upto_region 4 with fail
   go_quiet (fail)
   have R4 := hid (R3.out.below (Below.drewN' (Below.refl _ _) nq))
   clear R3 s0 s1 s2
   generalize w3.drewN nq = w4 at *
   have RES := R4.out.res
   have z0 := cell_of_row _ _ 0 _ _ _ RES
   have z1 := cell_of_row _ _ 1 _ _ _ RES
   have z2 := cell_of_row _ _ 2 _ _ _ RES
   have z3 := cell_of_row _ _ 3 _ _ _ RES
   have zf0 := free_zero RES 0
   have zf1 := free_zero RES 1
   have zf2 := free_zero RES 2
   have zf3 := free_zero RES 3
   have FE := hid (set_err (w0 := w) (w := w4) (Z := w.heap.size + 1 + 1) (r := RT) (k := 4) R4.out.bel (by omega) hRT2.out (by decide))
   obtain ⟨n0, n1, n2, n3⟩ := zero4_cells RES
   unfold zero4 at FE n0 n1 n2 n3
   clear RES
   go_wp2_with fail
   refine bodyPost_ret (v := .tuple #[setV 0 (.slice none 0 0) (.slice none 0 0) (.slice none 0 0), .int .i64 4]) ?_ rfl FE.out
   first | (simp [results, Tryz.results25, go_sem, n0, n1, n2, n3, setV]; done)
  obtain ⟨f, rfl⟩ : ∃ f : Nat, fr = (f : Int) := ⟨fr.toNat, by omega⟩
  rw [Int.toNat_natCast] at hRT1
  have f0 : (0 : Int) ≤ (f : Int) := by omega
  have f1 : (f : Int) < 4096 := by omega
  have dq1 : decide ((f : Int) < 0) = false := decide_eq_false hf1
  have dq2 : decide ((4096 : Int) ≤ (f : Int)) = false := decide_eq_false hf2
  rw [if_neg hf1, if_neg hf2] at hRT1
  clear hf1 hf2 hfr
  cases hhf : Forks.has v f
  case false =>
   have hRT2 : Hid (RT = .error 4) := hid (by rw [hRT1.out, if_pos hhf])
   go_enter Tryz.func25, Tryz.ntmps25
   go_wp2_with fail
   generalize ((w.alloc _).alloc _).alloc _ = w1 at *
   obtain ⟨t0, t1, -⟩ := R1.out.cells
   go_wp2_with fail
   refine qw.out.mono ?_
   rintro e w3 ⟨b3, X, rfl, hWX, hgd⟩
   have R3 := hid (R1.out.below b3)
   have HWX := hid hWX
   have HG := hid hgd
   obtain ⟨s0, s1, s2⟩ := R3.out.cells
   clear qw b3 t0 t1 hWX hgd
   go_upto_region 4 with fail
   obtain ⟨Tb, x3, xt⟩ := HWX.out.textAt f (by omega)
   have hem := text_empty HG.out f _ hhf
   have hem2 : (Forks.textOf v f).toList.isEmpty = true := hem
   clear hem
   generalize Forks.textOf v f = S1 at *
   go_quiet (fail)
   have R4 := hid (R3.out.below (Below.drewN' (Below.refl _ _) nq))
   clear R3 s0 s1 s2 x3 xt hem2
   generalize w3.drewN nq = w4 at *
   have RES := R4.out.res
   have z0 := cell_of_row _ _ 0 _ _ _ RES
   have z1 := cell_of_row _ _ 1 _ _ _ RES
   have z2 := cell_of_row _ _ 2 _ _ _ RES
   have z3 := cell_of_row _ _ 3 _ _ _ RES
   have zf0 := free_zero RES 0
   have zf1 := free_zero RES 1
   have zf2 := free_zero RES 2
   have zf3 := free_zero RES 3
   have FE := hid (set_err (w0 := w) (w := w4) (Z := w.heap.size + 1 + 1) (r := RT) (k := 4) R4.out.bel (by omega) hRT2.out (by decide))
   obtain ⟨n0, n1, n2, n3⟩ := zero4_cells RES
   unfold zero4 at FE n0 n1 n2 n3
   clear RES
   go_wp2_with fail
   refine bodyPost_ret (v := .tuple #[setV 0 (.slice none 0 0) (.slice none 0 0) (.slice none 0 0), .int .i64 4]) ?_ rfl FE.out
   first | (simp [results, Tryz.results25, go_sem, n0, n1, n2, n3, setV]; done)
  case true =>
   rw [if_neg (by rw [hhf]; decide)] at hRT1
   by_cases ht1 : tt < 1
   ·have hRT2 : Hid (RT = .error 2) := hid (by rw [hRT1.out, if_pos ht1])
    go_enter Tryz.func25, Tryz.ntmps25
    go_wp2_with fail
    generalize ((w.alloc _).alloc _).alloc _ = w1 at *
    obtain ⟨t0, t1, -⟩ := R1.out.cells
    go_wp2_with fail
    refine qw.out.mono ?_
    rintro e w3 ⟨b3, X, rfl, hWX, hgd⟩
    have R3 := hid (R1.out.below b3)
    have HWX := hid hWX
    have HG := hid hgd
    obtain ⟨s0, s1, s2⟩ := R3.out.cells
    clear qw b3 t0 t1 hWX hgd
    go_upto_region 4 with fail
    obtain ⟨Tb, x3, xt⟩ := HWX.out.textAt f (by omega)
    have hem := text_empty HG.out f _ hhf
    have hem2 : (Forks.textOf v f).toList.isEmpty = false := hem
    clear hem
    generalize hS1 : Forks.textOf v f = S1 at *
    have HS1 := hid hS1
    clear hS1
    go_quiet (fail)
    have R4 := hid (R3.out.below (Below.drewN' (Below.refl _ _) nq))
    have W4 := hid (HWX.out.below (Below.drewN' (Below.refl _ _) nq))
    clear R3 s0 s1 s2 x3 xt hem2 HWX
    generalize w3.drewN nq = w4 at *
    obtain ⟨s0, s1, s2⟩ := R4.out.cells
    have RES := R4.out.res
    have z0 := cell_of_row _ _ 0 _ _ _ RES
    have z1 := cell_of_row _ _ 1 _ _ _ RES
    have z2 := cell_of_row _ _ 2 _ _ _ RES
    have z3 := cell_of_row _ _ 3 _ _ _ RES
    have zf0 := free_zero RES 0
    have zf1 := free_zero RES 1
    have zf2 := free_zero RES 2
    have zf3 := free_zero RES 3
    have FE := hid (set_err (w0 := w) (w := w4) (Z := w.heap.size + 1 + 1) (r := RT) (k := 2) R4.out.bel (by omega) hRT2.out (by decide))
    obtain ⟨n0, n1, n2, n3⟩ := zero4_cells RES
    unfold zero4 at FE n0 n1 n2 n3
    clear RES
    go_wp2_with fail
    refine bodyPost_ret (v := .tuple #[setV 0 (.slice none 0 0) (.slice none 0 0) (.slice none 0 0), .int .i64 2]) ?_ rfl FE.out
    first | (simp [results, Tryz.results25, go_sem, n0, n1, n2, n3, setV]; done)
   by_cases ht2 : 4096 ≤ tt
   ·have hRT2 : Hid (RT = .error 2) := hid (by rw [hRT1.out, if_neg ht1, if_pos ht2])
    go_enter Tryz.func25, Tryz.ntmps25
    go_wp2_with fail
    generalize ((w.alloc _).alloc _).alloc _ = w1 at *
    obtain ⟨t0, t1, -⟩ := R1.out.cells
    go_wp2_with fail
    refine qw.out.mono ?_
    rintro e w3 ⟨b3, X, rfl, hWX, hgd⟩
    have R3 := hid (R1.out.below b3)
    have HWX := hid hWX
    have HG := hid hgd
    obtain ⟨s0, s1, s2⟩ := R3.out.cells
    clear qw b3 t0 t1 hWX hgd
    go_upto_region 4 with fail
    obtain ⟨Tb, x3, xt⟩ := HWX.out.textAt f (by omega)
    have hem := text_empty HG.out f _ hhf
    have hem2 : (Forks.textOf v f).toList.isEmpty = false := hem
    clear hem
    generalize hS1 : Forks.textOf v f = S1 at *
    have HS1 := hid hS1
    clear hS1
    go_quiet (fail)
    have R4 := hid (R3.out.below (Below.drewN' (Below.refl _ _) nq))
    have W4 := hid (HWX.out.below (Below.drewN' (Below.refl _ _) nq))
    clear R3 s0 s1 s2 x3 xt hem2 HWX
    generalize w3.drewN nq = w4 at *
    obtain ⟨s0, s1, s2⟩ := R4.out.cells
    have RES := R4.out.res
    have z0 := cell_of_row _ _ 0 _ _ _ RES
    have z1 := cell_of_row _ _ 1 _ _ _ RES
    have z2 := cell_of_row _ _ 2 _ _ _ RES
    have z3 := cell_of_row _ _ 3 _ _ _ RES
    have zf0 := free_zero RES 0
    have zf1 := free_zero RES 1
    have zf2 := free_zero RES 2
    have zf3 := free_zero RES 3
    have FE := hid (set_err (w0 := w) (w := w4) (Z := w.heap.size + 1 + 1) (r := RT) (k := 2) R4.out.bel (by omega) hRT2.out (by decide))
    obtain ⟨n0, n1, n2, n3⟩ := zero4_cells RES
    unfold zero4 at FE n0 n1 n2 n3
    clear RES
    go_wp2_with fail
    refine bodyPost_ret (v := .tuple #[setV 0 (.slice none 0 0) (.slice none 0 0) (.slice none 0 0), .int .i64 2]) ?_ rfl FE.out
    first | (simp [results, Tryz.results25, go_sem, n0, n1, n2, n3, setV]; done)
   obtain ⟨t, rfl⟩ : ∃ t : Nat, tt = (t : Int) := ⟨tt.toNat, by omega⟩
   rw [Int.toNat_natCast, if_neg ht1, if_neg ht2] at hRT1
   have tn0 : (0 : Int) ≤ (t : Int) := by omega
   have tn1 : (t : Int) < 4096 := by omega
   have tt1 : ¬ (t : Int) < 1 := ht1
   have tt2 : ¬ (4096 : Int) ≤ (t : Int) := ht2
   clear ht1 ht2 htt
   by_cases htf : (t : Int) = (f : Int)
   ·have hbf : ((t : Int) == (f : Int)) = true := by rw [beq_iff_eq]; exact htf
    have hbn : ((t : Int) != (f : Int)) = false := by rw [bne_eq_false_iff_eq]; exact htf
    rw [if_neg (fun h => h.1 htf)] at hRT1
    cases htk : Forks.taken R (t : Int)
    case true =>
     have hRT2 : Hid (RT = .error 2) := hid (by rw [hRT1.out, if_pos htk])
     clear htf
     go_enter Tryz.func25, Tryz.ntmps25
     go_wp2_with fail
     generalize ((w.alloc _).alloc _).alloc _ = w1 at *
     obtain ⟨t0, t1, -⟩ := R1.out.cells
     go_wp2_with fail
     refine qw.out.mono ?_
     rintro e w3 ⟨b3, X, rfl, hWX, hgd⟩
     have R3 := hid (R1.out.below b3)
     have HWX := hid hWX
     have HG := hid hgd
     obtain ⟨s0, s1, s2⟩ := R3.out.cells
     clear qw b3 t0 t1 hWX hgd
     go_upto_region 4 with fail
     obtain ⟨Tb, x3, xt⟩ := HWX.out.textAt f (by omega)
     have hem := text_empty HG.out f _ hhf
     have hem2 : (Forks.textOf v f).toList.isEmpty = false := hem
     clear hem
     generalize hS1 : Forks.textOf v f = S1 at *
     have HS1 := hid hS1
     clear hS1
     go_quiet (fail)
     have R4 := hid (R3.out.below (Below.drewN' (Below.refl _ _) nq))
     have W4 := hid (HWX.out.below (Below.drewN' (Below.refl _ _) nq))
     clear R3 s0 s1 s2 x3 xt hem2 HWX
     generalize w3.drewN nq = w4 at *
     obtain ⟨s0, s1, s2⟩ := R4.out.cells
     obtain ⟨uv, cX2, ho4⟩ := W4.out.rowv
     obtain ⟨auv, cuv, rfl⟩ := OwnExts.slice ho4
     have qt := hid (taken_any (.slice auv R.length cuv) R (t : Int) w4 (fun x hx => by have := Forks.row_small HRR.out x hx; unfold SmallE; omega) (OwnExts.at ho4) (by omega) ⟨by omega, by omega⟩ _ htk)
     clear ho4
     go_wp2_with fail
     refine qt.out.mono ?_
     rintro e w5 ⟨rfl, b5⟩
     have R5 := hid (R4.out.below b5)
     clear b5 qt R4 s0 s1 s2 cX2
     have RES := R5.out.res
     have z0 := cell_of_row _ _ 0 _ _ _ RES
     have z1 := cell_of_row _ _ 1 _ _ _ RES
     have z2 := cell_of_row _ _ 2 _ _ _ RES
     have z3 := cell_of_row _ _ 3 _ _ _ RES
     have zf0 := free_zero RES 0
     have zf1 := free_zero RES 1
     have zf2 := free_zero RES 2
     have zf3 := free_zero RES 3
     have FE := hid (set_err (w0 := w) (w := w5) (Z := w.heap.size + 1 + 1) (r := RT) (k := 2) R5.out.bel (by omega) hRT2.out (by decide))
     obtain ⟨n0, n1, n2, n3⟩ := zero4_cells RES
     unfold zero4 at FE n0 n1 n2 n3
     clear RES
     go_wp2_with fail
     refine bodyPost_ret (v := .tuple #[setV 0 (.slice none 0 0) (.slice none 0 0) (.slice none 0 0), .int .i64 2]) ?_ rfl FE.out
     first | (simp [results, Tryz.results25, go_sem, n0, n1, n2, n3, setV]; done)
    case false =>
     have hRT2 : Hid (RT = .ok ⟨(d : Int), root, [], []⟩) := hid (by rw [hRT1.out, if_neg (by rw [htk]; decide), if_pos htf])
     clear htf
     go_enter Tryz.func25, Tryz.ntmps25
     go_wp2_with fail
     generalize ((w.alloc _).alloc _).alloc _ = w1 at *
     obtain ⟨t0, t1, -⟩ := R1.out.cells
     go_wp2_with fail
     refine qw.out.mono ?_
     rintro e w3 ⟨b3, X, rfl, hWX, hgd⟩
     have R3 := hid (R1.out.below b3)
     have HWX := hid hWX
     have HG := hid hgd
     obtain ⟨s0, s1, s2⟩ := R3.out.cells
     clear qw b3 t0 t1 hWX hgd
     go_upto_region 4 with fail
     obtain ⟨Tb, x3, xt⟩ := HWX.out.textAt f (by omega)
     have hem := text_empty HG.out f _ hhf
     have hem2 : (Forks.textOf v f).toList.isEmpty = false := hem
     clear hem
     generalize hS1 : Forks.textOf v f = S1 at *
     have HS1 := hid hS1
     clear hS1
     go_quiet (fail)
     have R4 := hid (R3.out.below (Below.drewN' (Below.refl _ _) nq))
     have W4 := hid (HWX.out.below (Below.drewN' (Below.refl _ _) nq))
     clear R3 s0 s1 s2 x3 xt hem2 HWX
     generalize w3.drewN nq = w4 at *
     obtain ⟨s0, s1, s2⟩ := R4.out.cells
     obtain ⟨uv, cX2, ho4⟩ := W4.out.rowv
     obtain ⟨auv, cuv, rfl⟩ := OwnExts.slice ho4
     have qt := hid (taken_any (.slice auv R.length cuv) R (t : Int) w4 (fun x hx => by have := Forks.row_small HRR.out x hx; unfold SmallE; omega) (OwnExts.at ho4) (by omega) ⟨by omega, by omega⟩ _ htk)
     clear ho4
     go_wp2_with fail
     refine qt.out.mono ?_
     rintro e w5 ⟨rfl, b5⟩
     have R5 := hid (R4.out.below b5)
     clear b5 qt R4 s0 s1 s2 cX2
     obtain ⟨s0, s1, s2⟩ := R5.out.cells
     have qs := hid (same_any (d : Int) (.slice ar root.length cr) root w5 (H.out.keep (.of_below R5.out.bel)) hl)
     go_wp2_with fail
     refine qs.out.mono ?_
     rintro e w6 ⟨v6, he, o6, b6⟩
     obtain ⟨a6, c6, rfl⟩ := o6.slice
     obtain rfl : e = .returned (.agg #[.int .i64 (d : Int), .slice a6 root.length c6, .slice none 0 0, .slice none 0 0]) := he
     have R6 := hid (R5.out.below b6)
     have RES := R6.out.res
     have z0 := cell_of_row _ _ 0 _ _ _ RES
     have z1 := cell_of_row _ _ 1 _ _ _ RES
     have z2 := cell_of_row _ _ 2 _ _ _ RES
     have z3 := cell_of_row _ _ 3 _ _ _ RES
     have zf0 := free_zero RES 0
     have zf1 := free_zero RES 1
     have zf2 := free_zero RES 2
     have zf3 := free_zero RES 3
     have FO := hid (set_ok (w0 := w) (Z := w.heap.size + 1 + 1) R6.out.bel (by omega) hRT2.out RES (World.ownsRow.mono o6 R5.out.bel.size) (World.ownsRow_nil _ _ _ _) (World.ownsRow_nil _ _ _ _))
     have n0 := cell_of_row _ _ 0 _ _ _ FO.out.2
     have n1 := cell_of_row _ _ 1 _ _ _ FO.out.2
     have n2 := cell_of_row _ _ 2 _ _ _ FO.out.2
     have n3 := cell_of_row _ _ 3 _ _ _ FO.out.2
     unfold put4 at FO n0 n1 n2 n3
     dsimp only at n0 n1 n2 n3
     clear o6 b6 qs RES R5 s0 s1 s2
     go_wp2_with fail
     refine bodyPost_ret (v := .tuple #[setV (d : Int) (.slice a6 root.length c6) (.slice none 0 0) (.slice none 0 0), .int .i64 0]) ?_ rfl FO.out.1
     first | (simp [results, Tryz.results25, go_sem, n0, n1, n2, n3, setV]; done)
   ·have hbf : ((t : Int) == (f : Int)) = false := by rw [beq_eq_false_iff_ne]; exact htf
    have hbn : ((t : Int) != (f : Int)) = true := by rw [bne_iff_ne]; exact htf
    cases hht : Forks.has v t
    case true =>
     have hRT2 : Hid (RT = .error 2) := hid (by rw [hRT1.out, if_pos ⟨htf, hht⟩])
     clear htf
     go_enter Tryz.func25, Tryz.ntmps25
     go_wp2_with fail
     generalize ((w.alloc _).alloc _).alloc _ = w1 at *
     obtain ⟨t0, t1, -⟩ := R1.out.cells
     go_wp2_with fail
     refine qw.out.mono ?_
     rintro e w3 ⟨b3, X, rfl, hWX, hgd⟩
     have R3 := hid (R1.out.below b3)
     have HWX := hid hWX
     have HG := hid hgd
     obtain ⟨s0, s1, s2⟩ := R3.out.cells
     clear qw b3 t0 t1 hWX hgd
     go_upto_region 4 with fail
     obtain ⟨Tb, x3, xt⟩ := HWX.out.textAt f (by omega)
     have hem := text_empty HG.out f _ hhf
     have hem2 : (Forks.textOf v f).toList.isEmpty = false := hem
     clear hem
     generalize hS1 : Forks.textOf v f = S1 at *
     have HS1 := hid hS1
     clear hS1
     go_quiet (fail)
     have R4 := hid (R3.out.below (Below.drewN' (Below.refl _ _) nq))
     have W4 := hid (HWX.out.below (Below.drewN' (Below.refl _ _) nq))
     clear R3 s0 s1 s2 x3 xt hem2 HWX
     generalize w3.drewN nq = w4 at *
     obtain ⟨s0, s1, s2⟩ := R4.out.cells
     obtain ⟨Tb, x3, xt⟩ := W4.out.textAt t (by omega)
     have hem := text_empty HG.out t _ hht
     have hem2 : (Forks.textOf v t).toList.isEmpty = false := hem
     clear hem
     generalize Forks.textOf v t = S2 at *
     have RES := R4.out.res
     have z0 := cell_of_row _ _ 0 _ _ _ RES
     have z1 := cell_of_row _ _ 1 _ _ _ RES
     have z2 := cell_of_row _ _ 2 _ _ _ RES
     have z3 := cell_of_row _ _ 3 _ _ _ RES
     have zf0 := free_zero RES 0
     have zf1 := free_zero RES 1
     have zf2 := free_zero RES 2
     have zf3 := free_zero RES 3
     have FE := hid (set_err (w0 := w) (w := w4) (Z := w.heap.size + 1 + 1) (r := RT) (k := 2) R4.out.bel (by omega) hRT2.out (by decide))
     obtain ⟨n0, n1, n2, n3⟩ := zero4_cells RES
     unfold zero4 at FE n0 n1 n2 n3
     clear RES
     go_wp2_with fail
     refine bodyPost_ret (v := .tuple #[setV 0 (.slice none 0 0) (.slice none 0 0) (.slice none 0 0), .int .i64 2]) ?_ rfl FE.out
     first | (simp [results, Tryz.results25, go_sem, n0, n1, n2, n3, setV]; done)
    case false =>
     rw [if_neg (fun h => by rw [hht] at h; cases h.2)] at hRT1
     cases htk : Forks.taken R (t : Int)
     case true =>
      have hRT2 : Hid (RT = .error 2) := hid (by rw [hRT1.out, if_pos htk])
      clear htf
      go_enter Tryz.func25, Tryz.ntmps25
      go_wp2_with fail
      generalize ((w.alloc _).alloc _).alloc _ = w1 at *
      obtain ⟨t0, t1, -⟩ := R1.out.cells
      go_wp2_with fail
      refine qw.out.mono ?_
      rintro e w3 ⟨b3, X, rfl, hWX, hgd⟩
      have R3 := hid (R1.out.below b3)
      have HWX := hid hWX
      have HG := hid hgd
      obtain ⟨s0, s1, s2⟩ := R3.out.cells
      clear qw b3 t0 t1 hWX hgd
      go_upto_region 4 with fail
      obtain ⟨Tb, x3, xt⟩ := HWX.out.textAt f (by omega)
      have hem := text_empty HG.out f _ hhf
      have hem2 : (Forks.textOf v f).toList.isEmpty = false := hem
      clear hem
      generalize hS1 : Forks.textOf v f = S1 at *
      have HS1 := hid hS1
      clear hS1
      go_quiet (fail)
      have R4 := hid (R3.out.below (Below.drewN' (Below.refl _ _) nq))
      have W4 := hid (HWX.out.below (Below.drewN' (Below.refl _ _) nq))
      clear R3 s0 s1 s2 x3 xt hem2 HWX
      generalize w3.drewN nq = w4 at *
      obtain ⟨s0, s1, s2⟩ := R4.out.cells
      obtain ⟨uv, cX2, ho4⟩ := W4.out.rowv
      obtain ⟨auv, cuv, rfl⟩ := OwnExts.slice ho4
      have qt := hid (taken_any (.slice auv R.length cuv) R (t : Int) w4 (fun x hx => by have := Forks.row_small HRR.out x hx; unfold SmallE; omega) (OwnExts.at ho4) (by omega) ⟨by omega, by omega⟩ _ htk)
      clear ho4
      obtain ⟨Tb, x3, xt⟩ := W4.out.textAt t (by omega)
      have hem := text_empty HG.out t _ hht
      have hem2 : (Forks.textOf v t).toList.isEmpty = true := hem
      clear hem
      generalize Forks.textOf v t = S2 at *
      go_wp2_with fail
      refine qt.out.mono ?_
      rintro e w5 ⟨rfl, b5⟩
      have R5 := hid (R4.out.below b5)
      clear b5 qt R4 s0 s1 s2 cX2 x3 xt
      have RES := R5.out.res
      have z0 := cell_of_row _ _ 0 _ _ _ RES
      have z1 := cell_of_row _ _ 1 _ _ _ RES
      have z2 := cell_of_row _ _ 2 _ _ _ RES
      have z3 := cell_of_row _ _ 3 _ _ _ RES
      have zf0 := free_zero RES 0
      have zf1 := free_zero RES 1
      have zf2 := free_zero RES 2
      have zf3 := free_zero RES 3
      have FE := hid (set_err (w0 := w) (w := w5) (Z := w.heap.size + 1 + 1) (r := RT) (k := 2) R5.out.bel (by omega) hRT2.out (by decide))
      obtain ⟨n0, n1, n2, n3⟩ := zero4_cells RES
      unfold zero4 at FE n0 n1 n2 n3
      clear RES
      go_wp2_with fail
      refine bodyPost_ret (v := .tuple #[setV 0 (.slice none 0 0) (.slice none 0 0) (.slice none 0 0), .int .i64 2]) ?_ rfl FE.out
      first | (simp [results, Tryz.results25, go_sem, n0, n1, n2, n3, setV]; done)
     case false =>
      rw [if_neg (by rw [htk]; decide), if_neg htf] at hRT1
      have hRT2 := hRT1
      clear htf hRT1
      go_enter Tryz.func25, Tryz.ntmps25
      go_wp2_with fail
      generalize ((w.alloc _).alloc _).alloc _ = w1 at *
      obtain ⟨t0, t1, -⟩ := R1.out.cells
      go_wp2_with fail
      refine qw.out.mono ?_
      rintro e w3 ⟨b3, X, rfl, hWX, hgd⟩
      have R3 := hid (R1.out.below b3)
      have HWX := hid hWX
      have HG := hid hgd
      obtain ⟨s0, s1, s2⟩ := R3.out.cells
      clear qw b3 t0 t1 hWX hgd
      go_upto_region 4 with fail
      obtain ⟨Tb, x3, xt⟩ := HWX.out.textAt f (by omega)
      have hem := text_empty HG.out f _ hhf
      have hem2 : (Forks.textOf v f).toList.isEmpty = false := hem
      clear hem
      generalize hS1 : Forks.textOf v f = S1 at *
      have HS1 := hid hS1
      clear hS1
      go_quiet (fail)
      have R4 := hid (R3.out.below (Below.drewN' (Below.refl _ _) nq))
      have W4 := hid (HWX.out.below (Below.drewN' (Below.refl _ _) nq))
      clear R3 s0 s1 s2 x3 xt hem2 HWX
      generalize w3.drewN nq = w4 at *
      obtain ⟨s0, s1, s2⟩ := R4.out.cells
      obtain ⟨uv, cX2, ho4⟩ := W4.out.rowv
      obtain ⟨auv, cuv, rfl⟩ := OwnExts.slice ho4
      have qt := hid (taken_any (.slice auv R.length cuv) R (t : Int) w4 (fun x hx => by have := Forks.row_small HRR.out x hx; unfold SmallE; omega) (OwnExts.at ho4) (by omega) ⟨by omega, by omega⟩ _ htk)
      clear ho4
      obtain ⟨Tb, x3, xt⟩ := W4.out.textAt t (by omega)
      have hem := text_empty HG.out t _ hht
      have hem2 : (Forks.textOf v t).toList.isEmpty = true := hem
      clear hem
      generalize Forks.textOf v t = S2 at *
      go_wp2_with fail
      refine qt.out.mono ?_
      rintro e w5 ⟨rfl, b5⟩
      have R5 := hid (R4.out.below b5)
      have W5 := hid (W4.out.below b5)
      clear b5 qt R4 W4 s0 s1 s2 cX2 x3 xt hem2
      obtain ⟨s0, s1, s2⟩ := R5.out.cells
      obtain ⟨Lb, cX1, hLv⟩ := W5.out.lvls
      have zF : w.heap.size + 1 < w5.heap.size := lt_of_block R5.out.fr
      have qi := hid (idxLead1_any (w.heap.size + 1) (.slice (some ⟨Lb, 0, none⟩) d d) (Forks.lvls v d) (fun L => L.any fun n => n.1 == (f : Int)) w5 hLv (by rw [Forks.lvls_len]; omega) (fun L hL u wz hz hu => lead1_any L (f : Int) u _ wz hu (by have := (Forks.lvls_ok HG.out d hd4).1.len L hL; omega) ((R5.out.below hz).cells.2.2)))
      have hle := Forks.leadAt_le v d (f : Int)
      have hix : Hid (idxOf (fun L : List Node => L.any fun n => n.1 == (f : Int)) (Forks.lvls v d) + 1 = ((Forks.leadAt v d (f : Int) : Nat) : Int)) := hid (by
       unfold Forks.leadAt
       have : -1 ≤ idxOf (fun L : List Node => L.any fun n => n.1 == (f : Int)) (Forks.lvls v d) := by
        rcases idxOf_cases (fun L : List Node => L.any fun n => n.1 == (f : Int)) (Forks.lvls v d) with h | ⟨j, hj, h⟩ <;> omega
       exact (Int.toNat_of_nonneg (by omega)).symm)
      generalize idxOf (fun L : List Node => L.any fun n => n.1 == (f : Int)) (Forks.lvls v d) = IX at *
      generalize Forks.leadAt v d (f : Int) = LVL at *
      obtain rfl : IX = (LVL : Int) - 1 := by have := hix.out; omega
      have hw9 : IntKind.i64.wrap ((LVL : Int) - 1 + 1) = (LVL : Int) := by
       rw [show (LVL : Int) - 1 + 1 = (LVL : Int) by omega]
       exact IntWalk.i64_in _ (by omega)
      clear hLv hix
      go_wp2_with fail
      refine qi.out.mono ?_
      rintro e w6 ⟨rfl, b6⟩
      have R6 := hid (R5.out.below b6)
      have W6 := hid (W5.out.below b6)
      clear b6 qi R5 W5 s0 s1 s2 cX1 zF
      obtain ⟨s0, s1, s2⟩ := R6.out.cells
      have qt := hid (turned_any (.func (.func 68) #[] #[.pointer (some ⟨w.heap.size + 1, 0, none⟩)]) (fun x => x.2.1 == (f : Int)) (t : Int) (by omega) LVL w6 W6.out HG.out root (H.out.keep (.of_below R6.out.bel)) hl hle hd4 (fun wz u l hz hu hll => idxLead_any (w.heap.size + 1) u l (fun x => x.2.1 == (f : Int)) wz hu.ext (by omega) (fun x hx wy hy => lead2_any x (f : Int) _ wy ((R6.out.below (hz.trans (hy.mono hz.size))).cells.2.2))))
      have htg := Forks.turned_chg v HG.out d root LVL (fun x => x.2.1 == (f : Int)) (t : Int)
      generalize Forks.turnedT v d root LVL (fun x => x.2.1 == (f : Int)) (t : Int) = SR at *
      obtain ⟨sd, sro, sch, sfr⟩ := SR
      dsimp only at htg hRT2
      obtain ⟨hg1, hg2, rfl, rfl, hg5⟩ := htg
      have HG2 := hid hg2
      have HG5 := hid hg5
      clear hg2 hg5
      go_wp2_with fail
      refine qt.out.mono ?_
      rintro e w7 ⟨b7, rvv, cvv, fvv, he, h1, h2, -, rfl⟩
      dsimp only at he h1 h2
      obtain rfl : e = .returned (.agg #[.int .i64 (d : Int), rvv, cvv, .slice none 0 0]) := he
      have R7 := hid (R6.out.below b7)
      have W7 := hid (W6.out.below b7)
      obtain ⟨arr, crr, rfl⟩ := h1.slice
      obtain ⟨acc, ccc, rfl⟩ := h2.slice
      have O1 := hid h1
      have O2 := hid h2
      have hlo6 := R6.out.bel.size
      clear h1 h2 b7 qt R6 W6 s0 s1 s2
      go_upto_region 12 with fail
      have bY : Below w7.heap.size w7 (w7.alloc (.cells #[.int .i64 (d : Int), .slice arr sro.length crr, .slice acc sch.length ccc, .slice none 0 0] 58)) := (Below.refl _ _).alloc (Nat.le_refl _) _
      have R8 := R7.out.below bY
      have W8 := W7.out.below bY
      have T8 := hid (show TSt w w.heap.size (w.heap.size + 1 + 1) w7.heap.size d (.slice ar root.length cr) (.slice arr sro.length crr) (.slice acc sch.length ccc) sro sch _ from ⟨R8.tree, R8.res, heap_alloc_new w7 _, World.ownsRow.mono (own_below O1.out bY) hlo6, World.ownsRow.mono (O2.out.below bY) hlo6, R8.bel, Nat.le_refl _, by omega, R7.out.bel.size, by have := lt_of_block R7.out.res; omega⟩)
      have fb8 := R8.fr
      obtain ⟨Tb, x3, xt⟩ := W8.textAt f (by omega)
      rw [HS1.out] at xt
      obtain ⟨-, -, y0, y1, y2, y3, yF⟩ := T8.out.cells
      have zY := lt_of_block T8.out.y
      have sF : (w7.alloc (.cells #[.int .i64 (d : Int), .slice arr sro.length crr, .slice acc sch.length ccc, .slice none 0 0] 58)).cell? ⟨w.heap.size + 1, 0, none⟩ = some (.int .i64 (f : Int)) := cell_of_row _ _ 0 _ _ _ fb8
      have HF8 := hid fb8
      clear bY R8 W8 fb8 R7 W7 O1 O2 yF
      generalize w7.alloc _ = w8 at *
      generalize w7.heap.size = Y at *
      obtain ⟨ic, hic, hzc, hsc, hbc⟩ := info_parts info_change
      have bA : Below w8.heap.size w8 (w8.drew.alloc (.cells #[.int .i64 (t : Int), .string S1] 72)) := (Below.refl _ _).drew.alloc (Nat.le_refl _) _
      have T9 := hid (T8.out.below bA)
      have HF9 := hid ((bA.block _ (lt_of_block HF8.out)).trans HF8.out)
      have HO9 := hid (show World.ownsRow (w8.drew.alloc (.cells #[.int .i64 (t : Int), .string S1] 72)) w.heap.size 72 2 (.slice acc sch.length ccc) sch.length (ccells sch) from T9.out.ch)
      have HNN : Hid (∀ jj uu, [Value.int .i64 (t : Int), .string S1][jj]? = some uu → (w8.drew.alloc (.cells #[.int .i64 (t : Int), .string S1] 72)).cell? ((⟨w8.heap.size, 0, none⟩ : Addr).add jj) = some uu) := hid (fun jj uu hjj => by
       have hadd : (⟨w8.heap.size, 0, none⟩ : Addr).add jj = ⟨w8.heap.size, jj, none⟩ := by unfold Addr.add; split <;> simp_all
       rw [hadd]
       exact (World.cell?_alloc_at (w := w8.drew) _ _ _ jj rfl).trans (by simpa using hjj))
      have hone : ∀ u ∈ [Value.int .i64 (t : Int), .string S1], u.oneCell' = true := by
       intro u hu
       simp at hu
       rcases hu with rfl | rfl <;> rfl
      have hB9 : w.heap.size ≤ (w8.drew.alloc (.cells #[.int .i64 (t : Int), .string S1] 72)).heap.size := T9.out.bel.size
      clear bA T8 HF8
      have hpush : Hid (∀ (w5 : World) (g5 c5 : Nat), (w8.drew.alloc (.cells #[.int .i64 (t : Int), .string S1] 72)).grownBy w5 (Value.slice acc sch.length ccc).ownBlock → w5.ownsRow w.heap.size 72 2 (.slice (some ⟨g5, 0, none⟩) (sch.length + 1) c5) (sch.length + 1) (ccells sch ++ [.int .i64 (t : Int), .string S1]) → TSt w w.heap.size (w.heap.size + 1 + 1) Y d (.slice ar root.length cr) (.slice arr sro.length crr) (.slice (some ⟨g5, 0, none⟩) (sch.length + 1) c5) sro (sch ++ [((t : Int), S1)]) (w5.setCell ⟨Y, 2, none⟩ (.slice (some ⟨g5, 0, none⟩) (sch.length + 1) c5)) ∧ (w5.setCell ⟨Y, 2, none⟩ (.slice (some ⟨g5, 0, none⟩) (sch.length + 1) c5)).heap[w.heap.size + 1]? = some (.cells #[.int .i64 (f : Int)] 3 (0, 0))) := hid (fun w5 g5 c5 hgrow hown => by
       have ho : OwnChgs w.heap.size w5 (.slice (some ⟨g5, 0, none⟩) (sch.length + 1) c5) (sch ++ [((t : Int), S1)]) := by
        unfold OwnChgs
        rw [List.length_append, ccells_append]
        exact hown
       obtain ⟨p1, p2, p3⟩ := T9.out.pushCh hgrow ho
       exact ⟨p1, p3 _ (by decide) (by decide) _ _ _ HF9.out⟩)
      go_cut [] from 93 to 106 (fun wc => ∃ (g c : Nat), Hid (TSt w w.heap.size (w.heap.size + 1 + 1) Y d (.slice ar root.length cr) (.slice arr sro.length crr) (.slice (some ⟨g, 0, none⟩) (sch.length + 1) c) sro (sch ++ [((t : Int), S1)]) wc ∧ wc.heap[w.heap.size + 1]? = some (.cells #[.int .i64 (f : Int)] 3 (0, 0))))
      case first =>
       go_region_law (refine step_append_lies _ rfl (.tmp 94) (.tmp 104) 36 rfl w.heap.size 72 ic (.agg #[.int .i64 0, .string ⟨#[]⟩]) 2 24 Tryz.underlying36 hic hzc hsc hbc rfl (by decide) (.slice acc sch.length ccc) sch.length (ccells sch) (by simp [Act.eval, Act.put]; done) HO9.out ⟨w8.heap.size, 0, none⟩ 1 1 [.int .i64 (t : Int), .string S1] (by simp [Act.eval, Act.put]; done) rfl HNN.out hone (by decide) (by unfold maxLen; omega) (by omega) hB9 _ rfl ?_; intro g5 c5 w5 hown hgrow hat hlt5; have X5 := kept_other HO9.out hgrow T9.out.y (by decide); have cX5 := cell_of_row w5 Y 2 _ _ _ X5; have fX5 := free_zero X5 2)
       all_goals first | (go_meet; exact ⟨_, _, hid (hpush.out _ _ _ hgrow hown)⟩) | (go_step; go_meet; exact ⟨_, _, hid (hpush.out _ _ _ hgrow hown)⟩) | (go_step; go_step; go_meet; exact ⟨_, _, hid (hpush.out _ _ _ hgrow hown)⟩) | (go_step; go_step; go_step; go_meet; exact ⟨_, _, hid (hpush.out _ _ _ hgrow hown)⟩)
      obtain ⟨g5, c5, hS5⟩ := hcut
      clear hpush HO9 HNN hone hB9 T9 HF9 x3 xt y0 y1 y2 y3 sF zY
      obtain ⟨-, -, y0, y1, y2, y3, yF⟩ := hS5.out.1.cells
      have hcl : sch.length + 1 = (sch ++ [((t : Int), S1)]).length := by simp
      obtain ⟨fl, hfl, hfn, hfa⟩ := toC_of sch (fun x hx => by have := HG2.out x hx; omega)
      have hfx : toC (fl ++ [((⟨t, by omega⟩ : Fin 4096), S1)]) = sch ++ [((t : Int), S1)] := by
       unfold toC at hfl ⊢
       rw [List.map_append, hfl]
       rfl
      have hlo5 := hS5.out.1.bel.size
      have qs := hid (sortC_own w.heap.size g5 c5 (fl ++ [((⟨t, by omega⟩ : Fin 4096), S1)]) wc (by rw [hfx, ← hcl]; exact hS5.out.1.ch) (by simp; omega) hlo5)
      rw [hfx, ← hcl] at qs
      have hsort : Hid (∀ s : List FC, s.Perm (fl ++ [((⟨t, by omega⟩ : Fin 4096), S1)]) → s.Pairwise (fun x y => x.1.val ≤ y.1.val) → toC s = Forks.leadSort sch ((t : Int), S1)) := hid (fun s hp hs => by
       have := lead_sorted fl (⟨t, by omega⟩, S1) (by omega) (fun a ha e => by
        obtain ⟨x, hx, ex⟩ := hfa a ha
        have := (HG2.out x hx).2.2
        rw [ex, Int.toNat_natCast, show a.1.val = t from e, hht] at this
        cases this) s hp hs
       rw [hfl] at this
       exact this)
      clear yF hfx hfl hfa hcl
      go_wp2_with fail
      refine qs.out.mono ?_
      rintro e w10 ⟨rfl, sf, hp, hpw, ho10, b10, k10⟩
      have e10 := hsort.out sf hp hpw
      have T10 := hid (hS5.out.1.sorted k10 b10 (show OwnChgs w.heap.size w10 (.slice (some ⟨g5, 0, none⟩) (sch.length + 1) c5) (Forks.leadSort sch ((t : Int), S1)) from by
       rw [← e10]
       unfold OwnChgs at ho10 ⊢
       have hl : (toC sf).length = sch.length + 1 := by rw [e10, leadSort_len sch hg1]
       rw [hl]
       rw [hl] at ho10
       exact ho10))
      have F10 := k10 _ (by decide) _ _ _ hS5.out.2
      have sF := cell_of_row _ _ 0 _ _ _ F10
      have bA := ((Below.refl w10.heap.size w10).alloc (Nat.le_refl _) (.cells #[.int .i64 (f : Int)] 3))
      have T11 := T10.out.below bA
      have hfrz := T11.cells.2.2.2.2.2.2 3
      have y113 := T11.cells.2.2.2.2.2.1
      have hlit : OwnInts w.heap.size (w10.alloc (.cells #[.int .i64 (f : Int)] 3)) (.slice (some ⟨w10.heap.size, 0, none⟩) 1 1) [(f : Int)] := World.ownsRow_lit w10 #[.int .i64 (f : Int)] 1 T10.out.bel.size (by unfold maxLen; omega) rfl
      have k12 := fun T (hT : T ≠ 58) => KeepT.set (T := T) (u := .slice (some ⟨w10.heap.size, 0, none⟩) 1 1) (a := ⟨Y, 3, none⟩) T11.y hT
      have y12 := block_setCellS T11.y 3 (.slice (some ⟨w10.heap.size, 0, none⟩) 1 1)
      have RES := (Below.heap_setCell (w10.alloc (.cells #[.int .i64 (f : Int)] 3)) ⟨Y, 3, none⟩ (.slice (some ⟨w10.heap.size, 0, none⟩) 1 1) _ T11.ne.symm).trans T11.res
      have B12 := T11.bel.setCell (p := ⟨Y, 3, none⟩) T11.loY (.slice (some ⟨w10.heap.size, 0, none⟩) 1 1)
      have FO := hid (set_ok (w0 := w) (Z := w.heap.size + 1 + 1) B12 (by omega) hRT2.out RES (own_keepT T11.root (k12 _ (by decide))) (own_keepT T11.ch (k12 _ (by decide))) (own_keepT hlit (k12 _ (by decide))))
      have z0 := cell_of_row _ _ 0 _ _ _ RES
      have z1 := cell_of_row _ _ 1 _ _ _ RES
      have z2 := cell_of_row _ _ 2 _ _ _ RES
      have z3 := cell_of_row _ _ 3 _ _ _ RES
      have zf0 := free_zero RES 0
      have zf1 := free_zero RES 1
      have zf2 := free_zero RES 2
      have zf3 := free_zero RES 3
      have u0 := cell_of_row _ _ 0 _ _ _ y12
      have u1 := cell_of_row _ _ 1 _ _ _ y12
      have u2 := cell_of_row _ _ 2 _ _ _ y12
      have u3 := cell_of_row _ _ 3 _ _ _ y12
      have n0 := cell_of_row _ _ 0 _ _ _ FO.out.2
      have n1 := cell_of_row _ _ 1 _ _ _ FO.out.2
      have n2 := cell_of_row _ _ 2 _ _ _ FO.out.2
      have n3 := cell_of_row _ _ 3 _ _ _ FO.out.2
      unfold put4 at FO n0 n1 n2 n3
      dsimp only at n0 n1 n2 n3
      clear T11 bA hlit k12 y12 RES B12 e10 hp hpw ho10 b10 k10 qs F10 T10
      go_wp2_with fail
      refine bodyPost_ret (v := .tuple #[setV (d : Int) (.slice arr sro.length crr) (.slice (some ⟨g5, 0, none⟩) (sch.length + 1) c5) (.slice (some ⟨w10.heap.size, 0, none⟩) 1 1), .int .i64 0]) ?_ rfl FO.out.1
      first | (simp [results, Tryz.results25, go_sem, n0, n1, n2, n3, setV]; done)
end Go.Proofs.YtgjmeeiejcbjfaaGreat
