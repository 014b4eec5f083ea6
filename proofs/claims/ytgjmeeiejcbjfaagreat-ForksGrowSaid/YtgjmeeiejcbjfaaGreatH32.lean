/- Forks: Move. (Printed by wip/gen/fmove.py.) -/
import Derived.Test.YtgjmeeiejcbjfaaGreatH30
import Derived.Test.YtgjmeeiejcbjfaaGreatH31
import Derived.Laws.EntriesVeiled
set_option linter.unusedSimpArgs false
set_option linter.unusedVariables false
namespace Go.Proofs.YtgjmeeiejcbjfaaGreat
open Go.Lib (hid)
open Go Go.RowKit
abbrev MV1 (P Q : Nat) : Value := .func (.func 56) #[] #[.pointer (some ⟨P, 0, none⟩), .pointer (some ⟨Q, 0, none⟩)]
set_option maxHeartbeats 1000000 in
theorem move2_any (x : Exts.E) (lg n : Int) (G P Q : Nat) (w : World) (hg : w.cell? ⟨G, 0, none⟩ = some (MV1 P Q)) (hp : w.cell? ⟨P, 0, none⟩ = some (.int .i64 lg)) (hq : w.cell? ⟨Q, 0, none⟩ = some (.int .i64 n)) :
  Calls Tryz.prog 58 #[.agg #[.int .i64 x.1, .int .i64 x.2.1, .int .i64 x.2.2], .pointer (some ⟨G, 0, none⟩)] w fun e w' => e = .returned (.bool (Forks.isM lg n x)) ∧ Below w.heap.size w w' := by
 have hG : G < w.heap.size := World.block_lt_of_cell? _ _ hg
 have hP : P < w.heap.size := World.block_lt_of_cell? _ _ hp
 have hQ : Q < w.heap.size := World.block_lt_of_cell? _ _ hq
 have bA := ((Below.refl w.heap.size w).alloc (Nat.le_refl _) (.cells #[.int .i64 x.1, .int .i64 x.2.1, .int .i64 x.2.2] 53))
 have q := hid (move1_any x lg n P Q _ ((bA.cell (p := ⟨P, 0, none⟩) hP).trans hp) ((bA.cell (p := ⟨Q, 0, none⟩) hQ).trans hq))
 have cg := (bA.cell (p := ⟨G, 0, none⟩) hG).trans hg
 have x0 : (w.alloc (.cells #[.int .i64 x.1, .int .i64 x.2.1, .int .i64 x.2.2] 53)).cell? ⟨w.heap.size, 0, none⟩ = some (.int .i64 x.1) := box_cell _ _ _ _
 have x1 : (w.alloc (.cells #[.int .i64 x.1, .int .i64 x.2.1, .int .i64 x.2.2] 53)).cell? ⟨w.heap.size, 1, none⟩ = some (.int .i64 x.2.1) := box_cell _ _ _ _
 have x2 : (w.alloc (.cells #[.int .i64 x.1, .int .i64 x.2.1, .int .i64 x.2.2] 53)).cell? ⟨w.heap.size, 2, none⟩ = some (.int .i64 x.2.2) := box_cell _ _ _ _
 have BA := hid bA
 clear bA hp hq hg
 obtain ⟨xa, xb, xc⟩ := x
 dsimp only at *
 generalize Forks.isM lg n (xa, xb, xc) = r at *
 go_enter Tryz.func58, Tryz.ntmps58
 go_wp2_with fail
 refine q.out.mono ?_
 rintro e w2 ⟨rfl, b2⟩
 have B2 := hid (BA.out.trans (b2.mono BA.out.size))
 clear b2
 go_wp2_with fail
 go_ret
 exact ⟨rfl, B2.out⟩
set_option maxRecDepth 100000 in
set_option maxHeartbeats 2000000 in
theorem idxMove2_any (P : Nat) (v : Value) (l : List Exts.E) (p : Exts.E → Bool) (w : World) (h : ExtsAt w v l) (hl : l.length ≤ 1000000000)
  (hc : ∀ x ∈ l, ∀ wz, Below w.heap.size w wz → Calls Tryz.prog 58 #[.agg #[.int .i64 x.1, .int .i64 x.2.1, .int .i64 x.2.2], .pointer (some ⟨P, 0, none⟩)] wz fun e w' => e = .returned (.bool (p x)) ∧ Below wz.heap.size wz w') :
  Calls Tryz.prog 97 #[v, .func (.func 58) #[] #[.pointer (some ⟨P, 0, none⟩)]] w fun e w' => e = .returned (.int .i64 (idxOf p l)) ∧ Below w.heap.size w w' := by
 have H := hid h
 have hcl := hid hc
 obtain ⟨ad, cap, rfl⟩ := h.form
 clear h hc
 generalize hI : idxOf p l = I at *
 have HI := hid hI
 clear hI
 go_enter Tryz.func97, Tryz.ntmps97
 go_wp2_with fail
 go_loopw [8] (fun q wr => ∃ j : Nat, j ≤ l.length ∧ q = .int .i64 j ∧ Hid (∀ k, k < j → p (l.getD k (0, 0, 0)) = false) ∧ Hid (Below w.heap.size w wr)) (fun q _ => l.length - (intOf q).toNat)
 case atStart => exact ⟨0, by omega, rfl, hid (fun k hk => absurd hk (Nat.not_lt_zero _)), hid (Below.refl _ _)⟩
 case round =>
  obtain ⟨j, hj, rfl, ha, hb⟩ := hrel
  by_cases hlt : j < l.length
  ·have i0 : (0 : Int) ≤ (j : Int) := by omega
   have i1 : (j : Int) < (l.length : Int) := by omega
   obtain ⟨hll, g, off, rfl, c0, c1, c2⟩ := (H.out.below (B := 0) hb.out).cells j hlt
   clear hll
   have hmx : l.getD j (0, 0, 0) ∈ l := by rw [show l.getD j (0, 0, 0) = l[j] by simp [List.getD, hlt]]; exact List.getElem_mem hlt
   have hc := hid (hcl.out _ hmx wr hb.out)
   clear hmx
   cases hm : p (l.getD j (0, 0, 0))
   ·have ha' : Hid (∀ k, k < j + 1 → p (l.getD k (0, 0, 0)) = false) := hid (fun k hk => by
     rcases Nat.lt_or_ge k j with h | h
     ·exact ha.out k h
     ·obtain rfl : k = j := by omega
      exact hm)
    rw [hm] at hc
    generalize l.getD j (0, 0, 0) = x at *
    obtain ⟨xa, xb, xc⟩ := x
    dsimp only at *
    clear hm
    go_wp2_with fail
    refine hc.out.mono ?_
    rintro e w' ⟨rfl, hb'⟩
    have B2 := hid (hb.out.trans (hb'.mono hb.out.size))
    clear hb'
    go_wp2_with fail
    go_roundw
    case rel => exact ⟨j + 1, by omega, by go_num, ha', B2⟩
    case measure => simp [intOf]; omega
   ·have hfb : Hid (I = (j : Int)) := hid (by rw [← HI.out]; exact idxOf_at p l j hlt (0, 0, 0) ha.out hm)
    rw [hm] at hc
    generalize l.getD j (0, 0, 0) = x at *
    obtain ⟨xa, xb, xc⟩ := x
    dsimp only at *
    clear hm
    go_wp2_with fail
    refine hc.out.mono ?_
    rintro e w' ⟨rfl, hb'⟩
    have B2 := hid (hb.out.trans (hb'.mono hb.out.size))
    clear hb'
    go_wp2_with fail
    go_ret
    exact ⟨by rw [hfb.out]; rfl, B2.out⟩
  ·obtain rfl : j = l.length := by omega
   have hfb : Hid (I = -1) := hid (by rw [← HI.out]; exact idxOf_no p l (0, 0, 0) ha.out)
   go_wp2_with fail
   go_ret
   exact ⟨by rw [hfb.out]; rfl, hb.out⟩
theorem hasMove2_any (P : Nat) (v : Value) (l : List Exts.E) (p : Exts.E → Bool) (w : World) (h : ExtsAt w v l) (hl : l.length ≤ 1000000000)
  (hc : ∀ x ∈ l, ∀ wz, Below w.heap.size w wz → Calls Tryz.prog 58 #[.agg #[.int .i64 x.1, .int .i64 x.2.1, .int .i64 x.2.2], .pointer (some ⟨P, 0, none⟩)] wz fun e w' => e = .returned (.bool (p x)) ∧ Below wz.heap.size wz w') :
  Calls Tryz.prog 57 #[v, .func (.func 58) #[] #[.pointer (some ⟨P, 0, none⟩)]] w fun e w' => e = .returned (.bool (l.any p)) ∧ Below w.heap.size w w' := by
 have q := hid (idxMove2_any P v l p w h hl hc)
 have hA := hid (idxOf_any p l)
 clear h hc
 generalize l.any p = r at *
 rcases idxOf_cases p l with hI | ⟨j, hj, hI⟩
 ·rw [hI] at q hA
  clear hI
  go_enter Tryz.func57, Tryz.ntmps57
  go_wp2_with fail
  refine q.out.mono ?_
  rintro e w' ⟨rfl, hb⟩
  have B2 := hid hb
  clear hb
  go_wp2_with fail
  go_ret
  exact ⟨by rw [← hA.out]; rfl, B2.out⟩
 ·rw [hI] at q hA
  clear hI
  have j0 : (0 : Int) ≤ (j : Int) := by omega
  go_enter Tryz.func57, Tryz.ntmps57
  go_wp2_with fail
  refine q.out.mono ?_
  rintro e w' ⟨rfl, hb⟩
  have B2 := hid hb
  clear hb
  go_wp2_with fail
  go_ret
  exact ⟨by rw [← hA.out, decide_eq_true j0]; rfl, B2.out⟩
namespace Forks
open Go.Lib (hid)
def moveV (v : V) (d : Nat) (root R : EL) (lg n tt : Int) : Except Int SetR :=
 if R.any (isM lg n) = false then .error 4
 else if tt < 1 then .error 2
 else if 4096 - n < tt then .error 2
 else if (natI (nodes v)).any (inM tt n) = true then .error 2
 else .ok (turnedT v d root 0 (isM lg n) tt)
def moveT (dk : Disk) (depth : Int) (root : EL) (lg n tt : Int) : Except Int SetR :=
 match walkT dk depth root with
 | .error k => .error k
 | .ok x => moveV x.1 depth.toNat root x.2 lg n tt
end Forks
theorem heap_alloc_at {w : World} {k : Nat} {x : Obj} (h : w.heap[k]? = some x) (o : Obj) : (w.alloc o).heap[k]? = some x := by
 rw [((Below.refl w.heap.size w).alloc (Nat.le_refl _) o).block k (lt_of_block h)]
 exact h
theorem set_err {w0 w : World} {Z : Nat} {r : Except Int Forks.SetR} {k : Int} (hb : Below w0.heap.size w0 w) (hZ : w0.heap.size ≤ Z) (hr : r = .error k) (hk : k ≠ 0) : SetOut w0 r (.returned (.tuple #[setV 0 (.slice none 0 0) (.slice none 0 0) (.slice none 0 0), .int .i64 k])) (zero4 w Z) := by
 subst hr
 exact ⟨zero4_below hb hZ, rfl, hk⟩
theorem set_ok {w0 w : World} {Z : Nat} {r : Except Int Forks.SetR} {sr : Forks.SetR} {rv cv fv a b c d : Value} (hb : Below w0.heap.size w0 w) (hZ : w0.heap.size ≤ Z) (hr : r = .ok sr) (hres : w.heap[Z]? = some (.cells #[a, b, c, d] 58 (0, 0))) (h1 : OwnEnts w0.heap.size w rv sr.root) (h2 : OwnChgs w0.heap.size w cv sr.changes) (h3 : OwnInts w0.heap.size w fv sr.freed) :
  SetOut w0 r (.returned (.tuple #[setV sr.depth rv cv fv, .int .i64 0])) (put4 w Z (.int .i64 sr.depth) rv cv fv) ∧ (put4 w Z (.int .i64 sr.depth) rv cv fv).heap[Z]? = some (.cells #[.int .i64 sr.depth, rv, cv, fv] 58 (0, 0)) := by
 subst hr
 obtain ⟨p1, p2⟩ := put4_block (a := .int .i64 sr.depth) (b := rv) (c := cv) (d := fv) hres
 exact ⟨⟨hb.trans (put4_below w _ _ _ _ hZ), rv, cv, fv, rfl, own_keepT h1 (p2 _ (by decide)), own_keepT h2 (p2 _ (by decide)), own_keepT h3 (p2 _ (by decide))⟩, p1⟩
structure MvSt (w0 : World) (depth : Int) (rv : Value) (lg n tt : Int) (w : World) : Prop where
 tree : w.heap[w0.heap.size]? = some (.cells #[.int .i64 depth, rv] 35 (0, 0))
 lg : w.heap[w0.heap.size + 1]? = some (.cells #[.int .i64 lg] 3 (0, 0))
 n : w.heap[w0.heap.size + 1 + 1]? = some (.cells #[.int .i64 n] 3 (0, 0))
 tt : w.heap[w0.heap.size + 1 + 1 + 1]? = some (.cells #[.int .i64 tt] 3 (0, 0))
 res : w.heap[w0.heap.size + 1 + 1 + 1 + 1]? = some (.cells #[.int .i64 0, .slice none 0 0, .slice none 0 0, .slice none 0 0] 58 (0, 0))
 bel : Below w0.heap.size w0 w
theorem MvSt.below {w0 w w' : World} {depth : Int} {rv : Value} {lg n tt : Int} (h : MvSt w0 depth rv lg n tt w) (hb : Below w.heap.size w w') : MvSt w0 depth rv lg n tt w' :=
 ⟨by rw [hb.block _ (lt_of_block h.tree)]; exact h.tree, by rw [hb.block _ (lt_of_block h.lg)]; exact h.lg, by rw [hb.block _ (lt_of_block h.n)]; exact h.n, by rw [hb.block _ (lt_of_block h.tt)]; exact h.tt, by rw [hb.block _ (lt_of_block h.res)]; exact h.res, h.bel.trans (hb.mono h.bel.size)⟩
theorem MvSt.cells {w0 w : World} {depth : Int} {rv : Value} {lg n tt : Int} (h : MvSt w0 depth rv lg n tt w) : w.cell? ⟨w0.heap.size, 0, none⟩ = some (.int .i64 depth) ∧ w.cell? ⟨w0.heap.size, 1, none⟩ = some rv ∧ w.cell? ⟨w0.heap.size + 1, 0, none⟩ = some (.int .i64 lg) ∧ w.cell? ⟨w0.heap.size + 1 + 1, 0, none⟩ = some (.int .i64 n) ∧ w.cell? ⟨w0.heap.size + 1 + 1 + 1, 0, none⟩ = some (.int .i64 tt) :=
 ⟨cell_of_row w _ 0 _ _ _ h.tree, cell_of_row w _ 1 _ _ _ h.tree, cell_of_row w _ 0 _ _ _ h.lg, cell_of_row w _ 0 _ _ _ h.n, cell_of_row w _ 0 _ _ _ h.tt⟩
set_option maxRecDepth 100000 in
set_option maxHeartbeats 16000000 in
theorem move_any (w : World) (pl pb : Nat) (dk : Forks.Disk) (depth : Int) (rv : Value) (root : EL) (hs : SmallsE root) (h : EntsAt w rv root) (hl : root.length ≤ 1000000) (hd : -9223372036854775808 ≤ depth ∧ depth ≤ 9223372036854775807) (hdk : DiskAt w.heap.size w (RDV pl pb) dk) (hds : ∀ b s, dk.rd b = some s → s.size ≤ 140737488351232)
  (lg n tt : Int) (hlg : -9223372036854775808 ≤ lg ∧ lg ≤ 9223372036854775807) (hn : -9223372036854775808 ≤ n ∧ n ≤ 9223372036854775807) (htt : -9223372036854775808 ≤ tt ∧ tt ≤ 9223372036854775807) :
  Calls Tryz.prog 24 #[.agg #[.int .i64 depth, rv], RDV pl pb, .int .i64 lg, .int .i64 n, .int .i64 tt] w (SetOut w (Forks.moveT dk depth root lg n tt)) := by
 have H := hid h
 have HDK := hid hdk
 have HDS := hid hds
 obtain ⟨ar, cr, rfl⟩ := h.form
 have R1 : Hid (MvSt w depth (.slice ar root.length cr) lg n tt (((((w.alloc (.cells #[.int .i64 depth, .slice ar root.length cr] 35)).alloc (.cells #[.int .i64 lg] 3)).alloc (.cells #[.int .i64 n] 3)).alloc (.cells #[.int .i64 tt] 3)).alloc (.cells #[.int .i64 0, .slice none 0 0, .slice none 0 0, .slice none 0 0] 58))) := hid (by
  have h0 := heap_alloc_new w (.cells #[.int .i64 depth, .slice ar root.length cr] 35)
  have h1 := heap_alloc_new (w.alloc (.cells #[.int .i64 depth, .slice ar root.length cr] 35)) (.cells #[.int .i64 lg] 3)
  rw [asz] at h1
  have h2 := heap_alloc_new ((w.alloc (.cells #[.int .i64 depth, .slice ar root.length cr] 35)).alloc (.cells #[.int .i64 lg] 3)) (.cells #[.int .i64 n] 3)
  rw [asz, asz] at h2
  have h3 := heap_alloc_new (((w.alloc (.cells #[.int .i64 depth, .slice ar root.length cr] 35)).alloc (.cells #[.int .i64 lg] 3)).alloc (.cells #[.int .i64 n] 3)) (.cells #[.int .i64 tt] 3)
  rw [asz, asz, asz] at h3
  have h4 := heap_alloc_new ((((w.alloc (.cells #[.int .i64 depth, .slice ar root.length cr] 35)).alloc (.cells #[.int .i64 lg] 3)).alloc (.cells #[.int .i64 n] 3)).alloc (.cells #[.int .i64 tt] 3)) (.cells #[.int .i64 0, .slice none 0 0, .slice none 0 0, .slice none 0 0] 58)
  rw [asz, asz, asz, asz] at h4
  exact ⟨heap_alloc_at (heap_alloc_at (heap_alloc_at (heap_alloc_at h0 _) _) _) _, heap_alloc_at (heap_alloc_at (heap_alloc_at h1 _) _) _, heap_alloc_at (heap_alloc_at h2 _) _, heap_alloc_at h3 _, h4, (((((Below.refl _ _).alloc (Nat.le_refl _) _).alloc (by simp) _).alloc (by simp; omega) _).alloc (by simp; omega) _).alloc (by simp; omega) _⟩)
 have qw := hid (walk_any pl pb dk depth (.slice ar root.length cr) root hs (H.out.ext.below (B := 0) R1.out.bel) (by omega) hd ((HDK.out.below R1.out.bel).mono R1.out.bel.size) hds)
 generalize hRT : Forks.moveT dk depth root lg n tt = RT at *
 have HRT := hid hRT
 clear h hdk hds hRT
 cases hW : Forks.walkT dk depth root with
 | error k =>
  rw [hW] at qw
  have hRT2 : Hid (RT = .error k) := hid (by rw [← HRT.out]; unfold Forks.moveT; rw [hW])
  clear hW
  go_enter Tryz.func24, Tryz.ntmps24
  go_wp2_with fail
  generalize ((((w.alloc _).alloc _).alloc _).alloc _).alloc _ = w1 at *
  obtain ⟨t0, t1, -, -, -⟩ := R1.out.cells
  go_wp2_with fail
  refine qw.out.mono ?_
  rintro e w3 ⟨b3, rfl, hk⟩
  have R3 := hid (R1.out.below b3)
  have hkb : (k != 0) = true := by rw [bne_iff_ne]; exact hk
  clear qw b3 t0 t1
  have RES := R3.out.res
  have z0 := cell_of_row _ _ 0 _ _ _ RES
  have z1 := cell_of_row _ _ 1 _ _ _ RES
  have z2 := cell_of_row _ _ 2 _ _ _ RES
  have z3 := cell_of_row _ _ 3 _ _ _ RES
  have zf0 := free_zero RES 0
  have zf1 := free_zero RES 1
  have zf2 := free_zero RES 2
  have zf3 := free_zero RES 3
  have FE := hid (set_err (w0 := w) (w := w3) (Z := w.heap.size + 1 + 1 + 1 + 1) (r := RT) (k := k) R3.out.bel (by omega) hRT2.out hk)
  obtain ⟨n0, n1, n2, n3⟩ := zero4_cells RES
  unfold zero4 at FE n0 n1 n2 n3
  clear RES hk
  go_wp2_with fail
  refine bodyPost_ret (v := .tuple #[setV 0 (.slice none 0 0) (.slice none 0 0) (.slice none 0 0), .int .i64 k]) ?_ rfl FE.out
  first | (simp [results, Tryz.results24, go_sem, n0, n1, n2, n3, setV]; done)
 | ok x =>
  obtain ⟨v, R⟩ := x
  rw [hW] at qw
  obtain ⟨hrok, hRr, hmr⟩ := Forks.walkT_okr hW
  obtain ⟨d, rfl⟩ : ∃ d : Nat, depth = (d : Int) := ⟨depth.toNat, by have := hrok.1; omega⟩
  have hd4 : d ≤ 4 := by have := hrok.2.1; omega
  rw [Int.toNat_natCast] at qw
  have hRl := Forks.row_len hRr
  have HRR := hid hRr
  have hRT1 : Hid (RT = Forks.moveV v d root R lg n tt) := hid (by rw [← HRT.out]; unfold Forks.moveT; rw [hW]; simp)
  clear hW hRr hmr hrok
  cases hany : R.any (Forks.isM lg n)
  case false =>
   have hRT2 : Hid (RT = .error 4) := hid (by rw [hRT1.out]; unfold Forks.moveV; rw [if_pos hany])
   go_enter Tryz.func24, Tryz.ntmps24
   go_wp2_with fail
   generalize ((((w.alloc _).alloc _).alloc _).alloc _).alloc _ = w1 at *
   obtain ⟨t0, t1, -, -, -⟩ := R1.out.cells
   go_wp2_with fail
   refine qw.out.mono ?_
   rintro e w3 ⟨b3, X, rfl, hWX, hgd⟩
   have R3 := hid (R1.out.below b3)
   have HWX := hid hWX
   have HG := hid hgd
   obtain ⟨uv, cX2, ho3⟩ := hWX.rowv
   obtain ⟨auv, cuv, rfl⟩ := OwnExts.slice ho3
   have HO3 := hid ho3
   clear qw b3 t0 t1 hWX hgd ho3
   have bG : Below w3.heap.size w3 (w3.alloc (.cells #[MV1 (w.heap.size + 1) (w.heap.size + 1 + 1)] 120)) := (Below.refl _ _).alloc (Nat.le_refl _) _
   have R4 := hid (R3.out.below bG)
   have W4 := hid (HWX.out.below bG)
   have O4 := hid (own_below HO3.out bG)
   have cG : (w3.alloc (.cells #[MV1 (w.heap.size + 1) (w.heap.size + 1 + 1)] 120)).cell? ⟨w3.heap.size, 0, none⟩ = some (MV1 (w.heap.size + 1) (w.heap.size + 1 + 1)) := box_cell _ _ _ _
   have kc : (w3.alloc (.cells #[.nilFunc] 120)).cell? ⟨w3.heap.size, 0, none⟩ = some .nilFunc := box_cell _ _ _ _
   have kf : (w3.alloc (.cells #[.nilFunc] 120)).frozen? ⟨w3.heap.size, 0, none⟩ = false := free_zero (heap_alloc_new w3 _) 0
   have zG : w3.heap.size < (w3.alloc (.cells #[MV1 (w.heap.size + 1) (w.heap.size + 1 + 1)] 120)).heap.size := by simp
   have cX24 := (bG.cell (p := ⟨X, 2, none⟩) (World.block_lt_of_cell? _ _ cX2)).trans cX2
   have qa := hid (hasMove2_any w3.heap.size (.slice auv R.length cuv) R (Forks.isM lg n) _ (OwnExts.at O4.out) (by omega) (fun x hx wz hz => move2_any x lg n w3.heap.size (w.heap.size + 1) (w.heap.size + 1 + 1) wz ((hz.cell (p := ⟨w3.heap.size, 0, none⟩) zG).trans cG) ((R4.out.below hz).cells.2.2.1) ((R4.out.below hz).cells.2.2.2.1)))
   clear bG cX2 R3 HWX HO3
   rw [hany] at qa
   clear hany
   go_wp2_with fail
   generalize w3.alloc _ = w4 at *
   generalize w3.heap.size = G at *
   refine qa.out.mono ?_
   rintro e w5 ⟨rfl, b5⟩
   have R5 := hid (R4.out.below b5)
   have W5 := hid (W4.out.below b5)
   have cG5 := (b5.cell (p := ⟨G, 0, none⟩) zG).trans cG
   have zG5 : G < w5.heap.size := Nat.lt_of_lt_of_le zG b5.size
   obtain ⟨s0, s1, s2, s3, s4⟩ := R5.out.cells
   clear b5 qa cG R4 W4 O4 zG
   have RES := R5.out.res
   have z0 := cell_of_row _ _ 0 _ _ _ RES
   have z1 := cell_of_row _ _ 1 _ _ _ RES
   have z2 := cell_of_row _ _ 2 _ _ _ RES
   have z3 := cell_of_row _ _ 3 _ _ _ RES
   have zf0 := free_zero RES 0
   have zf1 := free_zero RES 1
   have zf2 := free_zero RES 2
   have zf3 := free_zero RES 3
   have FE := hid (set_err (w0 := w) (w := w5) (Z := w.heap.size + 1 + 1 + 1 + 1) (r := RT) (k := 4) R5.out.bel (by omega) hRT2.out (by decide))
   obtain ⟨n0, n1, n2, n3⟩ := zero4_cells RES
   unfold zero4 at FE n0 n1 n2 n3
   clear RES
   go_wp2_with fail
   refine bodyPost_ret (v := .tuple #[setV 0 (.slice none 0 0) (.slice none 0 0) (.slice none 0 0), .int .i64 4]) ?_ rfl FE.out
   first | (simp [results, Tryz.results24, go_sem, n0, n1, n2, n3, setV]; done)
  case true =>
   obtain ⟨xm, hxm, hism⟩ := List.any_eq_true.1 hany
   have hnb : 1 ≤ n ∧ n ≤ 4096 := by
    have := Forks.row_small HRR.out xm hxm
    unfold Forks.isM at hism
    simp at hism
    omega
   have hRT3 : Hid (RT = if tt < 1 then .error 2 else if 4096 - n < tt then .error 2 else if (natI (Forks.nodes v)).any (Forks.inM tt n) = true then .error 2 else .ok (Forks.turnedT v d root 0 (Forks.isM lg n) tt)) := hid (by rw [hRT1.out]; unfold Forks.moveV; rw [if_neg (by rw [hany]; decide)])
   have hsub : IntKind.i64.wrap (4096 - n) = 4096 - n := by simp [IntKind.wrap_i64]; omega
   clear hism hxm
   by_cases ht1 : tt < 1
   ·have hRT2 : Hid (RT = .error 2) := hid (by rw [hRT3.out, if_pos ht1])
    go_enter Tryz.func24, Tryz.ntmps24
    go_wp2_with fail
    generalize ((((w.alloc _).alloc _).alloc _).alloc _).alloc _ = w1 at *
    obtain ⟨t0, t1, -, -, -⟩ := R1.out.cells
    go_wp2_with fail
    refine qw.out.mono ?_
    rintro e w3 ⟨b3, X, rfl, hWX, hgd⟩
    have R3 := hid (R1.out.below b3)
    have HWX := hid hWX
    have HG := hid hgd
    obtain ⟨uv, cX2, ho3⟩ := hWX.rowv
    obtain ⟨auv, cuv, rfl⟩ := OwnExts.slice ho3
    have HO3 := hid ho3
    clear qw b3 t0 t1 hWX hgd ho3
    have bG : Below w3.heap.size w3 (w3.alloc (.cells #[MV1 (w.heap.size + 1) (w.heap.size + 1 + 1)] 120)) := (Below.refl _ _).alloc (Nat.le_refl _) _
    have R4 := hid (R3.out.below bG)
    have W4 := hid (HWX.out.below bG)
    have O4 := hid (own_below HO3.out bG)
    have cG : (w3.alloc (.cells #[MV1 (w.heap.size + 1) (w.heap.size + 1 + 1)] 120)).cell? ⟨w3.heap.size, 0, none⟩ = some (MV1 (w.heap.size + 1) (w.heap.size + 1 + 1)) := box_cell _ _ _ _
    have kc : (w3.alloc (.cells #[.nilFunc] 120)).cell? ⟨w3.heap.size, 0, none⟩ = some .nilFunc := box_cell _ _ _ _
    have kf : (w3.alloc (.cells #[.nilFunc] 120)).frozen? ⟨w3.heap.size, 0, none⟩ = false := free_zero (heap_alloc_new w3 _) 0
    have zG : w3.heap.size < (w3.alloc (.cells #[MV1 (w.heap.size + 1) (w.heap.size + 1 + 1)] 120)).heap.size := by simp
    have cX24 := (bG.cell (p := ⟨X, 2, none⟩) (World.block_lt_of_cell? _ _ cX2)).trans cX2
    have qa := hid (hasMove2_any w3.heap.size (.slice auv R.length cuv) R (Forks.isM lg n) _ (OwnExts.at O4.out) (by omega) (fun x hx wz hz => move2_any x lg n w3.heap.size (w.heap.size + 1) (w.heap.size + 1 + 1) wz ((hz.cell (p := ⟨w3.heap.size, 0, none⟩) zG).trans cG) ((R4.out.below hz).cells.2.2.1) ((R4.out.below hz).cells.2.2.2.1)))
    clear bG cX2 R3 HWX HO3
    rw [hany] at qa
    clear hany
    go_wp2_with fail
    generalize w3.alloc _ = w4 at *
    generalize w3.heap.size = G at *
    refine qa.out.mono ?_
    rintro e w5 ⟨rfl, b5⟩
    have R5 := hid (R4.out.below b5)
    have W5 := hid (W4.out.below b5)
    have cG5 := (b5.cell (p := ⟨G, 0, none⟩) zG).trans cG
    have zG5 : G < w5.heap.size := Nat.lt_of_lt_of_le zG b5.size
    obtain ⟨s0, s1, s2, s3, s4⟩ := R5.out.cells
    clear b5 qa cG R4 W4 O4 zG
    have RES := R5.out.res
    have z0 := cell_of_row _ _ 0 _ _ _ RES
    have z1 := cell_of_row _ _ 1 _ _ _ RES
    have z2 := cell_of_row _ _ 2 _ _ _ RES
    have z3 := cell_of_row _ _ 3 _ _ _ RES
    have zf0 := free_zero RES 0
    have zf1 := free_zero RES 1
    have zf2 := free_zero RES 2
    have zf3 := free_zero RES 3
    have FE := hid (set_err (w0 := w) (w := w5) (Z := w.heap.size + 1 + 1 + 1 + 1) (r := RT) (k := 2) R5.out.bel (by omega) hRT2.out (by decide))
    obtain ⟨n0, n1, n2, n3⟩ := zero4_cells RES
    unfold zero4 at FE n0 n1 n2 n3
    clear RES
    go_wp2_with fail
    refine bodyPost_ret (v := .tuple #[setV 0 (.slice none 0 0) (.slice none 0 0) (.slice none 0 0), .int .i64 2]) ?_ rfl FE.out
    first | (simp [results, Tryz.results24, go_sem, n0, n1, n2, n3, setV]; done)
   by_cases ht2 : 4096 - n < tt
   ·have hRT2 : Hid (RT = .error 2) := hid (by rw [hRT3.out, if_neg ht1, if_pos ht2])
    go_enter Tryz.func24, Tryz.ntmps24
    go_wp2_with fail
    generalize ((((w.alloc _).alloc _).alloc _).alloc _).alloc _ = w1 at *
    obtain ⟨t0, t1, -, -, -⟩ := R1.out.cells
    go_wp2_with fail
    refine qw.out.mono ?_
    rintro e w3 ⟨b3, X, rfl, hWX, hgd⟩
    have R3 := hid (R1.out.below b3)
    have HWX := hid hWX
    have HG := hid hgd
    obtain ⟨uv, cX2, ho3⟩ := hWX.rowv
    obtain ⟨auv, cuv, rfl⟩ := OwnExts.slice ho3
    have HO3 := hid ho3
    clear qw b3 t0 t1 hWX hgd ho3
    have bG : Below w3.heap.size w3 (w3.alloc (.cells #[MV1 (w.heap.size + 1) (w.heap.size + 1 + 1)] 120)) := (Below.refl _ _).alloc (Nat.le_refl _) _
    have R4 := hid (R3.out.below bG)
    have W4 := hid (HWX.out.below bG)
    have O4 := hid (own_below HO3.out bG)
    have cG : (w3.alloc (.cells #[MV1 (w.heap.size + 1) (w.heap.size + 1 + 1)] 120)).cell? ⟨w3.heap.size, 0, none⟩ = some (MV1 (w.heap.size + 1) (w.heap.size + 1 + 1)) := box_cell _ _ _ _
    have kc : (w3.alloc (.cells #[.nilFunc] 120)).cell? ⟨w3.heap.size, 0, none⟩ = some .nilFunc := box_cell _ _ _ _
    have kf : (w3.alloc (.cells #[.nilFunc] 120)).frozen? ⟨w3.heap.size, 0, none⟩ = false := free_zero (heap_alloc_new w3 _) 0
    have zG : w3.heap.size < (w3.alloc (.cells #[MV1 (w.heap.size + 1) (w.heap.size + 1 + 1)] 120)).heap.size := by simp
    have cX24 := (bG.cell (p := ⟨X, 2, none⟩) (World.block_lt_of_cell? _ _ cX2)).trans cX2
    have qa := hid (hasMove2_any w3.heap.size (.slice auv R.length cuv) R (Forks.isM lg n) _ (OwnExts.at O4.out) (by omega) (fun x hx wz hz => move2_any x lg n w3.heap.size (w.heap.size + 1) (w.heap.size + 1 + 1) wz ((hz.cell (p := ⟨w3.heap.size, 0, none⟩) zG).trans cG) ((R4.out.below hz).cells.2.2.1) ((R4.out.below hz).cells.2.2.2.1)))
    clear bG cX2 R3 HWX HO3
    rw [hany] at qa
    clear hany
    go_wp2_with fail
    generalize w3.alloc _ = w4 at *
    generalize w3.heap.size = G at *
    refine qa.out.mono ?_
    rintro e w5 ⟨rfl, b5⟩
    have R5 := hid (R4.out.below b5)
    have W5 := hid (W4.out.below b5)
    have cG5 := (b5.cell (p := ⟨G, 0, none⟩) zG).trans cG
    have zG5 : G < w5.heap.size := Nat.lt_of_lt_of_le zG b5.size
    obtain ⟨s0, s1, s2, s3, s4⟩ := R5.out.cells
    clear b5 qa cG R4 W4 O4 zG
    have RES := R5.out.res
    have z0 := cell_of_row _ _ 0 _ _ _ RES
    have z1 := cell_of_row _ _ 1 _ _ _ RES
    have z2 := cell_of_row _ _ 2 _ _ _ RES
    have z3 := cell_of_row _ _ 3 _ _ _ RES
    have zf0 := free_zero RES 0
    have zf1 := free_zero RES 1
    have zf2 := free_zero RES 2
    have zf3 := free_zero RES 3
    have FE := hid (set_err (w0 := w) (w := w5) (Z := w.heap.size + 1 + 1 + 1 + 1) (r := RT) (k := 2) R5.out.bel (by omega) hRT2.out (by decide))
    obtain ⟨n0, n1, n2, n3⟩ := zero4_cells RES
    unfold zero4 at FE n0 n1 n2 n3
    clear RES
    go_wp2_with fail
    refine bodyPost_ret (v := .tuple #[setV 0 (.slice none 0 0) (.slice none 0 0) (.slice none 0 0), .int .i64 2]) ?_ rfl FE.out
    first | (simp [results, Tryz.results24, go_sem, n0, n1, n2, n3, setV]; done)
   cases hno : (natI (Forks.nodes v)).any (Forks.inM tt n)
   case true =>
    have hRT2 : Hid (RT = .error 2) := hid (by rw [hRT3.out, if_neg ht1, if_neg ht2, if_pos hno])
    go_enter Tryz.func24, Tryz.ntmps24
    go_wp2_with fail
    generalize ((((w.alloc _).alloc _).alloc _).alloc _).alloc _ = w1 at *
    obtain ⟨t0, t1, -, -, -⟩ := R1.out.cells
    go_wp2_with fail
    refine qw.out.mono ?_
    rintro e w3 ⟨b3, X, rfl, hWX, hgd⟩
    have R3 := hid (R1.out.below b3)
    have HWX := hid hWX
    have HG := hid hgd
    obtain ⟨uv, cX2, ho3⟩ := hWX.rowv
    obtain ⟨auv, cuv, rfl⟩ := OwnExts.slice ho3
    have HO3 := hid ho3
    clear qw b3 t0 t1 hWX hgd ho3
    have bG : Below w3.heap.size w3 (w3.alloc (.cells #[MV1 (w.heap.size + 1) (w.heap.size + 1 + 1)] 120)) := (Below.refl _ _).alloc (Nat.le_refl _) _
    have R4 := hid (R3.out.below bG)
    have W4 := hid (HWX.out.below bG)
    have O4 := hid (own_below HO3.out bG)
    have cG : (w3.alloc (.cells #[MV1 (w.heap.size + 1) (w.heap.size + 1 + 1)] 120)).cell? ⟨w3.heap.size, 0, none⟩ = some (MV1 (w.heap.size + 1) (w.heap.size + 1 + 1)) := box_cell _ _ _ _
    have kc : (w3.alloc (.cells #[.nilFunc] 120)).cell? ⟨w3.heap.size, 0, none⟩ = some .nilFunc := box_cell _ _ _ _
    have kf : (w3.alloc (.cells #[.nilFunc] 120)).frozen? ⟨w3.heap.size, 0, none⟩ = false := free_zero (heap_alloc_new w3 _) 0
    have zG : w3.heap.size < (w3.alloc (.cells #[MV1 (w.heap.size + 1) (w.heap.size + 1 + 1)] 120)).heap.size := by simp
    have cX24 := (bG.cell (p := ⟨X, 2, none⟩) (World.block_lt_of_cell? _ _ cX2)).trans cX2
    have qa := hid (hasMove2_any w3.heap.size (.slice auv R.length cuv) R (Forks.isM lg n) _ (OwnExts.at O4.out) (by omega) (fun x hx wz hz => move2_any x lg n w3.heap.size (w.heap.size + 1) (w.heap.size + 1 + 1) wz ((hz.cell (p := ⟨w3.heap.size, 0, none⟩) zG).trans cG) ((R4.out.below hz).cells.2.2.1) ((R4.out.below hz).cells.2.2.2.1)))
    clear bG cX2 R3 HWX HO3
    rw [hany] at qa
    clear hany
    go_wp2_with fail
    generalize w3.alloc _ = w4 at *
    generalize w3.heap.size = G at *
    refine qa.out.mono ?_
    rintro e w5 ⟨rfl, b5⟩
    have R5 := hid (R4.out.below b5)
    have W5 := hid (W4.out.below b5)
    have cG5 := (b5.cell (p := ⟨G, 0, none⟩) zG).trans cG
    have zG5 : G < w5.heap.size := Nat.lt_of_lt_of_le zG b5.size
    obtain ⟨s0, s1, s2, s3, s4⟩ := R5.out.cells
    clear b5 qa cG R4 W4 O4 zG
    have qn := hid (nodes_any W5.out HG.out)
    go_wp2_with fail
    refine qn.out.mono ?_
    rintro e w6 ⟨⟨un, rfl, on6⟩, b6⟩
    have R6 := hid (R5.out.below b6)
    obtain ⟨-, -, -, s26, s36⟩ := R6.out.cells
    have qm := hid (hasMove3_any (w.heap.size + 1 + 1 + 1) (w.heap.size + 1 + 1) un (natI (Forks.nodes v)) (Forks.inM tt n) w6 on6.at (by have := nodes_length v; omega) (fun x hx wz hz => move3_any x tt n (by omega) (by omega) _ _ wz ((R6.out.below hz).cells.2.2.2.2) ((R6.out.below hz).cells.2.2.2.1)))
    rw [hno] at qm
    obtain ⟨an, cn, rfl⟩ := on6.slice
    clear on6 b6 qn hno R5 W5
    go_wp2_with fail
    refine qm.out.mono ?_
    rintro e w7 ⟨rfl, b7⟩
    have R7 := hid (R6.out.below b7)
    clear b7 qm R6
    have RES := R7.out.res
    have z0 := cell_of_row _ _ 0 _ _ _ RES
    have z1 := cell_of_row _ _ 1 _ _ _ RES
    have z2 := cell_of_row _ _ 2 _ _ _ RES
    have z3 := cell_of_row _ _ 3 _ _ _ RES
    have zf0 := free_zero RES 0
    have zf1 := free_zero RES 1
    have zf2 := free_zero RES 2
    have zf3 := free_zero RES 3
    have FE := hid (set_err (w0 := w) (w := w7) (Z := w.heap.size + 1 + 1 + 1 + 1) (r := RT) (k := 2) R7.out.bel (by omega) hRT2.out (by decide))
    obtain ⟨n0, n1, n2, n3⟩ := zero4_cells RES
    unfold zero4 at FE n0 n1 n2 n3
    clear RES
    go_wp2_with fail
    refine bodyPost_ret (v := .tuple #[setV 0 (.slice none 0 0) (.slice none 0 0) (.slice none 0 0), .int .i64 2]) ?_ rfl FE.out
    first | (simp [results, Tryz.results24, go_sem, n0, n1, n2, n3, setV]; done)
   case false =>
    have hRT2 : Hid (RT = .ok (Forks.turnedT v d root 0 (Forks.isM lg n) tt)) := hid (by rw [hRT3.out, if_neg ht1, if_neg ht2, if_neg (by rw [hno]; decide)])
    go_enter Tryz.func24, Tryz.ntmps24
    go_wp2_with fail
    generalize ((((w.alloc _).alloc _).alloc _).alloc _).alloc _ = w1 at *
    obtain ⟨t0, t1, -, -, -⟩ := R1.out.cells
    go_wp2_with fail
    refine qw.out.mono ?_
    rintro e w3 ⟨b3, X, rfl, hWX, hgd⟩
    have R3 := hid (R1.out.below b3)
    have HWX := hid hWX
    have HG := hid hgd
    obtain ⟨uv, cX2, ho3⟩ := hWX.rowv
    obtain ⟨auv, cuv, rfl⟩ := OwnExts.slice ho3
    have HO3 := hid ho3
    clear qw b3 t0 t1 hWX hgd ho3
    have bG : Below w3.heap.size w3 (w3.alloc (.cells #[MV1 (w.heap.size + 1) (w.heap.size + 1 + 1)] 120)) := (Below.refl _ _).alloc (Nat.le_refl _) _
    have R4 := hid (R3.out.below bG)
    have W4 := hid (HWX.out.below bG)
    have O4 := hid (own_below HO3.out bG)
    have cG : (w3.alloc (.cells #[MV1 (w.heap.size + 1) (w.heap.size + 1 + 1)] 120)).cell? ⟨w3.heap.size, 0, none⟩ = some (MV1 (w.heap.size + 1) (w.heap.size + 1 + 1)) := box_cell _ _ _ _
    have kc : (w3.alloc (.cells #[.nilFunc] 120)).cell? ⟨w3.heap.size, 0, none⟩ = some .nilFunc := box_cell _ _ _ _
    have kf : (w3.alloc (.cells #[.nilFunc] 120)).frozen? ⟨w3.heap.size, 0, none⟩ = false := free_zero (heap_alloc_new w3 _) 0
    have zG : w3.heap.size < (w3.alloc (.cells #[MV1 (w.heap.size + 1) (w.heap.size + 1 + 1)] 120)).heap.size := by simp
    have cX24 := (bG.cell (p := ⟨X, 2, none⟩) (World.block_lt_of_cell? _ _ cX2)).trans cX2
    have qa := hid (hasMove2_any w3.heap.size (.slice auv R.length cuv) R (Forks.isM lg n) _ (OwnExts.at O4.out) (by omega) (fun x hx wz hz => move2_any x lg n w3.heap.size (w.heap.size + 1) (w.heap.size + 1 + 1) wz ((hz.cell (p := ⟨w3.heap.size, 0, none⟩) zG).trans cG) ((R4.out.below hz).cells.2.2.1) ((R4.out.below hz).cells.2.2.2.1)))
    clear bG cX2 R3 HWX HO3
    rw [hany] at qa
    clear hany
    go_wp2_with fail
    generalize w3.alloc _ = w4 at *
    generalize w3.heap.size = G at *
    refine qa.out.mono ?_
    rintro e w5 ⟨rfl, b5⟩
    have R5 := hid (R4.out.below b5)
    have W5 := hid (W4.out.below b5)
    have cG5 := (b5.cell (p := ⟨G, 0, none⟩) zG).trans cG
    have zG5 : G < w5.heap.size := Nat.lt_of_lt_of_le zG b5.size
    obtain ⟨s0, s1, s2, s3, s4⟩ := R5.out.cells
    clear b5 qa cG R4 W4 O4 zG
    have qn := hid (nodes_any W5.out HG.out)
    go_wp2_with fail
    refine qn.out.mono ?_
    rintro e w6 ⟨⟨un, rfl, on6⟩, b6⟩
    have R6 := hid (R5.out.below b6)
    have W6 := hid (W5.out.below b6)
    have cG6 := (b6.cell (p := ⟨G, 0, none⟩) zG5).trans cG5
    have zG6 : G < w6.heap.size := Nat.lt_of_lt_of_le zG5 b6.size
    obtain ⟨-, -, -, s26, s36⟩ := R6.out.cells
    have qm := hid (hasMove3_any (w.heap.size + 1 + 1 + 1) (w.heap.size + 1 + 1) un (natI (Forks.nodes v)) (Forks.inM tt n) w6 on6.at (by have := nodes_length v; omega) (fun x hx wz hz => move3_any x tt n (by omega) (by omega) _ _ wz ((R6.out.below hz).cells.2.2.2.2) ((R6.out.below hz).cells.2.2.2.1)))
    rw [hno] at qm
    obtain ⟨an, cn, rfl⟩ := on6.slice
    clear on6 b6 qn hno R5 W5 cG5 zG5
    go_wp2_with fail
    refine qm.out.mono ?_
    rintro e w7 ⟨rfl, b7⟩
    have R7 := hid (R6.out.below b7)
    have W7 := hid (W6.out.below b7)
    have cG7 := (b7.cell (p := ⟨G, 0, none⟩) zG6).trans cG6
    obtain ⟨v0, v1, v2, v3, v4⟩ := R7.out.cells
    have qt := hid (turned_any (MV1 (w.heap.size + 1) (w.heap.size + 1 + 1)) (Forks.isM lg n) tt htt 0 w7 W7.out HG.out root (H.out.keep (.of_below R7.out.bel)) hl (Nat.zero_le d) hd4 (fun wz u l hz hu hll => idxMove_any (w.heap.size + 1) (w.heap.size + 1 + 1) u l (Forks.isM lg n) wz hu.ext (by omega) (fun x hx wy hy => move1_any x lg n _ _ wy ((R7.out.below (hz.trans (hy.mono hz.size))).cells.2.2.1) ((R7.out.below (hz.trans (hy.mono hz.size))).cells.2.2.2.1))))
    generalize Forks.turnedT v d root 0 (Forks.isM lg n) tt = SR at *
    clear b7 qm R6 W6 cG6 zG6 hRT3
    go_wp2_with fail
    refine qt.out.mono ?_
    rintro e w8 ⟨b8, rvv, cvv, fvv, he, h1, h2, h3, -⟩
    obtain rfl : e = .returned (.agg #[.int .i64 SR.depth, rvv, cvv, fvv]) := he
    have R8 := hid (R7.out.below b8)
    have RES := R8.out.res
    have z0 := cell_of_row _ _ 0 _ _ _ RES
    have z1 := cell_of_row _ _ 1 _ _ _ RES
    have z2 := cell_of_row _ _ 2 _ _ _ RES
    have z3 := cell_of_row _ _ 3 _ _ _ RES
    have zf0 := free_zero RES 0
    have zf1 := free_zero RES 1
    have zf2 := free_zero RES 2
    have zf3 := free_zero RES 3
    have hsz7 := R7.out.bel.size
    have FO := hid (set_ok (w0 := w) (Z := w.heap.size + 1 + 1 + 1 + 1) R8.out.bel (by omega) hRT2.out RES (World.ownsRow.mono h1 hsz7) (World.ownsRow.mono h2 hsz7) (World.ownsRow.mono h3 hsz7))
    obtain ⟨arr, crr, rfl⟩ := h1.slice
    obtain ⟨acc, ccc, rfl⟩ := h2.slice
    obtain ⟨aff, cff, rfl⟩ := h3.slice
    have n0 := cell_of_row _ _ 0 _ _ _ FO.out.2
    have n1 := cell_of_row _ _ 1 _ _ _ FO.out.2
    have n2 := cell_of_row _ _ 2 _ _ _ FO.out.2
    have n3 := cell_of_row _ _ 3 _ _ _ FO.out.2
    unfold put4 at FO n0 n1 n2 n3
    obtain ⟨sd, sro, sch, sfr⟩ := SR
    dsimp only at *
    generalize sro.length = nr at *
    generalize sch.length = nc at *
    generalize sfr.length = nf at *
    clear h1 h2 h3 RES b8 qt hRT2 R7 W7
    go_wp2_with fail
    refine bodyPost_ret (v := .tuple #[setV sd (.slice arr nr crr) (.slice acc nc ccc) (.slice aff nf cff), .int .i64 0]) ?_ rfl FO.out.1
    first | (simp [results, Tryz.results24, go_sem, n0, n1, n2, n3, setV]; done)
end Go.Proofs.YtgjmeeiejcbjfaaGreat
