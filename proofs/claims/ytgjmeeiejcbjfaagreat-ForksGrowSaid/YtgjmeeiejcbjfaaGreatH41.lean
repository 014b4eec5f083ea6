/- ForksGrow: what the law keeps in memory. -/
import Derived.Test.YtgjmeeiejcbjfaaGreatH40
import Derived.Test.YtgjmeeiejcbjfaaGreatH39
import Derived.Test.YtgjmeeiejcbjfaaGreatH05
import Derived.Test.YtgjmeeiejcbjfaaGreatH36
import Derived.Deep.DeepCutAuto
set_option linter.unusedSimpArgs false
set_option linter.unusedVariables false
namespace Go.Proofs.YtgjmeeiejcbjfaaGreat
open Go.Lib (hid)
open Go Go.RowKit
def WantAt (w : World) (A : Nat) (f : Nat → Int) : Prop := ∃ cs : Array Value, w.heap[A]? = some (.cells cs 83 (0, 0)) ∧ cs.size = 300 ∧ ∀ k, k < 300 → cs[k]? = some (.int .i64 (f k))
theorem WantAt.cell {w : World} {A k : Nat} {f : Nat → Int} (h : WantAt w A f) (hk : k < 300) : w.cell? ⟨A, k, none⟩ = some (.int .i64 (f k)) := by
 obtain ⟨cs, h1, -, h3⟩ := h
 rw [cell_of_row w A k _ _ _ h1]
 exact h3 k hk
theorem WantAt.free {w : World} {A k : Nat} {f : Nat → Int} (h : WantAt w A f) : w.frozen? ⟨A, k, none⟩ = false := by
 obtain ⟨cs, h1, -, -⟩ := h
 exact free_zero h1 k
theorem WantAt.set {w : World} {A k : Nat} {f : Nat → Int} (h : WantAt w A f) (x : Int) : WantAt (w.setCell ⟨A, k, none⟩ (.int .i64 x)) A (fun j => if j = k then x else f j) := by
 obtain ⟨cs, h1, h2, h3⟩ := h
 refine ⟨_, block_setCell h1 k _, by simpa using h2, fun j hj => ?_⟩
 by_cases e : j = k
 ·subst e
  simp [h2, hj]
 ·dsimp only
  rw [if_neg e, ← h3 j hj, Array.set!_eq_setIfInBounds, Array.getElem?_setIfInBounds_ne (Ne.symm e)]
theorem WantAt.congr {w : World} {A : Nat} {f g : Nat → Int} (h : WantAt w A f) (e : ∀ k, k < 300 → f k = g k) : WantAt w A g := by
 obtain ⟨cs, h1, h2, h3⟩ := h
 exact ⟨cs, h1, h2, fun k hk => by rw [h3 k hk, e k hk]⟩
theorem WantAt.below {w w' : World} {A : Nat} {f : Nat → Int} (h : WantAt w A f) (hb : Below w.heap.size w w') : WantAt w' A f := by
 obtain ⟨cs, h1, h2, h3⟩ := h
 exact ⟨cs, (hb.block A (lt_of_block h1)).trans h1, h2, h3⟩
theorem WantAt.keepT {w w' : World} {A : Nat} {f : Nat → Int} (h : WantAt w A f) (hk : KeepT 83 w w') : WantAt w' A f := by
 obtain ⟨cs, h1, h2, h3⟩ := h
 exact ⟨cs, hk _ _ _ h1, h2, h3⟩
set_option maxRecDepth 100000 in
theorem want_zero (w : World) : WantAt (w.alloc (.cells Tryz.zeroCells83 83)) w.heap.size (fun _ => 0) := by
 have e : Tryz.zeroCells83 = (List.replicate 300 (Value.int .i64 0)).toArray := by kernel_rfl
 refine ⟨_, heap_alloc_new w _, by rw [e]; rfl, fun k hk => ?_⟩
 rw [e, List.getElem?_toArray, List.getElem?_replicate, if_pos hk]
structure GS (w : World) (W D U A : Nat) (us : List Bool) (L : List ByteArray) (d : Nat) (rv : Value) (root : EL) (v : Forks.V) (R : EL) (f : Nat → Int) (wz : World) : Prop where
 wa : WorldAt w.heap.size wz W D U us L (d : Int) rv root
 go : Forks.GrowOk us L d root v R
 wt : WantAt wz A f
 bel : Below w.heap.size w wz
section
variable {w wz wy : World} {W D U A : Nat} {us : List Bool} {L : List ByteArray} {d : Nat} {rv : Value} {root R : EL} {v : Forks.V} {f g : Nat → Int}
theorem GS.below (h : GS w W D U A us L d rv root v R f wz) (hb : Below wz.heap.size wz wy) : GS w W D U A us L d rv root v R f wy := ⟨h.wa.below hb, h.go, h.wt.below hb, h.bel.trans (hb.mono h.bel.size)⟩
theorem GS.set (h : GS w W D U A us L d rv root v R f wz) (hA : w.heap.size ≤ A) (k : Nat) (x : Int) : GS w W D U A us L d rv root v R (fun j => if j = k then x else f j) (wz.setCell ⟨A, k, none⟩ (.int .i64 x)) := by
 obtain ⟨cs, h1, h2, h3⟩ := h.wt
 have hk : ∀ {T : TypeId}, T ≠ 83 → KeepT T wz (wz.setCell ⟨A, k, none⟩ (.int .i64 x)) := fun hT => KeepT.set (a := ⟨A, k, none⟩) h1 hT
 exact ⟨⟨hk (by decide) _ _ _ h.wa.blk, h.wa.row.keepT (hk (by decide)), hk (by decide) _ _ _ h.wa.use, own_keepT h.wa.root (hk (by decide)), h.wa.loW, h.wa.loD, h.wa.loU, h.wa.neD, h.wa.neU, h.wa.neDU⟩, h.go, WantAt.set ⟨cs, h1, h2, h3⟩ x, h.bel.setCell hA _⟩
theorem GS.congr (h : GS w W D U A us L d rv root v R f wz) (e : ∀ k, k < 300 → f k = g k) : GS w W D U A us L d rv root v R g wz := ⟨h.wa, h.go, h.wt.congr e, h.bel⟩
end
theorem keep_setA {w : World} {A k : Nat} {x : Int} {f : Nat → Int} (h : WantAt w A f) {T : TypeId} (hT : T ≠ 83) : KeepT T w (w.setCell ⟨A, k, none⟩ (.int .i64 x)) := by
 obtain ⟨cs, h1, -, -⟩ := h
 exact KeepT.set (a := ⟨A, k, none⟩) h1 hT
def usedTo (us : List Bool) (n : Nat) : Nat := ((List.range n).filter fun b => us.getD b true).length
theorem usedTo_succ (us : List Bool) (n : Nat) : usedTo us (n + 1) = usedTo us n + if us.getD n true = true then 1 else 0 := by
 unfold usedTo
 rw [List.range_succ, List.filter_append, List.length_append]
 congr 1
 rw [List.filter_cons]
 cases us.getD n true <;> rfl
theorem usedTo_le (us : List Bool) (n : Nat) : usedTo us n ≤ n := by
 unfold usedTo
 have := List.length_filter_le (fun b => us.getD b true) (List.range n)
 rwa [List.length_range] at this
set_option maxRecDepth 100000 in
theorem usedTo_nodes {us : List Bool} {v : Forks.V} (h : ∀ b, b < 4096 → us.getD b true = Forks.has v b) : usedTo us 4096 = (Forks.nodes v).length := by
 unfold usedTo Forks.nodes
 congr 1
 exact List.filter_congr (fun b hb => h b (List.mem_range.1 hb))
end Go.Proofs.YtgjmeeiejcbjfaaGreat
namespace Go.Proofs.YtgjmeeiejcbjfaaGreat
open Go.Lib (hid)
open Go Go.RowKit
structure GN (w : World) (W D U A : Nat) (us : List Bool) (L : List ByteArray) (d : Nat) (rv : Value) (root : EL) (v : Forks.V) (R : EL) (f : Nat → Int) (nv ov : Value) (wz : World) : Prop where
 g : GS w W D U A us L d rv root v R f wz
 now : OwnExts w.heap.size wz nv R
 nod : OwnInts w.heap.size wz ov (natI (Forks.nodes v))
section
variable {w wz wy : World} {W D U A : Nat} {us : List Bool} {L : List ByteArray} {d : Nat} {rv nv ov : Value} {root R : EL} {v : Forks.V} {f g : Nat → Int}
theorem GN.below (h : GN w W D U A us L d rv root v R f nv ov wz) (hb : Below wz.heap.size wz wy) : GN w W D U A us L d rv root v R f nv ov wy := ⟨h.g.below hb, h.now.below hb, h.nod.below hb⟩
set_option maxRecDepth 100000 in
theorem GS.readP (h : GS w W D U A us L d rv root v R f wz) (bad : Int) (P : Nat) (hP : wz.heap.size = P) (wy : World) (hw : wy = (wz.alloc (.cells #[.slice (some ⟨D, 0, none⟩) 4096 4096] 40)).alloc (.cells #[.int .i64 bad] 3)) :
  GS w W D U A us L d rv root v R f wy ∧ DiskAt wy.heap.size wy (RDV P (P + 1)) ⟨L, bad⟩ := by
 have hL := h.go.wo.len
 subst hw
 subst hP
 have h0 := heap_alloc_new wz (.cells #[.slice (some ⟨D, 0, none⟩) 4096 4096] 40)
 have h1 := heap_alloc_new (wz.alloc (.cells #[.slice (some ⟨D, 0, none⟩) 4096 4096] 40)) (.cells #[.int .i64 bad] 3)
 rw [asz] at h1
 have bA : Below wz.heap.size wz ((wz.alloc (.cells #[.slice (some ⟨D, 0, none⟩) 4096 4096] 40)).alloc (.cells #[.int .i64 bad] 3)) := ((Below.refl _ _).alloc (Nat.le_refl _) _).alloc (by simp) _
 have hb := h.below bA
 refine ⟨hb, wz.heap.size, wz.heap.size + 1, D, 4096, rfl, by simp; omega, by simp, hb.wa.row.lt, by dsimp only; omega, ?_, cell_of_row _ _ 0 _ _ _ h1, fun k s hk => hb.wa.row.cellAt k (by rw [List.getElem?_map, hk]; rfl)⟩
 rw [cell_of_row _ _ 0 _ _ _ (heap_alloc_at h0 _)]
 show _ = some (Value.slice (some ⟨D, 0, none⟩) L.length 4096)
 rw [hL]
 rfl
set_option maxRecDepth 100000 in
theorem GS.walk {k m : Nat} (h : GS w W D U A us L d rv root v R f wz) (P : Nat) (hdk : DiskAt wz.heap.size wz (RDV P (P + 1)) ⟨L, -1⟩) (hk : R.length = k) (hm : (natI (Forks.nodes v)).length = m) :
  Calls Tryz.prog 19 #[.agg #[.int .i64 (d : Int), rv], RDV P (P + 1)] wz fun e w' => Below wz.heap.size wz w' ∧ ∃ a1 c1 a2 c2, e = .returned (.tuple #[.slice a1 k c1, .slice a2 m c2, .int .i64 0]) ∧ GN w W D U A us L d rv root v R f (.slice a1 k c1) (.slice a2 m c2) w' := by
 subst hk
 subst hm
 have hG := h.go
 have hok := (Forks.walkT_okr hG.wo.walk).1
 refine (Walk_any P (P + 1) ⟨L, -1⟩ d rv root (rootOk_small hok) (OwnEnts.ents h.wa.root).ext (by have := hok.2.2.1; omega) (by have := hok.1; have := hok.2.1; omega) hdk (rd_small hG.sm)).mono ?_
 intro e w' h'
 rw [hG.wo.walk] at h'
 obtain ⟨h1, a1, c1, a2, c2, rfl, o1, o2⟩ := WalkTold.flat h'
 exact ⟨h1, a1, c1, a2, c2, rfl, h.below h1, World.ownsRow.mono o1 h.bel.size, World.ownsRow.mono o2 h.bel.size⟩
end
theorem node_used {us : List Bool} {v : Forks.V} (h : ∀ b, b < 4096 → us.getD b true = Forks.has v b) (k : Nat) (hk : k < (natI (Forks.nodes v)).length) : ∃ b : Nat, b < 4096 ∧ (natI (Forks.nodes v)).getD k 0 = (b : Int) ∧ us.getD b true = true := by
 have hm := getD_mem (natI (Forks.nodes v)) k 0 hk
 generalize (natI (Forks.nodes v)).getD k 0 = z at *
 unfold natI at hm
 obtain ⟨b, hb, rfl⟩ := List.mem_map.1 hm
 unfold Forks.nodes at hb
 obtain ⟨h1, h2⟩ := List.mem_filter.1 hb
 have h3 := List.mem_range.1 h1
 exact ⟨b, h3, rfl, (h b h3).trans h2⟩
end Go.Proofs.YtgjmeeiejcbjfaaGreat
namespace Go.Proofs.YtgjmeeiejcbjfaaGreat
open Go.Lib (hid)
open Go Go.RowKit
theorem StepsAt.cells {w : World} {ad : Option Addr} {n cap : Nat} {l : List Forks.StepV} (h : StepsAt w (.slice ad n cap) l) (i : Nat) (hi : i < l.length) : ∃ g off, ad = some ⟨g, off, none⟩ ∧ ∀ j u, (stepC (l.getD i step0))[j]? = some u → w.cell? ⟨g, off + i * 7 + j, none⟩ = some u := by
 rcases h with ⟨h, rfl⟩ | ⟨b, off, c, h, hc⟩
 ·simp at hi
 ·cases h
  exact ⟨b, off, rfl, fun j u hu => by rw [Nat.add_assoc]; exact hc i hi j u hu⟩
set_option maxHeartbeats 32000000 in
set_option maxRecDepth 100000 in
theorem ForksGrow_walk {w : World} (ad : Option Addr) (cap : Nat) (l : List Forks.StepV) (h : StepsIn w (.slice ad l.length cap) l) :
  Calls Tryz.prog 8 #[.slice ad l.length cap] w fun e w' => e = .returned (.bool true) ∧ Below w.heap.size w w' := by
 have H := hid h
 have qb := hid (fun wx => begun_any wx)
 have hal := hid (fun wx => alive_any wx)
 clear h
 go_enter Tryz.func8, Tryz.ntmps8
 by_cases h40 : 40 < (l.length : Int)
 ·have d0 : decide ((40 : Int) < (l.length : Int)) = true := decide_eq_true h40
  have d1 : decide (40 < l.length) = true := decide_eq_true (by omega)
  clear qb hal h40
  go_wp2_with fail
  go_ret
  exact ⟨rfl, Below.refl _ _⟩
 have d0 : decide ((40 : Int) < (l.length : Int)) = false := decide_eq_false h40
 have d1 : decide (40 < l.length) = false := decide_eq_false (by omega)
 have hll : l.length ≤ 40 := by omega
 clear h40
 go_wp2_with fail
 refine (qb.out _).mono ?_
 rintro e w1 ⟨W, D, U, rfl, hw1, b1⟩
 have bA : Below w1.heap.size w1 (w1.alloc (.cells Tryz.zeroCells83 83)) := (Below.refl _ _).alloc (Nat.le_refl _) _
 have HG0 : Hid (GS w W D U w1.heap.size (List.replicate 4096 false) (diskOf []) 0 (.slice none 0 0) [] [] [] (fun k => Forks.wantB [] k) (w1.alloc (.cells Tryz.zeroCells83 83))) := hid ⟨hw1.below bA, Forks.grow_none (diskOf_len []) (fun s hs => by
  rcases diskOf_small (l := []) rfl s hs with h | h
  ·omega
  ·rw [h, zblk_size]; omega), (want_zero w1).congr (fun k _ => rfl), b1.trans (bA.mono b1.size)⟩
 have hA : w.heap.size ≤ w1.heap.size := b1.size
 generalize diskOf [] = L0 at *
 generalize hu0 : List.replicate 4096 false = us0 at *
 clear hw1 b1 bA hu0 qb d0 d1
 go_wp2_with fail
 generalize w1.alloc _ = w2 at *
 generalize w1.heap.size = A at *
 clear w1
 go_loopw [5] (fun q wr => ∃ (i : Nat) (us : List Bool) (L : List ByteArray) (d : Nat) (rv : Value) (root : EL) (v : Forks.V) (R : EL), i ≤ l.length ∧ q = .int .i64 (i : Int) ∧ Hid (GS w W D U A us L d rv root v R (fun k => Forks.wantB R k) wr)) (fun q _ => l.length - (intOf q).toNat)
 case atStart => exact ⟨0, us0, L0, 0, .slice none 0 0, [], [], [], Nat.zero_le _, rfl, HG0⟩
 case round =>
  clear HG0
  obtain ⟨i, us, L, d, rv, root, v, R, hi, rfl, hg⟩ := hrel
  by_cases hlt : i < l.length
  case neg =>
   have hie : l.length = i := by omega
   have BL := hid hg.out.bel
   have d0 : decide ((i : Int) < (l.length : Int)) = false := decide_eq_false (by omega)
   have d1 : decide (i < l.length) = false := decide_eq_false hlt
   clear hg hie hlt H
   go_wp2_with fail
   refine (hal.out _).mono ?_
   rintro e wz ⟨rfl, bz⟩
   have BZ := hid (BL.out.trans (bz.mono BL.out.size))
   clear bz
   go_wp2_with fail
   go_ret
   exact ⟨rfl, BZ.out⟩
  case pos =>
   obtain ⟨g0, off0, had, hc⟩ := H.out.at_.cells i hlt
   obtain ⟨x, hx⟩ : ∃ x, x = l.getD i step0 := ⟨_, rfl⟩
   have HX : Hid (StepIn x) := hid (by rw [hx]; exact H.out.ok _ (getD_mem l i step0 hlt))
   rw [← hx] at hc
   have hcell : ∀ j u, (stepC x)[j]? = some u → wr.cell? ⟨g0, off0 + i * 7 + j, none⟩ = some u := fun j u hu => (hg.out.bel.cell (p := ⟨g0, off0 + i * 7 + j, none⟩) (World.block_lt_of_cell? _ _ (hc j u hu))).trans (hc j u hu)
   have c0 : wr.cell? ⟨g0, off0 + i * 7, none⟩ = some (.int .u8 x.kind) := hcell 0 _ rfl
   have c1 : wr.cell? ⟨g0, off0 + i * 7 + 1, none⟩ = some (.int .u16 x.fr) := hcell 1 _ rfl
   have c2 : wr.cell? ⟨g0, off0 + i * 7 + 2, none⟩ = some (.int .u16 x.tt) := hcell 2 _ rfl
   have c3 : wr.cell? ⟨g0, off0 + i * 7 + 3, none⟩ = some (.int .u8 x.many) := hcell 3 _ rfl
   have c4 : wr.cell? ⟨g0, off0 + i * 7 + 4, none⟩ = some (.int .u8 x.len) := hcell 4 _ rfl
   have c5 : wr.cell? ⟨g0, off0 + i * 7 + 5, none⟩ = some (.int .u8 x.gap) := hcell 5 _ rfl
   have c6 : wr.cell? ⟨g0, off0 + i * 7 + 6, none⟩ = some (.int .u16 x.pos) := hcell 6 _ rfl
   clear hcell hc hx
   cases had
   have i0 : (0 : Int) ≤ (i : Int) := by omega
   have i1 : (i : Int) < (l.length : Int) := by omega
   go_upto_region 9 with fail
   have XB0 := heap_alloc_new wr (.cells #[.int .u8 x.kind, .int .u16 x.fr, .int .u16 x.tt, .int .u8 x.many, .int .u8 x.len, .int .u8 x.gap, .int .u16 x.pos] 86)
   have bX : Below wr.heap.size wr (wr.alloc (.cells #[.int .u8 x.kind, .int .u16 x.fr, .int .u16 x.tt, .int .u8 x.many, .int .u8 x.len, .int .u8 x.gap, .int .u16 x.pos] 86)) := (Below.refl _ _).alloc (Nat.le_refl _) _
   have HG1 := hid (hg.out.below bX)
   have hXA : w.heap.size ≤ wr.heap.size := hg.out.bel.size
   clear hg bX c0 c1 c2 c3 c4 c5 c6 i0 i1
   generalize wr.alloc _ = w3 at *
   generalize wr.heap.size = Xb at *
   have XB := hid XB0
   have k0 := cell_of_row _ _ 0 _ _ _ XB0
   have k1 := cell_of_row _ _ 1 _ _ _ XB0
   have k2 := cell_of_row _ _ 2 _ _ _ XB0
   have k3 := cell_of_row _ _ 3 _ _ _ XB0
   have k4 := cell_of_row _ _ 4 _ _ _ XB0
   have k5 := cell_of_row _ _ 5 _ _ _ XB0
   have k6 := cell_of_row _ _ 6 _ _ _ XB0
   have q0 := step_any x HX.out HG1.out.wa HG1.out.go HG1.out.bel.size
   unfold stepC at q0
   have QS := hid q0
   clear q0 XB0
   go_wp2_with fail
   refine QS.out.mono ?_
   rintro e w4 ⟨did, us', L', d', rv', root', v', R', wv, rfl, wa', go', ow, only, rel⟩
   clear QS k0 k1 k2 k3 k4 k5 k6
   have HR : Exts.Row R := (Forks.walkT_okr HG1.out.go.wo.walk).2.1
   have HRr := hid HR
   have HGR := hid HG1.out.go.gr
   have XB4 : Hid (w4.heap[Xb]? = some (.cells #[.int .u8 x.kind, .int .u16 x.fr, .int .u16 x.tt, .int .u8 x.many, .int .u8 x.len, .int .u8 x.gap, .int .u16 x.pos] 86 (0, 0))) := hid (only.keepT HG1.out.wa (by decide) (by decide) (by decide) _ _ _ XB.out)
   have HG4 : Hid (GS w W D U A us' L' d' rv' root' v' R' (fun k => Forks.wantB R k) w4) := hid ⟨wa', go', HG1.out.wt.keepT (only.keepT HG1.out.wa (by decide) (by decide) (by decide)), HG1.out.bel.trans (only.below HG1.out.bel.size HG1.out.wa.loW HG1.out.wa.loD HG1.out.wa.loU)⟩
   have OW : Hid (OwnExts w.heap.size w4 wv R) := hid (World.ownsRow.mono ow HG1.out.bel.size)
   obtain ⟨aw, cw, rfl⟩ := OwnExts.slice ow
   have REL := hid rel
   clear wa' go' ow only rel HG1 XB HR
   go_upto_if 52 with fail
   go_cut [] (fun wx => Hid (GS w W D U A us' L' d' rv' root' v' R' (fun k => Forks.wantB R' k) wx))
   case first =>
    rcases REL.out with ⟨rfl, hRne, hR'⟩ | ⟨rfl, hR'⟩ | ⟨rfl, hR'⟩
    ·clear REL
     obtain ⟨ix, hix⟩ : ∃ ix, ix = x.fr % R.length := ⟨_, rfl⟩
     have hpos : 0 < R.length := by omega
     have hkl : R.length ≤ 2048 := Forks.row_len HRr.out
     have hixl : ix < R.length := by rw [hix]; exact Nat.mod_lt _ hpos
     have e5 : (x.fr : Int) % (R.length : Int) = (ix : Int) := by rw [hix]; rfl
     have e6 : x.fr % R.length = ix := hix.symm
     have e7 : Int.tmod (x.fr : Int) (R.length : Int) = (ix : Int) := by rw [hix]; rfl
     rw [← hix] at hR'
     obtain ⟨-, g, off, hge, d0, d1, d2⟩ := OW.out.at.cells ix hixl
     have hyR := getD_mem R ix (0, 0, 0) hixl
     generalize R.getD ix (0, 0, 0) = y at *
     obtain ⟨y1, yp, ym⟩ := y
     dsimp only at hR' d0 d1 d2
     have hym := HRr.out.may _ hyR
     have hyg := HGR.out _ hyR
     unfold Forks.GR Exts.fin at hyg
     unfold Exts.may at hym
     dsimp only at hyg hym
     obtain ⟨tt, htt⟩ : ∃ tt : Nat, tt = 1 + x.pos % 2000 := ⟨_, rfl⟩
     have htt' : 1 + ((x.pos % 2000 : Nat) : Int) = (tt : Int) := by rw [htt]; simp
     rw [htt'] at hR'
     obtain ⟨a, rfl⟩ : ∃ a : Nat, y1 = (a : Int) := ⟨y1.toNat, by omega⟩
     obtain ⟨m, rfl⟩ : ∃ m : Nat, ym = (m : Int) := ⟨ym.toNat, by omega⟩
     have ham : a + m ≤ 300 := by omega
     have hm1 : 1 ≤ m := by omega
     have WM : Hid (∀ k : Int, Forks.wantB (R.map (Forks.gT (Forks.isM (a : Int) (m : Int)) (tt : Int))) k = if (a : Int) ≤ k ∧ k < (a : Int) + (m : Int) then (tt : Int) + (k - a) else Forks.wantB R k) := hid (fun k => Forks.want_move HRr.out hyR k)
     subst hR'
     have c1 := cell_of_row _ _ 1 _ _ _ XB4.out
     have hfrl := HX.out.fr
     have hposl := HX.out.pos
     have u1 : IntKind.i64.wrap (x.fr : Int) = (x.fr : Int) := IntWalk.i64_in _ (by omega)
     have u2 : IntKind.i64.wrap (ix : Int) = (ix : Int) := IntWalk.i64_in _ (by omega)
     have i0 : (0 : Int) ≤ (ix : Int) := by omega
     have i1 : (ix : Int) < (R.length : Int) := by omega
     have hk0 : ((R.length : Int) == 0) = false := by rw [beq_eq_false_iff_ne]; omega
     have hk3 : ¬ R.length = 0 := by omega
     have hk4 : (R.length == 0) = false := by rw [beq_eq_false_iff_ne]; omega
     have HT := hid htt
     have hposl2 : (x.pos : Int) ≤ 65535 := by omega
     have httl : tt ≤ 2000 := by omega
     clear hym hyg hyR hix hRne hpos htt htt' hposl
     cases hge
     go_upto_region 14 with fail
     have hYB := heap_alloc_new w4 (.cells #[.int .i64 (a : Int), .int .i64 yp, .int .i64 (m : Int)] 53)
     have bY : Below w4.heap.size w4 (w4.alloc (.cells #[.int .i64 (a : Int), .int .i64 yp, .int .i64 (m : Int)] 53)) := (Below.refl _ _).alloc (Nat.le_refl _) _
     have XB5 := (bY.block _ (lt_of_block XB4.out)).trans XB4.out
     have HG5 := HG4.out.below bY
     clear OW d0 d1 d2 c1 u1 u2 i0 i1 hk0 hk3 hk4 e5 e6 e7 bY XB4 HG4 hfrl
     generalize w4.alloc _ = w5 at *
     generalize w4.heap.size = Yb at *
     have HG6 : Hid (GS w W D U A us' L' d' rv' root' v' (R.map (Forks.gT (Forks.isM (a : Int) (m : Int)) (tt : Int))) (fun k => if (a : Int) ≤ k ∧ (k : Int) < (a : Int) + ((0 : Nat) : Int) then (tt : Int) + ((k : Int) - a) else Forks.wantB R k) w5) := hid (HG5.congr (fun k _ => by rw [if_neg (by omega)]))
     have XB := hid XB5
     have YB := hid hYB
     clear XB5 hYB HG5
     go_wp2_with fail
     go_loopw [11] (fun q wq => ∃ n : Nat, n ≤ m ∧ q = .int .i64 (n : Int) ∧ Hid (GS w W D U A us' L' d' rv' root' v' (R.map (Forks.gT (Forks.isM (a : Int) (m : Int)) (tt : Int))) (fun k => if (a : Int) ≤ k ∧ (k : Int) < (a : Int) + (n : Int) then (tt : Int) + ((k : Int) - a) else Forks.wantB R k) wq) ∧ Hid (wq.heap[Xb]? = some (.cells #[.int .u8 x.kind, .int .u16 x.fr, .int .u16 x.tt, .int .u8 x.many, .int .u8 x.len, .int .u8 x.gap, .int .u16 x.pos] 86 (0, 0))) ∧ Hid (wq.heap[Yb]? = some (.cells #[.int .i64 (a : Int), .int .i64 yp, .int .i64 (m : Int)] 53 (0, 0)))) (fun q _ => m - (intOf q).toNat)
     case atStart => exact ⟨0, Nat.zero_le _, rfl, HG6, XB, YB⟩
     case round =>
      clear HG6 XB YB
      rename World => wq
      obtain ⟨n, hn, rfl, hg, hx, hy⟩ := hrel
      have k2 := cell_of_row _ _ 2 _ _ _ hy.out
      by_cases hlt : n < m
      case neg =>
       have d0 : decide ((n : Int) < (m : Int)) = false := decide_eq_false (by omega)
       have d1 : decide (n < m) = false := decide_eq_false hlt
       have hnm : n = m := by omega
       subst hnm
       have HG7 := hid (hg.out.congr (fun k _ => (WM.out k).symm))
       clear hg hx hy WM
       go_wp2_with fail
       go_meet
       exact HG7
      case pos =>
       have d0 : decide ((n : Int) < (m : Int)) = true := decide_eq_true (by omega)
       have d1 : decide (n < m) = true := decide_eq_true hlt
       have k0 := cell_of_row _ _ 0 _ _ _ hy.out
       have x6 := cell_of_row _ _ 6 _ _ _ hx.out
       have e0 : (a : Int) + (n : Int) = ((a + n : Nat) : Int) := by omega
       have hK : a + n < 300 := by omega
       obtain ⟨K, hKe⟩ : ∃ K, K = a + n := ⟨_, rfl⟩
       rw [← hKe] at e0 hK
       have u0 : IntKind.i64.wrap ((a : Int) + (n : Int)) = (K : Int) := by rw [e0]; exact IntWalk.i64_in _ (by omega)
       have i0 : (0 : Int) ≤ (K : Int) := by omega
       have i1 : (K : Int) < 300 := by omega
       obtain ⟨p2, hp2⟩ : ∃ p2, p2 = x.pos % 2000 := ⟨_, rfl⟩
       have htt3 : tt = 1 + p2 := by rw [HT.out, hp2]
       have e7 : (x.pos : Int) % 2000 = (p2 : Int) := by omega
       have e8 : Int.tmod (x.pos : Int) 2000 = (p2 : Int) := by rw [hp2]; rfl
       have u3 : IntKind.i64.wrap (x.pos : Int) = (x.pos : Int) := IntWalk.i64_in _ (by omega)
       have u4 : IntKind.i64.wrap (p2 : Int) = (p2 : Int) := IntWalk.i64_in _ (by omega)
       have e9 : 1 + (p2 : Int) = (tt : Int) := by omega
       have u5 : IntKind.i64.wrap (1 + (p2 : Int)) = (tt : Int) := by rw [e9]; exact IntWalk.i64_in _ (by omega)
       have u6' : IntKind.i64.wrap ((tt : Int) + (n : Int)) = (tt : Int) + (n : Int) := IntWalk.i64_in _ (by omega)
       obtain ⟨z, wc0⟩ : ∃ z, wq.cell? ⟨A, K, none⟩ = some (.int .i64 z) := ⟨_, hg.out.wt.cell hK⟩
       have wf0 : wq.frozen? ⟨A, K, none⟩ = false := hg.out.wt.free
       have HG8 : Hid (GS w W D U A us' L' d' rv' root' v' (R.map (Forks.gT (Forks.isM (a : Int) (m : Int)) (tt : Int))) (fun k => if (a : Int) ≤ k ∧ (k : Int) < (a : Int) + ((n + 1 : Nat) : Int) then (tt : Int) + ((k : Int) - a) else Forks.wantB R k) (wq.setCell ⟨A, K, none⟩ (.int .i64 ((tt : Int) + (n : Int))))) := hid ((hg.out.set hA K ((tt : Int) + (n : Int))).congr (fun k _ => by
        by_cases e : k = K
        ·rw [if_pos e, if_pos (by omega)]; omega
        ·rw [if_neg e]
         by_cases e2 : (a : Int) ≤ k ∧ (k : Int) < (a : Int) + (n : Int)
         ·rw [if_pos e2, if_pos (by omega)]
         ·rw [if_neg e2, if_neg (by omega)]))
       have hX8 := keep_setA (k := K) (x := (tt : Int) + (n : Int)) hg.out.wt (T := 86) (by decide) _ _ _ hx.out
       have hY8 := keep_setA (k := K) (x := (tt : Int) + (n : Int)) hg.out.wt (T := 53) (by decide) _ _ _ hy.out
       have X8 := hid hX8
       have Y8 := hid hY8
       have un : IntKind.i64.wrap ((n : Int) + 1) = (n : Int) + 1 := IntWalk.i64_in _ (by omega)
       clear hX8 hY8 hg hx hy hp2 htt3 e0 e9 hKe hn hlt
       go_wp2_with fail
       go_roundw
       case rel => exact ⟨n + 1, of_decide_eq_true d1, by go_num, HG8, X8, Y8⟩
       case measure => have := of_decide_eq_true d1; simp [intOf]; omega
    ·subst hR'
     go_wp2_with fail
     go_meet
     exact HG4
    ·clear REL OW
     have q0 := row_any x HX.out w4
     unfold stepC at q0
     have QR := hid q0
     obtain ⟨o1, o2, o3, o4, o5, o6, o7⟩ := x.ok
     have WR : Hid (∀ k : Int, Forks.wantB R' k = if (x.lo : Int) ≤ k ∧ k < (x.hi : Int) then Forks.wantB x.row k else Forks.wantB R k) := hid (fun k => by rw [hR']; exact Forks.want_repl HRr.out o7 k)
     have O3 := hid o3
     have O5 := hid o5
     have c0 := cell_of_row _ _ 0 _ _ _ XB4.out
     have c1 := cell_of_row _ _ 1 _ _ _ XB4.out
     have c2 := cell_of_row _ _ 2 _ _ _ XB4.out
     have c3 := cell_of_row _ _ 3 _ _ _ XB4.out
     have c4 := cell_of_row _ _ 4 _ _ _ XB4.out
     have c5 := cell_of_row _ _ 5 _ _ _ XB4.out
     have c6 := cell_of_row _ _ 6 _ _ _ XB4.out
     clear q0 o3 o5 o6 o7 hR' XB4
     generalize x.lo = lo at *
     generalize x.hi = hi at *
     generalize x.row = ro at *
     go_wp2_with fail
     refine QR.out.mono ?_
     rintro e w5 ⟨vx, rfl, ox, b5⟩
     obtain ⟨ax, cx, rfl⟩ := OwnExts.slice ox
     have HOX := hid ox
     have HG5 := HG4.out.below b5
     have HG6 : Hid (GS w W D U A us' L' d' rv' root' v' R' (fun k => if (lo : Int) ≤ k ∧ (k : Int) < (lo : Int) then 0 else Forks.wantB R k) w5) := hid (HG5.congr (fun k _ => by rw [if_neg (by omega)]))
     clear HG4 QR ox b5 HG5 c0 c1 c2 c3 c4 c5 c6
     go_wp2_with fail
     go_loopw [15] (fun q wq => ∃ n : Nat, lo ≤ n ∧ n ≤ hi ∧ q = .int .i64 (n : Int) ∧ Hid (GS w W D U A us' L' d' rv' root' v' R' (fun k => if (lo : Int) ≤ k ∧ (k : Int) < (n : Int) then 0 else Forks.wantB R k) wq) ∧ Hid (OwnExts w4.heap.size wq (.slice ax ro.length cx) ro)) (fun q _ => hi - (intOf q).toNat)
     case atStart => exact ⟨lo, Nat.le_refl _, o1, rfl, HG6, HOX⟩
     case round =>
      clear HG6 HOX
      rename World => wq
      obtain ⟨n, hn0, hn, rfl, hg, ho⟩ := hrel
      by_cases hlt : n < hi
      case pos =>
       have d0 : decide ((n : Int) < (hi : Int)) = true := decide_eq_true (by omega)
       have d1 : decide (n < hi) = true := decide_eq_true hlt
       have hK : n < 300 := by omega
       have i0 : (0 : Int) ≤ (n : Int) := by omega
       have i1 : (n : Int) < 300 := by omega
       obtain ⟨z, wc0⟩ : ∃ z, wq.cell? ⟨A, n, none⟩ = some (.int .i64 z) := ⟨_, hg.out.wt.cell hK⟩
       have wf0 : wq.frozen? ⟨A, n, none⟩ = false := hg.out.wt.free
       have HG8 : Hid (GS w W D U A us' L' d' rv' root' v' R' (fun k => if (lo : Int) ≤ k ∧ (k : Int) < ((n + 1 : Nat) : Int) then 0 else Forks.wantB R k) (wq.setCell ⟨A, n, none⟩ (.int .i64 0))) := hid ((hg.out.set hA n 0).congr (fun k _ => by
        by_cases e : k = n
        ·rw [if_pos e, if_pos (by omega)]
        ·rw [if_neg e]
         by_cases e2 : (lo : Int) ≤ k ∧ (k : Int) < (n : Int)
         ·rw [if_pos e2, if_pos (by omega)]
         ·rw [if_neg e2, if_neg (by omega)]))
       have O8 : Hid (OwnExts w4.heap.size (wq.setCell ⟨A, n, none⟩ (.int .i64 0)) (.slice ax ro.length cx) ro) := hid (own_keepT ho.out (keep_setA hg.out.wt (by decide)))
       have un : IntKind.i64.wrap ((n : Int) + 1) = (n : Int) + 1 := IntWalk.i64_in _ (by omega)
       clear hg ho hn hlt
       go_wp2_with fail
       go_roundw
       case rel => exact ⟨n + 1, by omega, of_decide_eq_true d1, by go_num, HG8, O8⟩
       case measure => have := of_decide_eq_true d1; simp [intOf]; omega
      case neg =>
       have d0 : decide ((n : Int) < (hi : Int)) = false := decide_eq_false (by omega)
       have d1 : decide (n < hi) = false := decide_eq_false hlt
       have hnm : hi = n := by omega
       have HG7 : Hid (GS w W D U A us' L' d' rv' root' v' R' (fun k => if (lo : Int) ≤ k ∧ (k : Int) < hi then Forks.wantB (ro.take 0) k else Forks.wantB R k) wq) := hid (hg.out.congr (fun k _ => by rw [hnm]; rfl))
       clear hg hnm hlt hn hn0
       go_wp2_with fail
       go_loopw [16] (fun q wq => ∃ j : Nat, j ≤ ro.length ∧ q = .int .i64 (j : Int) ∧ Hid (GS w W D U A us' L' d' rv' root' v' R' (fun k => if (lo : Int) ≤ k ∧ (k : Int) < hi then Forks.wantB (ro.take j) k else Forks.wantB R k) wq) ∧ Hid (OwnExts w4.heap.size wq (.slice ax ro.length cx) ro)) (fun q _ => ro.length - (intOf q).toNat)
       case atStart => exact ⟨0, Nat.zero_le _, rfl, HG7, ho⟩
       case round =>
        clear HG7 ho d0 d1
        rename World => wq
        obtain ⟨j, hj, rfl, hg, ho⟩ := hrel
        by_cases hlt : j < ro.length
        case neg =>
         have d0 : decide ((j : Int) < (ro.length : Int)) = false := decide_eq_false (by omega)
         have d1 : decide (j < ro.length) = false := decide_eq_false hlt
         have HG9 := hid (hg.out.congr (fun k _ => (show _ = Forks.wantB R' k by rw [WR.out k, List.take_of_length_le (by omega)])))
         clear hg ho WR hlt
         go_wp2_with fail
         go_meet
         exact HG9
        case pos =>
         have d0 : decide ((j : Int) < (ro.length : Int)) = true := decide_eq_true (by omega)
         have d1 : decide (j < ro.length) = true := decide_eq_true hlt
         obtain ⟨y, hy⟩ : ∃ y, y = ro.getD j (0, 0, 0) := ⟨_, rfl⟩
         have hyR := getD_mem ro j (0, 0, 0) hlt
         rw [← hy] at hyR
         obtain ⟨-, g, off, hge, -, -, -⟩ := ho.out.at.cells j hlt
         have hb := O5.out _ hyR
         obtain ⟨y1, yp, ym⟩ := y
         unfold Exts.fin at hb
         dsimp only at hb
         obtain ⟨a, rfl⟩ : ∃ a : Nat, y1 = (a : Int) := ⟨y1.toNat, by omega⟩
         obtain ⟨p, rfl⟩ : ∃ p : Nat, yp = (p : Int) := ⟨yp.toNat, by omega⟩
         obtain ⟨m, rfl⟩ : ∃ m : Nat, ym = (m : Int) := ⟨ym.toNat, by omega⟩
         obtain ⟨hb1, hb2, hb3, hb4, hb5, hb6⟩ : lo ≤ a ∧ a + m ≤ hi ∧ 1 ≤ m ∧ m ≤ 3 ∧ 1 ≤ p ∧ p ≤ 2000 := by omega
         clear hb
         have WS : Hid (∀ (n : Nat) (k : Int), Forks.wantT ro j (n + 1) k = if k = (a : Int) + n then (p : Int) + n else Forks.wantT ro j n k) := hid (fun n k => by have := Forks.wantT_succ ro j n k; rw [← hy] at this; exact this)
         have WE : Hid (∀ k : Int, Forks.wantT ro j m k = Forks.wantB (ro.take (j + 1)) k) := hid (fun k => Forks.wantT_end O3.out j hlt m (by rw [← hy]) k)
         have HY := hid hy
         have HJ := hid hlt
         have HGA : Hid (GS w W D U A us' L' d' rv' root' v' R' (fun k => if (lo : Int) ≤ k ∧ (k : Int) < hi then Forks.wantT ro j 0 k else Forks.wantB R k) wq) := hid (hg.out.congr (fun k _ => by rw [Forks.wantT_zero]))
         cases hge
         clear hg hy hyR
         go_wp2_with fail
         go_loopw [17] (fun q wq => ∃ n : Nat, n ≤ m ∧ q = .int .i64 (n : Int) ∧ Hid (GS w W D U A us' L' d' rv' root' v' R' (fun k => if (lo : Int) ≤ k ∧ (k : Int) < hi then Forks.wantT ro j n k else Forks.wantB R k) wq) ∧ Hid (OwnExts w4.heap.size wq (.slice (some ⟨g, off, none⟩) ro.length cx) ro)) (fun q _ => m - (intOf q).toNat)
         case atStart => exact ⟨0, Nat.zero_le _, rfl, HGA, ho⟩
         case round =>
          clear HGA ho
          rename World => wq
          obtain ⟨n, hn, rfl, hg, ho⟩ := hrel
          obtain ⟨-, g', off', he, z0, z1, z2⟩ := ho.out.at.cells j HJ.out
          cases he
          rw [← HY.out] at z0 z1 z2
          dsimp only at z0 z1 z2
          have j0 : (0 : Int) ≤ (j : Int) := by omega
          have j1 : (j : Int) < (ro.length : Int) := by omega
          by_cases hlt : n < m
          case neg =>
           have d2 : decide ((n : Int) < (m : Int)) = false := decide_eq_false (by omega)
           have d3 : decide (n < m) = false := decide_eq_false hlt
           have hnm : n = m := by omega
           subst hnm
           have HGB : Hid (GS w W D U A us' L' d' rv' root' v' R' (fun k => if (lo : Int) ≤ k ∧ (k : Int) < hi then Forks.wantB (ro.take (j + 1)) k else Forks.wantB R k) wq) := hid (hg.out.congr (fun k _ => by rw [WE.out]))
           have un : IntKind.i64.wrap ((j : Int) + 1) = (j : Int) + 1 := IntWalk.i64_in _ (by omega)
           clear hg WS WE hlt
           go_wp2_with fail
           go_roundw
           case rel => exact ⟨j + 1, HJ.out, by go_num, HGB, ho⟩
           case measure => have := HJ.out; simp [intOf]; omega
          case pos =>
           have d2 : decide ((n : Int) < (m : Int)) = true := decide_eq_true (by omega)
           have d3 : decide (n < m) = true := decide_eq_true hlt
           go_upto_region 30 with fail
           have HM := hid hlt
           have e0 : (a : Int) + (n : Int) = ((a + n : Nat) : Int) := by omega
           have hK : a + n < 300 := by omega
           obtain ⟨K, hKe⟩ : ∃ K, K = a + n := ⟨_, rfl⟩
           rw [← hKe] at e0 hK
           have u0 : IntKind.i64.wrap ((a : Int) + (n : Int)) = (K : Int) := by rw [e0]; exact IntWalk.i64_in _ (by omega)
           have i0 : (0 : Int) ≤ (K : Int) := by omega
           have i1 : (K : Int) < 300 := by omega
           have u1 : IntKind.i64.wrap ((p : Int) + (n : Int)) = (p : Int) + (n : Int) := IntWalk.i64_in _ (by omega)
           obtain ⟨z, wc0⟩ : ∃ z, wq.cell? ⟨A, K, none⟩ = some (.int .i64 z) := ⟨_, hg.out.wt.cell hK⟩
           have wf0 : wq.frozen? ⟨A, K, none⟩ = false := hg.out.wt.free
           have HG8 : Hid (GS w W D U A us' L' d' rv' root' v' R' (fun k => if (lo : Int) ≤ k ∧ (k : Int) < hi then Forks.wantT ro j (n + 1) k else Forks.wantB R k) (wq.setCell ⟨A, K, none⟩ (.int .i64 ((p : Int) + (n : Int))))) := hid ((hg.out.set hA K ((p : Int) + (n : Int))).congr (fun k _ => by
            by_cases e : k = K
            ·rw [if_pos e, if_pos (by omega), WS.out, if_pos (by omega)]
            ·rw [if_neg e, WS.out n (k : Int), if_neg (show ¬ (k : Int) = (a : Int) + n by omega)]))
           have O8 : Hid (OwnExts w4.heap.size (wq.setCell ⟨A, K, none⟩ (.int .i64 ((p : Int) + (n : Int)))) (.slice (some ⟨g, off, none⟩) ro.length cx) ro) := hid (own_keepT ho.out (keep_setA hg.out.wt (by decide)))
           have un : IntKind.i64.wrap ((n : Int) + 1) = (n : Int) + 1 := IntWalk.i64_in _ (by omega)
           clear hg ho hn hlt e0 hKe hb1 hb2 hb3 hb4 hb5 hb6
           go_region
           all_goals
            go_wp2_with fail
            go_roundw
            case rel => exact ⟨n + 1, HM.out, by go_num, hid (HG8.out.below (Below.refl _ _).drew), hid (O8.out.drew)⟩
            case measure => have := HM.out; simp [intOf]; omega
   clear HG4 XB4 OW REL HRr HGR
   obtain ⟨ar, cr, rfl⟩ := (OwnEnts.ents hcut.out.wa.root).ext.form
   have HB := hcut
   clear hcut
   have HG := hid HB.out.go
   obtain ⟨k, hk⟩ : ∃ k, R'.length = k := ⟨_, rfl⟩
   obtain ⟨mm, hmm⟩ : ∃ m, (natI (Forks.nodes v')).length = m := ⟨_, rfl⟩
   have HK := hid hk
   have HMM := hid hmm
   have hkl : k ≤ 2048 := by rw [← hk]; exact Forks.row_len (Forks.walkT_okr HG.out.wo.walk).2.1
   have hml : mm ≤ 4096 := by rw [← hmm]; exact nodes_length v'
   have hd4 : d' ≤ 4 := HG.out.d4
   have HLOW := hid HG.out.low
   have QW := hid (fun (wz : World) (P : Nat) (h : GS w W D U A us' L' d' (.slice ar root'.length cr) root' v' R' (fun k => Forks.wantB R' k) wz) (hdk : DiskAt wz.heap.size wz (RDV P (P + 1)) ⟨L', -1⟩) => h.walk P hdk HK.out HMM.out)
   clear hk hmm
   go_upto_region 31 with fail
   go_cut [18, 19, 20] from 126 to 139 (fun p y z wd => ∃ (e1 : Option Addr) (f1 : Nat) (e2 : Option Addr) (f2 : Nat), p = .slice e1 k f1 ∧ y = .slice e2 mm f2 ∧ z = .int .i64 0 ∧ Hid (GN w W D U A us' L' d' (.slice ar root'.length cr) root' v' R' (fun k => Forks.wantB R' k) (.slice e1 k f1) (.slice e2 mm f2) wd))
   case first =>
    have b0 : Below wc.heap.size wc wc.drew := (Below.refl _ _).drew
    have SB0 := hid (HB.out.below b0)
    have hP0 : wc.drew.heap.size = wc.heap.size := rfl
    have K6 : Hid (∀ w', Below wc.heap.size wc w' → w'.cell? ⟨W, 0, none⟩ = some (.slice (some ⟨D, 0, none⟩) 4096 4096) ∧ w'.cell? ⟨W, 1, none⟩ = some (.int .i64 (d' : Int)) ∧ w'.cell? ⟨W, 2, none⟩ = some (.slice ar root'.length cr)) := hid (fun wz hz => by
     obtain ⟨q0, q1, q2, -⟩ := (HB.out.below hz).wa.cells
     exact ⟨q0, q1, q2⟩)
    go_region_held3 (fun w' => w'.cell? ⟨W, 0, none⟩ = some (.slice (some ⟨D, 0, none⟩) 4096 4096) ∧ w'.cell? ⟨W, 1, none⟩ = some (.int .i64 (d' : Int)) ∧ w'.cell? ⟨W, 2, none⟩ = some (.slice ar root'.length cr))
     (first | (refine K6.out _ ?_; assumption) | exact Z7)
     (first
      | (go_at_call 20; (with_reducible refine (reading2_any D (-1) _).mono ?_); rintro e w6 ⟨rfl, hw6⟩; have Q6 := SB0.out.readP (-1) _ hP0 w6 hw6; have s6 := b0.trans ((read_below hw6).mono b0.size); clear hw6)
      | (go_at_call 19; (with_reducible refine (QW.out _ _ Q6.1 Q6.2).mono ?_); rintro e w7 ⟨b7, e1, f1, e2, f2, rfl, Q7⟩; have s7 := s6.trans (b7.mono s6.size); have Z7 := K6.out _ s7)
      | fail "none")
    all_goals first
     | (go_meet; exact ⟨_, _, _, _, rfl, rfl, rfl, hid Q7⟩)
     | (go_step; go_meet; exact ⟨_, _, _, _, rfl, rfl, rfl, hid Q7⟩)
     | (go_step; go_step; go_meet; exact ⟨_, _, _, _, rfl, rfl, rfl, hid Q7⟩)
     | (go_step; go_step; go_step; go_meet; exact ⟨_, _, _, _, rfl, rfl, rfl, hid Q7⟩)
     | fail "no end"
   obtain ⟨e1, f1, e2, f2, rfl, rfl, rfl, hcut1⟩ := hcut
   clear HB QW
   have HB := hcut1
   clear hcut1
   obtain ⟨x0, x1, x2, x3, -⟩ := HB.out.g.wa.cells
   go_upto_region 32 with fail
   have g3 : decide ((4 : Int) < (d' : Int)) = false := decide_eq_false (by omega)
   have g4 : decide (4 < d') = false := decide_eq_false (by omega)
   go_cut [161] from 140 to 160 (fun y wd => y = .bool false ∧ wd = wc)
   case first =>
    by_cases h1 : d' = 0
    ·have h2 : k ≤ 4 := by rw [← HK.out]; exact HLOW.out.1 h1
     have g1 : decide ((k : Int) ≤ 4) = true := decide_eq_true (by omega)
     have g1' : decide (k ≤ 4) = true := decide_eq_true h2
     have g2 : ((d' : Int) == 0) = true := by rw [beq_iff_eq]; omega
     have g2' : (d' == 0) = true := by rw [beq_iff_eq]; omega
     clear h1 h2
     go_wp2_with fail
     all_goals (go_meet; exact ⟨rfl, rfl⟩)
    ·have h2 : ¬ k ≤ 4 := by rw [← HK.out]; exact fun h => h1 (HLOW.out.2 h)
     have g1 : decide ((k : Int) ≤ 4) = false := decide_eq_false (by omega)
     have g1' : decide (k ≤ 4) = false := decide_eq_false h2
     have g2 : ((d' : Int) == 0) = false := by rw [beq_eq_false_iff_ne]; omega
     have g2' : (d' == 0) = false := by rw [beq_eq_false_iff_ne]; omega
     clear h2
     go_wp2_with fail
     all_goals (go_meet; exact ⟨rfl, rfl⟩)
   obtain ⟨rfl, hwd⟩ := hcut
   subst hwd
   clear x0 x1 x2 x3 g3 g4 HLOW
   have HROW := hid (Forks.walkT_okr HG.out.wo.walk).2.1
   rename World => wh
   go_wp2_with fail
   go_loopw [21] (fun q wq => ∃ n : Nat, n ≤ 300 ∧ q = .int .i64 (n : Int) ∧ Hid (GN w W D U A us' L' d' (.slice ar root'.length cr) root' v' R' (fun k => Forks.wantB R' k) (.slice e1 k f1) (.slice e2 mm f2) wq)) (fun q _ => 300 - (intOf q).toNat)
   case atStart => exact ⟨0, Nat.zero_le _, rfl, HB⟩
   case round =>
    clear HB
    rename World => wq
    obtain ⟨n, hn, rfl, hg⟩ := hrel
    by_cases hlt : n < 300
    case pos =>
     have d0 : decide ((n : Int) < 300) = true := decide_eq_true (by omega)
     have d1 : decide (n < 300) = true := decide_eq_true hlt
     have hq := efind_any (.slice e1 k f1) R' (n : Int) wq (SmallsE.row HROW.out) hg.out.now.at (by rw [HK.out]; omega) (by omega)
     obtain ⟨w1, w2⟩ := Forks.find_want HROW.out (n : Int)
     rw [w1, w2] at hq
     clear w1 w2
     generalize (Exts.findR R' (n : Int)).2.1 = z1 at *
     have QF := hid hq
     have i0 : (0 : Int) ≤ (n : Int) := by omega
     have i1 : (n : Int) < 300 := by omega
     have un : IntKind.i64.wrap ((n : Int) + 1) = (n : Int) + 1 := IntWalk.i64_in _ (by omega)
     clear hq hn
     go_wp2_with fail
     refine QF.out.mono ?_
     rintro e w8 ⟨rfl, b8⟩
     have HN := hid (hg.out.below b8)
     clear hg QF b8
     have wc0 : w8.cell? ⟨A, n, none⟩ = some (.int .i64 (Forks.wantB R' (n : Int))) := HN.out.g.wt.cell hlt
     clear hlt
     generalize Forks.wantB R' (n : Int) = b at *
     go_wp2_with fail
     go_roundw
     case rel => exact ⟨n + 1, of_decide_eq_true d1, by go_num, HN⟩
     case measure => have := of_decide_eq_true d1; simp [intOf]; omega
    case neg =>
     have d0 : decide ((n : Int) < 300) = false := decide_eq_false (by omega)
     have d1 : decide (n < 300) = false := decide_eq_false hlt
     clear hlt hn
     go_wp2_with fail
     clear d0 d1
     go_loopw [25, 26] (fun p q wq => ∃ m : Nat, m ≤ 4096 ∧ p = .int .i64 (usedTo us' m : Int) ∧ q = .int .i64 (m : Int) ∧ Hid (GN w W D U A us' L' d' (.slice ar root'.length cr) root' v' R' (fun k => Forks.wantB R' k) (.slice e1 k f1) (.slice e2 mm f2) wq)) (fun p q _ => 4096 - (intOf q).toNat)
     case atStart => exact ⟨0, Nat.zero_le _, rfl, rfl, hg⟩
     case round =>
      clear hg
      rename World => wq
      obtain ⟨m, hm, rfl, rfl, hg⟩ := hrel
      obtain ⟨x0, x1, x2, x3, -⟩ := hg.out.g.wa.cells
      clear x0 x1 x2
      have hum := usedTo_le us' m
      by_cases hlt : m < 4096
      case pos =>
       have d0 : decide ((m : Int) < 4096) = true := decide_eq_true (by omega)
       have d1 : decide (m < 4096) = true := decide_eq_true hlt
       have i0 : (0 : Int) ≤ (m : Int) := by omega
       have i1 : (m : Int) < 4096 := by omega
       have un : IntKind.i64.wrap ((m : Int) + 1) = (m : Int) + 1 := IntWalk.i64_in _ (by omega)
       have uu : IntKind.i64.wrap ((usedTo us' m : Int) + 1) = (usedTo us' m : Int) + 1 := IntWalk.i64_in _ (by omega)
       have c0 := hg.out.g.wa.use.cell (b := m) (by rw [HG.out.wo.ulen]; exact hlt)
       have us1 := usedTo_succ us' m
       clear hm hlt hum
       cases hb : us'.getD m true
       ·rw [hb] at c0
        have us2 : Hid (usedTo us' (m + 1) = usedTo us' m) := hid (by rw [us1, hb]; rfl)
        clear us1 hb
        go_wp2_with fail
        go_roundw
        case rel => exact ⟨m + 1, of_decide_eq_true d1, by rw [us2.out], by go_num, hg⟩
        case measure => have := of_decide_eq_true d1; simp [intOf]; omega
       ·rw [hb] at c0
        have us2 : Hid (usedTo us' (m + 1) = usedTo us' m + 1) := hid (by rw [us1, hb]; rfl)
        clear us1 hb
        go_wp2_with fail
        go_roundw
        case rel => exact ⟨m + 1, of_decide_eq_true d1, by rw [us2.out]; go_num, by go_num, hg⟩
        case measure => have := of_decide_eq_true d1; simp [intOf]; omega
      case neg =>
       have d0 : decide ((m : Int) < 4096) = false := decide_eq_false (by omega)
       have d1 : decide (m < 4096) = false := decide_eq_false hlt
       have hme : m = 4096 := by omega
       have hcnt : usedTo us' m = mm := by
        rw [hme, usedTo_nodes HG.out.wo.used, ← HMM.out]
        unfold natI
        rw [List.length_map]
       obtain ⟨cnt, hc⟩ : ∃ c, c = usedTo us' m := ⟨_, rfl⟩
       rw [← hc] at hcnt ⊢
       have HC := hid hcnt
       clear hcnt hc hme hlt hm hum
       go_wp2_with fail
       clear d0 d1 x3
       go_loopw [27] (fun q wq => ∃ j : Nat, j ≤ mm ∧ q = .int .i64 (j : Int) ∧ Hid (GN w W D U A us' L' d' (.slice ar root'.length cr) root' v' R' (fun k => Forks.wantB R' k) (.slice e1 k f1) (.slice e2 mm f2) wq)) (fun q _ => mm - (intOf q).toNat)
       case atStart => exact ⟨0, Nat.zero_le _, rfl, hg⟩
       case round =>
        clear hg
        rename World => wq
        obtain ⟨j, hj, rfl, hg⟩ := hrel
        by_cases hlt : j < mm
        case pos =>
         have d0 : decide ((j : Int) < (mm : Int)) = true := decide_eq_true (by omega)
         have d1 : decide (j < mm) = true := decide_eq_true hlt
         have i0 : (0 : Int) ≤ (j : Int) := by omega
         have i1 : (j : Int) < (mm : Int) := by omega
         obtain ⟨x0, x1, x2, x3, -⟩ := hg.out.g.wa.cells
         obtain ⟨g, off, hge, c0⟩ := (OwnInts.at hg.out.nod).cells j (by rw [HMM.out]; exact hlt)
         obtain ⟨b, hb, hnb, hub⟩ := node_used HG.out.wo.used j (by rw [HMM.out]; exact hlt)
         rw [hnb] at c0
         have c1 := hg.out.g.wa.use.cell (b := b) (by rw [HG.out.wo.ulen]; exact hb)
         rw [hub] at c1
         have i2 : (0 : Int) ≤ (b : Int) := by omega
         have i3 : (b : Int) < 4096 := by omega
         have un : IntKind.i64.wrap ((j : Int) + 1) = (j : Int) + 1 := IntWalk.i64_in _ (by omega)
         cases hge
         clear hnb hub x0 x1 x2 hj hlt
         go_upto_region 49 with fail
         go_quiet (fail)
         go_wp2_with fail
         go_roundw
         case rel => exact ⟨j + 1, of_decide_eq_true d1, by go_num, hid (hg.out.below (below_drewN (Below.refl _ _) _))⟩
         case measure => have := of_decide_eq_true d1; simp [intOf]; omega
        case neg =>
         have d0 : decide ((j : Int) < (mm : Int)) = false := decide_eq_false (by omega)
         have d1 : decide (j < mm) = false := decide_eq_false hlt
         clear hlt hj
         have g1 : (cnt != mm) = false := by rw [HC.out]; simp
         have g2 : ((cnt : Int) != (mm : Int)) = false := by rw [HC.out]; simp
         have g3 : ((cnt : Int) == (mm : Int)) = true := by rw [HC.out]; simp
         have un : IntKind.i64.wrap ((i : Int) + 1) = (i : Int) + 1 := IntWalk.i64_in _ (by omega)
         go_wp2_with fail
         go_roundw
         case rel => exact ⟨i + 1, us', L', d', _, root', v', R', by omega, by go_num, hid hg.out.g⟩
         case measure => simp [intOf]; omega
end Go.Proofs.YtgjmeeiejcbjfaaGreat
