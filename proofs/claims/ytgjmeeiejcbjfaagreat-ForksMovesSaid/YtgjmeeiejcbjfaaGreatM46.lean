/- The document's walker, in memory; add, read. -/
import Derived.Test.YtgjmeeiejcbjfaaGreatM12
import Derived.Test.YtgjmeeiejcbjfaaGreatM36
import Derived.Test.YtgjmeeiejcbjfaaGreatM15
set_option linter.unusedSimpArgs false
set_option linter.unusedVariables false
namespace Go.Proofs.YtgjmeeiejcbjfaaGreat
open Go.Lib (hid)
open Go Go.RowKit
structure RW (B X D cD : Nat) (bad : Int) (w : World) (nv rv : Value) (N : IL) (R : EL) : Prop where
 x : w.heap[X]? = some (.cells #[.slice (some ⟨D, 0, none⟩) 4096 cD, .int .i64 bad, nv, rv] 114 (0, 0))
 nodes : OwnInts B w nv N
 row : OwnExts B w rv R
 lo : B ≤ X
variable {B X D cD : Nat} {bad : Int} {w w' : World} {nv rv : Value} {N : IL} {R : EL}
theorem RW.below (h : RW B X D cD bad w nv rv N R) (hb : Below w.heap.size w w') : RW B X D cD bad w' nv rv N R :=
 ⟨(hb.block _ (lt_of_block h.x)).trans h.x, h.nodes.below hb, h.row.below hb, h.lo⟩
theorem RW.lt (h : RW B X D cD bad w nv rv N R) : X < w.heap.size := lt_of_block h.x
theorem RW.cellX (h : RW B X D cD bad w nv rv N R) : w.cell? ⟨X, 0, none⟩ = some (.slice (some ⟨D, 0, none⟩) 4096 cD) ∧ w.cell? ⟨X, 1, none⟩ = some (.int .i64 bad) ∧ w.cell? ⟨X, 2, none⟩ = some nv ∧ w.cell? ⟨X, 3, none⟩ = some rv := by
 refine ⟨?_, ?_, ?_, ?_⟩ <;> (rw [cell_of_row w X _ _ _ _ h.x]; rfl)
theorem four_set {Y k : Nat} {a b c d u : Value} {T : TypeId} {fr : Nat × Nat} (h : w.heap[Y]? = some (.cells #[a, b, c, d] T fr)) : (w.setCell ⟨Y, k, none⟩ u).heap[Y]? = some (.cells (#[a, b, c, d].set! k u) T fr) := by
 show (w.heap.modify Y _)[Y]? = _
 have hlt := lt_of_block h
 have e : w.heap[Y] = .cells #[a, b, c, d] T fr := by simpa [Array.getElem?_eq_getElem hlt] using h
 rw [Array.getElem?_eq_getElem (by simpa using hlt), Array.getElem_modify_self, e]
 rfl
theorem RW.pushRow {w5 : World} {rv' : Value} {R' : EL} (h : RW B X D cD bad w nv rv N R) (hg : w.grownBy w5 rv.ownBlock) (hown : OwnExts B w5 rv' R') (hB : B ≤ w.heap.size) :
  RW B X D cD bad (w5.setCell ⟨X, 3, none⟩ rv') nv rv' N R' ∧ Below B w (w5.setCell ⟨X, 3, none⟩ rv') ∧ KeepE w (w5.setCell ⟨X, 3, none⟩ rv') := by
 have hr : w.ownsRow B 53 3 rv R.length (ecells R) := h.row
 have hx := kept_other hr hg h.x (by decide)
 have hx' : w5.heap[(⟨X, 3, none⟩ : Addr).block]? = some (.cells #[.slice (some ⟨D, 0, none⟩) 4096 cD, .int .i64 bad, nv, rv] 114 (0, 0)) := hx
 have hk : KeepE w (w5.setCell ⟨X, 3, none⟩ rv') := (KeepE.grown hr hg (by decide)).trans (.set hx' (by decide))
 exact ⟨⟨four_set hx, own_set hx' (own_other h.nodes hr hg (by decide)) (by decide), own_set hx' hown (by decide), h.lo⟩, ((Below.refl _ _).grown hg hB (fun k hk => (World.ownsRow.lt hr k hk).1)).setCell h.lo _, hk⟩
theorem RW.pushNode {w5 : World} {nv' : Value} {N' : IL} (h : RW B X D cD bad w nv rv N R) (hg : w.grownBy w5 nv.ownBlock) (hown : OwnInts B w5 nv' N') (hB : B ≤ w.heap.size) :
  RW B X D cD bad (w5.setCell ⟨X, 2, none⟩ nv') nv' rv N' R ∧ Below B w (w5.setCell ⟨X, 2, none⟩ nv') ∧ KeepE w (w5.setCell ⟨X, 2, none⟩ nv') := by
 have hr : w.ownsRow B 3 1 nv N.length (icells N) := h.nodes
 have hx := kept_other hr hg h.x (by decide)
 have hx' : w5.heap[(⟨X, 2, none⟩ : Addr).block]? = some (.cells #[.slice (some ⟨D, 0, none⟩) 4096 cD, .int .i64 bad, nv, rv] 114 (0, 0)) := hx
 have hk : KeepE w (w5.setCell ⟨X, 2, none⟩ nv') := (KeepE.grown hr hg (by decide)).trans (.set hx' (by decide))
 exact ⟨⟨four_set hx, own_set hx' hown (by decide), own_set hx' (own_other h.row hr hg (by decide)) (by decide), h.lo⟩, ((Below.refl _ _).grown hg hB (fun k hk => (World.ownsRow.lt hr k hk).1)).setCell h.lo _, hk⟩
set_option maxRecDepth 100000 in
set_option maxHeartbeats 4000000 in
theorem radd_any (h : RW B X D cD bad w nv rv N R) (v : Value) (l : EL) (hv : ∀ wz, Below B w wz → KeepE w wz → ExtsAt wz v l) (hl : R.length + l.length ≤ 1000000) (hB : B ≤ w.heap.size) :
  Calls Tryz.prog 51 #[.pointer (some ⟨X, 0, none⟩), v] w fun e w' => e = .returned (.tuple #[]) ∧ (∃ rv', RW B X D cD bad w' nv rv' N (R ++ l)) ∧ Below B w w' ∧ KeepE w w' := by
 obtain ⟨i0', hi0, hz0, hz1, hz2⟩ := info_parts info_ext
 have HV := hid hv
 obtain ⟨ad, cap, rfl⟩ := (hv w (Below.refl _ _) (.refl _)).form
 have HW := hid h
 clear h hv
 go_enter Tryz.func51, Tryz.ntmps51
 go_wp2_with fail
 go_loopw [4] (fun q wr => ∃ j : Nat, j ≤ l.length ∧ q = .int .i64 j ∧ Hid (∃ rv', RW B X D cD bad wr nv rv' N (R ++ l.take j)) ∧ Hid (Below B w wr ∧ KeepE w wr)) (fun q _ => l.length - (intOf q).toNat)
 case atStart => exact ⟨0, by omega, rfl, hid ⟨_, by rw [List.take_zero, List.append_nil]; exact HW.out⟩, hid ⟨Below.refl _ _, .refl _⟩⟩
 case round =>
  obtain ⟨j, hj, rfl, hw, hb⟩ := hrel
  by_cases hlt : j < l.length
  ·have i0 : (0 : Int) ≤ (j : Int) := by omega
   have i1 : (j : Int) < (l.length : Int) := by omega
   have i2 : (j : Int) ≤ 1000000 := by omega
   obtain ⟨hll, g, off, rfl, c0, c1, c2⟩ := (HV.out wr hb.out.1 hb.out.2).cells j hlt
   clear hll
   obtain ⟨rv', hw⟩ := hw.out
   have hBw := hb.out.1.size
   have hT : Hid (l.take (j + 1) = l.take j ++ [l.getD j (0, 0, 0)]) := hid (by
    rw [List.take_succ_eq_append_getElem hlt]
    simp [List.getD, hlt])
   have hTl : (R ++ l.take j).length ≤ 1000000 - 1 := by rw [List.length_append, List.length_take]; omega
   have hpos : 0 < l.length := by omega
   generalize hP : R ++ l.take j = P at *
   have HP := hid hP
   clear hP
   generalize l.getD j (0, 0, 0) = x at *
   obtain ⟨xa, xb, xc⟩ := x
   dsimp only at *
   have HB1 := hb
   have h1 := hw
   clear hb hw
   go_upto_region 3 with fail
   obtain ⟨-, -, -, cX⟩ := h1.cellX
   have zX := h1.lt
   obtain ⟨ad', co, rfl⟩ := h1.row.slice
   have z0 : g < wr.heap.size := World.block_lt_of_cell? _ _ c0
   have bA : Below wr.heap.size wr (wr.drew.alloc (.cells #[.int .i64 xa, .int .i64 xb, .int .i64 xc] 53)) := (Below.refl _ _).drew.alloc (Nat.le_refl _) _
   have H2 := hid (h1.below bA)
   have HG := hid (show World.ownsRow (wr.drew.alloc (.cells #[.int .i64 xa, .int .i64 xb, .int .i64 xc] 53)) B 53 3 (.slice ad' P.length co) P.length (ecells P) from H2.out.row)
   have HBA := hid (And.intro (HB1.out.1.trans (bA.mono (by omega))) (HB1.out.2.trans (.of_below bA)))
   have HNN : Hid (∀ jj uu, [Value.int .i64 xa, .int .i64 xb, .int .i64 xc][jj]? = some uu → (wr.drew.alloc (.cells #[.int .i64 xa, .int .i64 xb, .int .i64 xc] 53)).cell? ((⟨wr.heap.size, 0, none⟩ : Addr).add jj) = some uu) := hid (fun jj uu hjj => by
    have hadd : (⟨wr.heap.size, 0, none⟩ : Addr).add jj = ⟨wr.heap.size, jj, none⟩ := by unfold Addr.add; split <;> simp_all
    rw [hadd]
    exact (World.cell?_alloc_at (w := wr.drew) _ _ _ jj rfl).trans (by simpa using hjj))
   have hone := ecells_one [(xa, xb, xc)]
   have hBs2 : B ≤ (wr.drew.alloc (.cells #[.int .i64 xa, .int .i64 xb, .int .i64 xc] 53)).heap.size := by simp; omega
   clear bA h1
   go_region_law (refine step_append_lies _ rfl (.tmp 15) (.tmp 32) 42 rfl B 53 i0' (.agg #[.int .i64 0, .int .i64 0, .int .i64 0]) 3 24 Tryz.underlying42 hi0 hz0 hz1 hz2 rfl (by decide) (.slice ad' P.length co) P.length (ecells P) (by simp [Act.eval, Act.put]; done) HG.out ⟨wr.heap.size, 0, none⟩ 1 1 [.int .i64 xa, .int .i64 xb, .int .i64 xc] (by simp [Act.eval, Act.put]; done) rfl HNN.out hone (by decide) (by unfold maxLen; omega) (by omega) hBs2 _ rfl ?_; intro g5 c5 w5 hown hgrow hat hlt5; have X5 := kept_other HG.out hgrow H2.out.x (by decide); have cX5 := cell_of_row w5 X 3 _ _ _ X5; have fX5 := free_zero X5 3)
   all_goals
    have hown2 : OwnExts B w5 (.slice (some ⟨g5, 0, none⟩) (P.length + 1) c5) (P ++ [(xa, xb, xc)]) := by
     unfold OwnExts
     rw [List.length_append, ecells_append]
     exact hown
    have R5 := H2.out.pushRow hgrow hown2 hBs2
    have R6 := hid (show ∃ rv', RW B X D cD bad (w5.setCell ⟨X, 3, none⟩ (.slice (some ⟨g5, 0, none⟩) (P.length + 1) c5)) nv rv' N (R ++ l.take (j + 1)) from ⟨_, by rw [hT.out, ← List.append_assoc, HP.out]; exact R5.1⟩)
    have R7 := hid (And.intro (HBA.out.1.trans R5.2.1) (HBA.out.2.trans R5.2.2))
    clear R5 hown hown2 hgrow hat hlt5 X5 cX5 fX5
    go_wp2_with fail
    go_roundw
    case rel => exact ⟨j + 1, by omega, by go_num, R6, R7⟩
    case measure => simp [intOf]; omega
  ·obtain rfl : j = l.length := by omega
   have hw2 := hw.out
   rw [List.take_length] at hw2
   have HW2 := hid hw2
   clear hw2
   go_wp2_with fail
   go_end0
   exact ⟨rfl, HW2.out, hb.out⟩
end Go.Proofs.YtgjmeeiejcbjfaaGreat
namespace Go.Proofs.YtgjmeeiejcbjfaaGreat
open Go.Lib (hid)
open Go Go.RowKit
structure TextsAt (B D : Nat) (w : World) (L : List ByteArray) : Prop where
 cells : ∀ b s, L[b]? = some s → w.cell? ⟨D, b, none⟩ = some (.string s)
 len : L.length = 4096
 lo : D < B
theorem TextsAt.below {B D : Nat} {w w' : World} {L : List ByteArray} (h : TextsAt B D w L) (hb : Below B w w') : TextsAt B D w' L :=
 ⟨fun b s hs => (hb.cell (p := ⟨D, b, none⟩) h.lo).trans (h.cells b s hs), h.len, h.lo⟩
set_option maxRecDepth 100000 in
set_option maxHeartbeats 1000000 in
theorem rread_any {B D cD : Nat} {w : World} {L : List ByteArray} (bad : Int) (h : TextsAt B D w L) (b : Nat) (hb : b < 4096) (o : Option ByteArray) (ho : (⟨L, bad⟩ : Forks.Disk).rd b = o) (hB : B ≤ w.heap.size) :
  Calls Tryz.prog 96 #[.agg #[.slice (some ⟨D, 0, none⟩) 4096 cD, .int .i64 bad], .int .i64 b] w fun e w' => e = .returned (rdOut o) ∧ Below w.heap.size w w' := by
 subst ho
 have b0 : (0 : Int) ≤ (b : Int) := by omega
 have b1 : (b : Int) < 4096 := by omega
 have hlt : b < L.length := by rw [h.len]; exact hb
 have bA : Below w.heap.size w (w.alloc (.cells #[.slice (some ⟨D, 0, none⟩) 4096 cD, .int .i64 bad] 50)) := (Below.refl _ _).alloc (Nat.le_refl _) _
 have c3 := (bA.cell (p := ⟨D, b, none⟩) (show D < w.heap.size by have := h.lo; omega)).trans (h.cells b _ (List.getElem?_eq_getElem hlt))
 have x0 : (w.alloc (.cells #[.slice (some ⟨D, 0, none⟩) 4096 cD, .int .i64 bad] 50)).cell? ⟨w.heap.size, 0, none⟩ = some (.slice (some ⟨D, 0, none⟩) 4096 cD) := box_cell _ _ _ _
 have x1 : (w.alloc (.cells #[.slice (some ⟨D, 0, none⟩) 4096 cD, .int .i64 bad] 50)).cell? ⟨w.heap.size, 1, none⟩ = some (.int .i64 bad) := box_cell _ _ _ _
 have BA := hid bA
 clear bA
 by_cases k2 : (b : Int) = bad
 ·have hr : (⟨L, bad⟩ : Forks.Disk).rd b = none := by unfold Forks.Disk.rd; rw [if_pos k2]
  have hk : ((b : Int) == bad) = true := by rw [beq_iff_eq]; exact k2
  rw [hr]
  clear hr k2 h c3 hlt
  go_enter Tryz.func96, Tryz.ntmps96
  go_wp2_with fail
  go_ret2
  exact ⟨rfl, BA.out⟩
 ·have hr : (⟨L, bad⟩ : Forks.Disk).rd b = some L[b] := by unfold Forks.Disk.rd; rw [if_neg k2, List.getElem?_eq_getElem hlt]
  have hk : ((b : Int) == bad) = false := by rw [beq_eq_false_iff_ne]; exact k2
  rw [hr]
  generalize L[b] = s at *
  clear hr k2 h hlt
  go_enter Tryz.func96, Tryz.ntmps96
  go_wp2_with fail
  go_ret2
  exact ⟨rfl, BA.out⟩
end Go.Proofs.YtgjmeeiejcbjfaaGreat
namespace Go.Proofs.YtgjmeeiejcbjfaaGreat
open Go.Lib (hid)
open Go Go.RowKit
variable {B X D cD : Nat} {bad : Int} {w : World} {v : Forks.V} {L : List ByteArray}
def visB (v : Forks.V) : IL := v.map fun x => ((x.b : Nat) : Int)
def RWAt (B X D cD : Nat) (bad : Int) (w : World) (v : Forks.V) : Prop := ∃ nv rv, RW B X D cD bad w nv rv (visB v) (Forks.rowV v)
theorem RWAt.below {w' : World} (h : RWAt B X D cD bad w v) (hb : Below w.heap.size w w') : RWAt B X D cD bad w' v := by
 obtain ⟨nv, rv, h⟩ := h; exact ⟨nv, rv, h.below hb⟩
def RWOut (B X D cD : Nat) (bad : Int) (w : World) (r : Except Int Forks.V) (e : Ending) (w' : World) : Prop :=
 Below B w w' ∧ KeepE w w' ∧ match r with
  | .error k => e = .returned (.int .i64 k) ∧ k ≠ 0
  | .ok v => e = .returned (.int .i64 0) ∧ RWAt B X D cD bad w' v ∧ Forks.Good v
theorem RWOut.err {w' : World} {r : Except Int Forks.V} {k : Int} (hr : r = .error k) (hk : k ≠ 0) (hb : Below B w w' ∧ KeepE w w') : RWOut B X D cD bad w r (.returned (.int .i64 k)) w' := by
 subst hr; exact ⟨hb.1, hb.2, rfl, hk⟩
theorem RWOut.ok {w' : World} {r : Except Int Forks.V} (hr : r = .ok v) (hb : Below B w w' ∧ KeepE w w') (hw : RWAt B X D cD bad w' v) (hg : Forks.Good v) : RWOut B X D cD bad w r (.returned (.int .i64 0)) w' := by
 subst hr; exact ⟨hb.1, hb.2, rfl, hw, hg⟩
theorem visB_at (v : Forks.V) (m : Nat) (h : m < v.length) : (visB v).getD m 0 = ((v[m].b : Nat) : Int) := by simp [visB, List.getD, h]
theorem visB_len (v : Forks.V) : (visB v).length = v.length := by simp [visB]
theorem has_of_at {v : Forks.V} {m b : Nat} (h : m < v.length) (he : (visB v).getD m 0 = (b : Int)) : Forks.has v b = true := by
 rw [visB_at v m h] at he
 exact List.any_eq_true.2 ⟨v[m], List.getElem_mem h, by simp; omega⟩
theorem has_none {v : Forks.V} {b : Nat} (h : ∀ m, m < v.length → (visB v).getD m 0 ≠ (b : Int)) : Forks.has v b = false := by
 unfold Forks.has
 rw [List.any_eq_false]
 intro x hx
 obtain ⟨m, hm, rfl⟩ := List.mem_iff_getElem.1 hx
 have := h m hm
 rw [visB_at v m hm] at this
 simp
 omega
theorem bk_below {w w1 w' : World} (h : Below B w w1 ∧ KeepE w w1) (hb : Below w1.heap.size w1 w') (hB : B ≤ w1.heap.size) : Below B w w' ∧ KeepE w w' := ⟨h.1.trans (hb.mono hB), h.2.trans (.of_below hb)⟩
set_option maxRecDepth 100000 in
set_option maxHeartbeats 16000000 in
theorem rwalk_step (k : Nat) (hk4 : k < 4) (hds : ∀ b s, (⟨L, bad⟩ : Forks.Disk).rd b = some s → s.size ≤ 140737488351232)
  (hrec : k ≠ 0 → ∀ wz ev v1 l1, RWAt B X D cD bad wz v1 → Forks.Good v1 → TextsAt B D wz L → EntsAt wz ev l1 → Ents.EncOk l1 false → B ≤ wz.heap.size → Calls Tryz.prog 52 #[.pointer (some ⟨X, 0, none⟩), ev, .int .i64 (k : Int)] wz (RWOut B X D cD bad wz (Forks.allW ⟨L, bad⟩ k l1 v1)))
  (hw : RWAt B X D cD bad w v) (hg : Forks.Good v) (hT : TextsAt B D w L) (hB : B ≤ w.heap.size) (ev : Value) (l : EL) (hev : ∀ wz, Below B w wz → KeepE w wz → ExtsAt wz ev l) (hm : ∀ x ∈ l, Ents.may false x = true) (hl : l.length ≤ 1000000) :
  Calls Tryz.prog 52 #[.pointer (some ⟨X, 0, none⟩), ev, .int .i64 ((k : Int) + 1)] w (RWOut B X D cD bad w (Forks.foldW (Forks.nodeW ⟨L, bad⟩ (Forks.allW ⟨L, bad⟩ k) (k + 1)) l v)) := by
 obtain ⟨ii, hii, hzi, hsi, hbi⟩ := info_parts infoInt
 have HE := hid hev
 have HM := hid hm
 have HT := hid hT
 have HREC := hid hrec
 have HDS := hid hds
 have H0 := hid (And.intro hw hg)
 obtain ⟨ad, cap, rfl⟩ := (hev w (Below.refl _ _) (.refl _)).form
 have hk3 : (k : Int) ≤ 3 := by omega
 have hk0 : (0 : Int) ≤ (k : Int) := by omega
 clear hev hm hT hw hg hrec hds
 obtain ⟨f, hf⟩ : ∃ f, Forks.nodeW ⟨L, bad⟩ (Forks.allW ⟨L, bad⟩ k) (k + 1) = f := ⟨_, rfl⟩
 rw [hf]
 have HF := hid hf
 clear hf
 generalize hR : Forks.foldW f l v = R at *
 have HR := hid hR
 clear hR
 go_enter Tryz.func52, Tryz.ntmps52
 go_wp2_with fail
 go_loopw [7] (fun q wr => ∃ (j : Nat) (v' : Forks.V), j ≤ l.length ∧ q = .int .i64 j ∧ Hid (R = Forks.foldW f (l.drop j) v') ∧ Hid (RWAt B X D cD bad wr v' ∧ Forks.Good v') ∧ Hid (Below B w wr ∧ KeepE w wr)) (fun q _ => l.length - (intOf q).toNat)
 case atStart => exact ⟨0, v, by omega, rfl, hid (by rw [List.drop_zero]; exact HR.out.symm), H0, hid ⟨Below.refl _ _, .refl _⟩⟩
 case round =>
  clear HR H0
  obtain ⟨j, v', hj, rfl, hR, hw, hb⟩ := hrel
  by_cases hlt : j < l.length
  ·have i0 : (0 : Int) ≤ (j : Int) := by omega
   have i1 : (j : Int) < (l.length : Int) := by omega
   have i2 : (j : Int) ≤ 1000000 := by omega
   obtain ⟨hll, g, off, rfl, c0, c1, c2⟩ := (HE.out wr hb.out.1 hb.out.2).cells j hlt
   clear hll c2
   have z0 : g < wr.heap.size := World.block_lt_of_cell? _ _ c0
   have hfd := hid (hR.out.trans (foldW_drop (f := f) l j hlt v'))
   have hmx := HM.out (l.getD j (0, 0, 0)) (by rw [show l.getD j (0, 0, 0) = l[j] by simp [List.getD, hlt]]; exact List.getElem_mem hlt)
   have hxp := of_decide_eq_true hmx
   unfold Ents.mayN at hxp
   generalize l.getD j (0, 0, 0) = x at *
   obtain ⟨xa, xb, xc⟩ := x
   dsimp only at *
   obtain ⟨rfl, hx1, hx2, hx3, hx4⟩ := hxp
   obtain ⟨b, rfl⟩ : ∃ b : Nat, xb = (b : Int) := ⟨xb.toNat, by omega⟩
   have b1 : 1 ≤ b := by omega
   have b2 : b ≤ 4095 := by omega
   obtain ⟨nv, rv, hrw⟩ := hw.out.1
   obtain ⟨cx0, cx1, cx2, cx3⟩ := hrw.cellX
   have zX := hrw.lt
   obtain ⟨an, cn, rfl⟩ := hrw.nodes.slice
   have HG := hid hw.out.2
   have hvl := hid (visB_len v')
   have hv4 : (visB v').length ≤ 4096 := by rw [hvl.out]; exact HG.out.len
   have HRW := hid hrw
   have HNC := hid (fun m (hm : m < (visB v').length) => (OwnInts.at hrw.nodes).cells m hm)
   have hBw := hb.out.1.size
   clear hrw hw hmx hR
   generalize hN : (visB v').length = nn at *
   have HN := hid hN
   clear hN
   rename World => wo
   go_wp2_with fail
   go_loopw [8] (fun q wy => ∃ m : Nat, m ≤ nn ∧ q = .int .i64 m ∧ Hid (∀ k, k < m → (visB v').getD k 0 ≠ (b : Int)) ∧ Hid (Below wo.heap.size wo wy)) (fun q _ => nn - (intOf q).toNat)
   case atStart => exact ⟨0, by omega, rfl, hid (fun k hk => absurd hk (Nat.not_lt_zero _)), hid (Below.refl _ _)⟩
   case round =>
    obtain ⟨m, hm, rfl, hall, hby⟩ := hrel
    have d0 := (hby.out.cell (p := ⟨g, off + j * 3, none⟩) z0).trans c0
    have d1 := (hby.out.cell (p := ⟨g, off + j * 3 + 1, none⟩) z0).trans c1
    have dx0 := (hby.out.cell (p := ⟨X, 0, none⟩) zX).trans cx0
    have dx1 := (hby.out.cell (p := ⟨X, 1, none⟩) zX).trans cx1
    have dx2 := (hby.out.cell (p := ⟨X, 2, none⟩) zX).trans cx2
    by_cases hmn : m < nn
    ·obtain ⟨gn, on, rfl, cm0⟩ := HNC.out m (by omega)
     have dm := (hby.out.cell (p := ⟨gn, on + m, none⟩) (World.block_lt_of_cell? _ _ cm0)).trans cm0
     have m0 : (0 : Int) ≤ (m : Int) := by omega
     have m1 : (m : Int) < (nn : Int) := by omega
     have m2 : (m : Int) ≤ 4096 := by omega
     clear cm0
     by_cases heq : (visB v').getD m 0 = (b : Int)
     ·have hh := has_of_at (v := v') (m := m) (by rw [← visB_len]; have := HN.out; omega) heq
      have F : Hid (∀ w', Below wo.heap.size wo w' → RWOut B X D cD bad w R (.returned (.int .i64 80)) w') := hid (fun w' hb' => RWOut.err (by rw [hfd.out, ← HF.out, Forks.nodeW_has hh]) (by decide) (bk_below hb.out hb' (by omega)))
      rw [heq] at dm
      clear hh heq hall
      go_wp2_with fail
      go_quiet (fail)
      have F2 := hid (F.out _ (Below.drewN' hby.out nq))
      go_wp2_with fail
      go_ret
      exact F2.out
     ·have hall' : Hid (∀ k, k < m + 1 → (visB v').getD k 0 ≠ (b : Int)) := hid (fun k hk => by
       rcases Nat.lt_or_ge k m with h | h
       ·exact hall.out k h
       ·obtain rfl : k = m := by omega
        exact heq)
      generalize (visB v').getD m 0 = y at *
      have hyb : (y == (b : Int)) = false := by rw [beq_eq_false_iff_ne]; exact heq
      clear heq hall
      go_wp2_with fail
      go_quiet (fail)
      have F2 := hid (Below.drewN' hby.out nq)
      go_wp2_with fail
      go_roundw
      case rel => exact ⟨m + 1, by omega, by go_num, hall', F2⟩
      case measure => simp [intOf]; omega
    ·obtain rfl : m = nn := by omega
     have hh : Forks.has v' b = false := has_none (fun k hk => hall.out k (by rw [← visB_len] at hk; have := HN.out; omega))
     clear hall hmn HNC
     have KEEP : Hid (∀ wz, Below wr.heap.size wr wz → wz.cell? ⟨X, 0, none⟩ = some (.slice (some ⟨D, 0, none⟩) 4096 cD) ∧ wz.cell? ⟨X, 1, none⟩ = some (.int .i64 bad) ∧ wz.cell? ⟨g, off + j * 3 + 1, none⟩ = some (.int .i64 (b : Int))) := hid (fun wz hz => by
      have hz' := hby.out.trans (hz.mono hby.out.size)
      exact ⟨(hz'.cell (p := ⟨X, 0, none⟩) zX).trans cx0, (hz'.cell (p := ⟨X, 1, none⟩) zX).trans cx1, (hz'.cell (p := ⟨g, off + j * 3 + 1, none⟩) z0).trans c1⟩)
     have b0 : Below wr.heap.size wr wr.drew := (Below.refl _ _).drew
     have BY := hby
     have HT2 := hid (fun wz (hz : Below wr.heap.size wr wz) => HT.out.below (hb.out.1.trans ((hby.out.trans (hz.mono hby.out.size)).mono (by omega))))
     have hyz := hby.out.size
     have hrd0 := hid (fun (o : Option ByteArray) (ho : (⟨L, bad⟩ : Forks.Disk).rd b = o) wz (hz : Below wr.heap.size wr wz) => rread_any (cD := cD) bad (HT2.out wz hz) b (by omega) o ho (by have := hz.size; omega))
     clear d0 d1 dx0 dx1 hby HT2
     cases ho : (⟨L, bad⟩ : Forks.Disk).rd b with
     | none =>
      have F : Hid (∀ w', Below wo.heap.size wo w' → RWOut B X D cD bad w R (.returned (.int .i64 60)) w') := hid (fun w' hb' => RWOut.err (by rw [hfd.out, ← HF.out, Forks.nodeW_none hh ho]) (by decide) (bk_below hb.out hb' (by omega)))
      have hrd := hid (fun wz (hz : Below wr.heap.size wr wz) => show Calls _ _ _ _ (fun e w' => e = .returned (.tuple #[.string ⟨#[]⟩, .int .i64 60]) ∧ Below wz.heap.size wz w') from hrd0.out none ho wz hz)
      clear ho hh hrd0
      go_upto_region 9 with fail
      go_region_held3 (fun w' => w'.cell? ⟨X, 0, none⟩ = some (.slice (some ⟨D, 0, none⟩) 4096 cD) ∧ w'.cell? ⟨X, 1, none⟩ = some (.int .i64 bad) ∧ w'.cell? ⟨g, off + j * 3 + 1, none⟩ = some (.int .i64 (b : Int)))
       (first | (refine KEEP.out _ ?_; assumption) | fail "no S")
       (first | (go_at_call 96; (with_reducible refine (hrd.out _ b0).mono ?_); rintro e w3 ⟨rfl, b3⟩; have s3 : Below wr.heap.size wr w3 := b0.trans (b3.mono b0.size)) | fail "none")
      have F3 := hid (F.out _ (BY.out.trans (s3.mono BY.out.size)))
      go_wp2_with fail
      go_ret
      exact F3.out
     | some s =>
      have hss := HDS.out b s ho
      have hrd := hid (fun wz (hz : Below wr.heap.size wr wz) => show Calls _ _ _ _ (fun e w' => e = .returned (.tuple #[.string s, .int .i64 0]) ∧ Below wz.heap.size wz w') from hrd0.out (some s) ho wz hz)
      have HHO := hid (And.intro hh ho)
      clear ho hh hrd0
      go_upto_region 9 with fail
      go_region_held3 (fun w' => w'.cell? ⟨X, 0, none⟩ = some (.slice (some ⟨D, 0, none⟩) 4096 cD) ∧ w'.cell? ⟨X, 1, none⟩ = some (.int .i64 bad) ∧ w'.cell? ⟨g, off + j * 3 + 1, none⟩ = some (.int .i64 (b : Int)))
       (first | (refine KEEP.out _ ?_; assumption) | fail "no S")
       (first | (go_at_call 96; (with_reducible refine (hrd.out _ b0).mono ?_); rintro e w3 ⟨rfl, b3⟩; have s3 : Below wr.heap.size wr w3 := b0.trans (b3.mono b0.size)) | fail "none")
      have Z3 := hid (BY.out.trans (s3.mono BY.out.size))
      clear s3 b3 b0 KEEP hrd BY hyz dx2
      have hde := hid (rdecode_any s w3 hss)
      go_wp2_with fail
      refine hde.out.mono ?_
      rintro e w4 ⟨o4, b4⟩
      have Z4 := hid (Z3.out.trans (b4.mono Z3.out.size))
      have d0 := (Z4.out.cell (p := ⟨g, off + j * 3, none⟩) z0).trans c0
      have d1 := (Z4.out.cell (p := ⟨g, off + j * 3 + 1, none⟩) z0).trans c1
      have dx2 := (Z4.out.cell (p := ⟨X, 2, none⟩) zX).trans cx2
      clear hde
      unfold DecOut at o4
      cases hdec : Ents.dec s.data.toList with
      | none =>
       rw [hdec] at o4
       subst o4
       have F : Hid (∀ w', Below wo.heap.size wo w' → RWOut B X D cD bad w R (.returned (.int .i64 80)) w') := hid (fun w' hb' => RWOut.err (by rw [hfd.out, ← HF.out, Forks.nodeW_bad HHO.out.1 HHO.out.2 hdec]) (by decide) (bk_below hb.out hb' (by omega)))
       clear hdec b4
       go_wp2_with fail
       go_quiet (fail)
       have F4 := hid (F.out _ (Below.drewN' Z4.out nq))
       go_wp2_with fail
       go_ret
       exact F4.out
      | some y =>
       obtain ⟨p, leaf⟩ := y
       rw [hdec] at o4
       obtain ⟨u, rfl, o4⟩ := o4
       have o4 : OwnEnts w3.heap.size w4 u p := o4
       have HEN : Hid (Ents.EncOk p leaf) := hid (Ents.dec_some hdec).1
       have hp1 : 1 ≤ p.length := HEN.out.1
       have hp0 : (0 : Int) < (p.length : Int) := by omega
       obtain ⟨gp, cp, rfl, hg0, HP⟩ : ∃ gp cp, u = .slice (some ⟨gp, 0, none⟩) p.length cp ∧ w4.cell? ⟨gp, 0, none⟩ = some (.int .i64 (p.getD 0 (0, 0, 0)).1) ∧ Hid (EntsAt w4 (.slice (some ⟨gp, 0, none⟩) p.length cp) p) := by
        have hx := o4.ents
        rcases o4.2 with ⟨rfl, h0⟩ | ⟨gp, cp, cur, rfl, _⟩
        ·exact absurd h0 (by omega)
        ·obtain ⟨_, g', off, e', c0, _⟩ := hx.ext.cells 0 (by omega)
         cases e'
         exact ⟨gp, cp, rfl, by simpa using c0, hid hx⟩
       clear b4 o4
       have HDD := hid hdec
       clear hdec
       by_cases hlf : leaf = (k + 1 == 1)
       case neg =>
        have F : Hid (∀ w', Below wo.heap.size wo w' → RWOut B X D cD bad w R (.returned (.int .i64 80)) w') := hid (fun w' hb' => RWOut.err (by rw [hfd.out, ← HF.out, Forks.nodeW_ne HHO.out.1 HHO.out.2 HDD.out (.inl hlf)]) (by decide) (bk_below hb.out hb' (by omega)))
        generalize (p.getD 0 (0, 0, 0)).1 = lg at *
        cases leaf
        ·have hk1 : ((k : Int) + 1 == 1) = true := by rw [beq_iff_eq]; simp at hlf; omega
         have hk2 : ((k : Int) == 0) = true := by rw [beq_iff_eq]; simp at hlf; omega
         clear hlf
         go_wp2_with fail
         go_quiet (fail)
         have F4 := hid (F.out _ (Below.drewN' Z4.out nq))
         go_wp2_with fail
         go_ret
         exact F4.out
        ·have hk1 : ((k : Int) + 1 == 1) = false := by rw [beq_eq_false_iff_ne]; simp at hlf; omega
         have hk2 : ((k : Int) == 0) = false := by rw [beq_eq_false_iff_ne]; simp at hlf; omega
         clear hlf
         go_wp2_with fail
         go_quiet (fail)
         have F4 := hid (F.out _ (Below.drewN' Z4.out nq))
         go_wp2_with fail
         go_ret
         exact F4.out
       case pos =>
       by_cases hne : (p.getD 0 (0, 0, 0)).1 = xa
       case neg =>
        have F : Hid (∀ w', Below wo.heap.size wo w' → RWOut B X D cD bad w R (.returned (.int .i64 80)) w') := hid (fun w' hb' => RWOut.err (by rw [hfd.out, ← HF.out, Forks.nodeW_ne HHO.out.1 HHO.out.2 HDD.out (.inr hne)]) (by decide) (bk_below hb.out hb' (by omega)))
        generalize (p.getD 0 (0, 0, 0)).1 = lg at *
        have hnb : (lg != xa) = true := by rw [bne_iff_ne]; exact hne
        have hnb2 : (lg == xa) = false := by rw [beq_eq_false_iff_ne]; exact hne
        clear hne
        cases leaf
        ·have hk1 : ((k : Int) + 1 == 1) = false := by rw [beq_eq_false_iff_ne]; simp at hlf; omega
         have hk2 : ((k : Int) == 0) = false := by rw [beq_eq_false_iff_ne]; simp at hlf; omega
         clear hlf
         go_wp2_with fail
         go_quiet (fail)
         have F4 := hid (F.out _ (Below.drewN' Z4.out nq))
         go_wp2_with fail
         go_ret
         exact F4.out
        ·have hk1 : ((k : Int) + 1 == 1) = true := by rw [beq_iff_eq]; simp at hlf; omega
         have hk2 : ((k : Int) == 0) = true := by rw [beq_iff_eq]; simp at hlf; omega
         clear hlf
         go_wp2_with fail
         go_quiet (fail)
         have F4 := hid (F.out _ (Below.drewN' Z4.out nq))
         go_wp2_with fail
         go_ret
         exact F4.out
       case pos =>
       have HOK := hid (Forks.nodeW_ok (child := Forks.allW ⟨L, bad⟩ k) HHO.out.1 HHO.out.2 HDD.out hlf hne)
       rw [hne] at hg0
       have HGS := hid (HG.out.snoc (x := ⟨b, k + 1, p, s⟩) b1 b2 (by dsimp only; rw [HDD.out, hlf]) HHO.out.1)
       clear hne
       have BK4 := hid (bk_below hb.out Z4.out (by omega))
       have RW4 := hid (HRW.out.below Z4.out)
       have HT4 := hid (HT.out.below BK4.out.1)
       have hB4 : B ≤ w4.heap.size := Nat.le_trans hB BK4.out.1.size
       have hz4 : g < w4.heap.size := Nat.lt_of_lt_of_le z0 Z4.out.size
       have hk1 : ((k : Int) + 1 == 1) = leaf := by
        rw [hlf]
        cases h : (k + 1 == 1) with
        | true => rw [beq_iff_eq] at h ⊢; omega
        | false => rw [beq_eq_false_iff_ne] at h ⊢; omega
       have hk2 : ((k : Int) == 0) = leaf := by
        rw [hlf]
        cases h : (k + 1 == 1) with
        | true => rw [beq_iff_eq] at h ⊢; omega
        | false => rw [beq_eq_false_iff_ne] at h ⊢; omega
       have HLF := hid hlf
       clear hlf HHO HDD
       cases leaf
       case false =>
        go_wp2_with fail
        go_quiet (fail)
        have b4n : Below w4.heap.size w4 (w4.drewN nq) := Below.drewN' (Below.refl _ _) nq
        have BK5 := hid (bk_below BK4.out b4n hB4)
        have RW5 := hid (RW4.out.below b4n)
        have HP5 := hid (HP.out.keep (.of_below b4n))
        have d1' := (b4n.cell (p := ⟨g, off + j * 3 + 1, none⟩) hz4).trans d1
        have hB5 : B ≤ (w4.drewN nq).heap.size := hB4
        clear d0 d1 dx2 hg0 b4n RW4 HP
        generalize w4.drewN nq = w5 at *
        go_upto_region 15 with fail
        obtain ⟨-, -, dx2, -⟩ := RW5.out.cellX
        have zX5 := RW5.out.lt
        have bA : Below w5.heap.size w5 (w5.drew.alloc (.cells #[.int .i64 (b : Int)] 3)) := (Below.refl _ _).drew.alloc (Nat.le_refl _) _
        have H2 := hid (RW5.out.below bA)
        have HG5 := hid (show World.ownsRow (w5.drew.alloc (.cells #[.int .i64 (b : Int)] 3)) B 3 1 (.slice an m cn) m (icells (visB v')) by have := H2.out.nodes; unfold OwnInts at this; rw [HN.out] at this; exact this)
        have HBA := hid (bk_below BK5.out bA hB5)
        have HPA := hid (HP5.out.keep (.of_below bA))
        have HNN : Hid (∀ jj uu, [Value.int .i64 (b : Int)][jj]? = some uu → (w5.drew.alloc (.cells #[.int .i64 (b : Int)] 3)).cell? ((⟨w5.heap.size, 0, none⟩ : Addr).add jj) = some uu) := hid (fun jj uu hjj => by
         have hadd : (⟨w5.heap.size, 0, none⟩ : Addr).add jj = ⟨w5.heap.size, jj, none⟩ := by unfold Addr.add; split <;> simp_all
         rw [hadd]
         exact (World.cell?_alloc_at (w := w5.drew) _ _ _ jj rfl).trans (by simpa using hjj))
        have hone : ∀ u ∈ [Value.int .i64 (b : Int)], u.oneCell' = true := by
         intro u hu
         obtain rfl := List.mem_singleton.1 hu
         rfl
        have hBs2 : B ≤ (w5.drew.alloc (.cells #[.int .i64 (b : Int)] 3)).heap.size := by simp; omega
        clear bA RW5 HP5 BK5
        go_region_law (refine step_append_lies _ rfl (.tmp 87) (.tmp 93) 43 rfl B 3 ii (.int .i64 0) 1 8 Tryz.underlying43 hii hzi hsi hbi rfl (by decide) (.slice an m cn) m (icells (visB v')) (by simp [Act.eval, Act.put]; done) HG5.out ⟨w5.heap.size, 0, none⟩ 1 1 [.int .i64 (b : Int)] (by simp [Act.eval, Act.put]; done) rfl HNN.out hone (by decide) (by unfold maxLen; omega) (by omega) hBs2 _ rfl ?_; intro g5 c5 w6 hown hgrow hat hlt5; have X5 := kept_other HG5.out hgrow H2.out.x (by decide); have cX5 := cell_of_row w6 X 2 _ _ _ X5; have fX5 := free_zero X5 2)
        all_goals
         have hown2 : OwnInts B w6 (.slice (some ⟨g5, 0, none⟩) (m + 1) c5) (visB v' ++ [(b : Int)]) := by
          unfold OwnInts
          rw [List.length_append, HN.out, show icells (visB v' ++ [(b : Int)]) = icells (visB v') ++ [.int .i64 (b : Int)] by simp [icells]]
          exact hown
         have R6 := H2.out.pushNode hgrow hown2 hBs2
         have RW6 := hid R6.1
         have BK6 := hid (And.intro (HBA.out.1.trans R6.2.1) (HBA.out.2.trans R6.2.2))
         have HP6 := hid (HPA.out.keep R6.2.2)
         have hB6 : B ≤ (w6.setCell ⟨X, 2, none⟩ (.slice (some ⟨g5, 0, none⟩) (m + 1) c5)).heap.size := Nat.le_trans hBs2 R6.2.1.size
         clear R6 hown hown2 hgrow hat hlt5 X5 cX5 fX5 dx2 d1'
         have hk0' : k ≠ 0 := by simpa using hk2
         have RW7 : Hid (RWAt B X D cD bad (w6.setCell ⟨X, 2, none⟩ (.slice (some ⟨g5, 0, none⟩) (m + 1) c5)) (v' ++ [⟨b, k + 1, p, s⟩])) := hid ⟨_, _, by
          rw [show visB (v' ++ [⟨b, k + 1, p, s⟩]) = visB v' ++ [(b : Int)] by simp [visB], Forks.rowV_other v' b (k + 1) p s (by omega)]
          exact RW6.out⟩
         have HGO := hid (HREC.out hk0' _ (.slice (some ⟨gp, 0, none⟩) p.length cp) _ p RW7.out HGS.out (HT.out.below BK6.out.1) HP6.out HEN.out hB6)
         have hv2 := hid (show R = match Forks.allW ⟨L, bad⟩ k p (v' ++ [⟨b, k + 1, p, s⟩]) with | .error e => .error e | .ok v' => Forks.foldW f (l.drop (j + 1)) v' by
          have := hfd.out
          rw [← HF.out, HOK.out, if_neg (by decide)] at this
          rw [← HF.out]
          exact this)
         clear HPA HP6 H2 HG5 HNN HBA HOK HGS hk0' RW6 RW7
         generalize v' ++ [Forks.Vis.mk b (k + 1) p s] = v2 at *
         go_wp2_with fail
         refine HGO.out.mono ?_
         rintro e w7 h7
         have HV2 := hv2.out
         cases hal : Forks.allW ⟨L, bad⟩ k p v2 with
         | error q =>
          rw [hal] at h7 HV2
          obtain ⟨hb7, hk7, rfl, hq⟩ := h7
          have hqb : (q != 0) = true := by rw [bne_iff_ne]; exact hq
          have F7 := hid (RWOut.err (w := w) (w' := w7) (X := X) (D := D) (cD := cD) (bad := bad) HV2 hq ⟨BK6.out.1.trans hb7, BK6.out.2.trans hk7⟩)
          clear hb7 hk7 HGO HV2 hv2 hal
          go_wp2_with fail
          go_ret
          exact F7.out
         | ok v3 =>
          rw [hal] at h7 HV2
          obtain ⟨hb7, hk7, rfl, hw7, hg7⟩ := h7
          have R7 := hid HV2
          have W7 := hid (And.intro hw7 hg7)
          have B7 := hid (And.intro (BK6.out.1.trans hb7) (BK6.out.2.trans hk7))
          clear hb7 hk7 HGO HV2 hv2 hal hw7 hg7
          go_wp2_with fail
          go_roundw
          case rel => exact ⟨j + 1, v3, by omega, by go_num, R7, W7, B7⟩
          case measure => simp [intOf]; omega
       case true =>
        go_wp2_with fail
        go_quiet (fail)
        have b4n : Below w4.heap.size w4 (w4.drewN nq) := Below.drewN' (Below.refl _ _) nq
        have BK5 := hid (bk_below BK4.out b4n hB4)
        have RW5 := hid (RW4.out.below b4n)
        have HP5 := hid (HP.out.keep (.of_below b4n))
        have d1' := (b4n.cell (p := ⟨g, off + j * 3 + 1, none⟩) hz4).trans d1
        have hB5 : B ≤ (w4.drewN nq).heap.size := hB4
        clear d0 d1 dx2 hg0 b4n RW4 HP
        generalize w4.drewN nq = w5 at *
        go_upto_region 15 with fail
        obtain ⟨-, -, dx2, -⟩ := RW5.out.cellX
        have zX5 := RW5.out.lt
        have bA : Below w5.heap.size w5 (w5.drew.alloc (.cells #[.int .i64 (b : Int)] 3)) := (Below.refl _ _).drew.alloc (Nat.le_refl _) _
        have H2 := hid (RW5.out.below bA)
        have HG5 := hid (show World.ownsRow (w5.drew.alloc (.cells #[.int .i64 (b : Int)] 3)) B 3 1 (.slice an m cn) m (icells (visB v')) by have := H2.out.nodes; unfold OwnInts at this; rw [HN.out] at this; exact this)
        have HBA := hid (bk_below BK5.out bA hB5)
        have HPA := hid (HP5.out.keep (.of_below bA))
        have HNN : Hid (∀ jj uu, [Value.int .i64 (b : Int)][jj]? = some uu → (w5.drew.alloc (.cells #[.int .i64 (b : Int)] 3)).cell? ((⟨w5.heap.size, 0, none⟩ : Addr).add jj) = some uu) := hid (fun jj uu hjj => by
         have hadd : (⟨w5.heap.size, 0, none⟩ : Addr).add jj = ⟨w5.heap.size, jj, none⟩ := by unfold Addr.add; split <;> simp_all
         rw [hadd]
         exact (World.cell?_alloc_at (w := w5.drew) _ _ _ jj rfl).trans (by simpa using hjj))
        have hone : ∀ u ∈ [Value.int .i64 (b : Int)], u.oneCell' = true := by
         intro u hu
         obtain rfl := List.mem_singleton.1 hu
         rfl
        have hBs2 : B ≤ (w5.drew.alloc (.cells #[.int .i64 (b : Int)] 3)).heap.size := by simp; omega
        clear bA RW5 HP5 BK5
        go_region_law (refine step_append_lies _ rfl (.tmp 87) (.tmp 93) 43 rfl B 3 ii (.int .i64 0) 1 8 Tryz.underlying43 hii hzi hsi hbi rfl (by decide) (.slice an m cn) m (icells (visB v')) (by simp [Act.eval, Act.put]; done) HG5.out ⟨w5.heap.size, 0, none⟩ 1 1 [.int .i64 (b : Int)] (by simp [Act.eval, Act.put]; done) rfl HNN.out hone (by decide) (by unfold maxLen; omega) (by omega) hBs2 _ rfl ?_; intro g5 c5 w6 hown hgrow hat hlt5; have X5 := kept_other HG5.out hgrow H2.out.x (by decide); have cX5 := cell_of_row w6 X 2 _ _ _ X5; have fX5 := free_zero X5 2)
        all_goals
         have hown2 : OwnInts B w6 (.slice (some ⟨g5, 0, none⟩) (m + 1) c5) (visB v' ++ [(b : Int)]) := by
          unfold OwnInts
          rw [List.length_append, HN.out, show icells (visB v' ++ [(b : Int)]) = icells (visB v') ++ [.int .i64 (b : Int)] by simp [icells]]
          exact hown
         have R6 := H2.out.pushNode hgrow hown2 hBs2
         have RW6 := hid R6.1
         have BK6 := hid (And.intro (HBA.out.1.trans R6.2.1) (HBA.out.2.trans R6.2.2))
         have HP6 := hid (HPA.out.keep R6.2.2)
         have hB6 : B ≤ (w6.setCell ⟨X, 2, none⟩ (.slice (some ⟨g5, 0, none⟩) (m + 1) c5)).heap.size := Nat.le_trans hBs2 R6.2.1.size
         clear R6 hown hown2 hgrow hat hlt5 X5 cX5 fX5 dx2 d1'
         have HADD := hid (radd_any RW6.out (.slice (some ⟨gp, 0, none⟩) p.length cp) p (fun wz _ hz => (HP6.out.keep hz).ext) (by have h1 := HG.out.row_len; have h2 := HEN.out.2.1; omega) hB6)
         have hv2 : Hid (R = Forks.foldW f (l.drop (j + 1)) (v' ++ [⟨b, k + 1, p, s⟩])) := hid (by
          rw [hfd.out, ← HF.out, HOK.out]
          first | rw [if_pos rfl] | rw [if_pos trivial])
         have hkk : Hid (k = 0) := hid (by simpa using hk2)
         clear HPA HP6 H2 HG5 HNN HBA
         go_wp2_with fail
         refine HADD.out.mono ?_
         rintro e w7 ⟨rfl, ⟨rv7, h7⟩, b7, k7⟩
         have RW7 : Hid (RWAt B X D cD bad w7 (v' ++ [⟨b, k + 1, p, s⟩]) ∧ Forks.Good (v' ++ [⟨b, k + 1, p, s⟩])) := hid ⟨⟨_, _, by
          rw [show visB (v' ++ [⟨b, k + 1, p, s⟩]) = visB v' ++ [(b : Int)] by simp [visB], show Forks.rowV (v' ++ [⟨b, k + 1, p, s⟩]) = Forks.rowV v' ++ p by rw [hkk.out]; exact Forks.rowV_leaf v' b p s]
          exact h7⟩, HGS.out⟩
         have BK7 := hid (And.intro (BK6.out.1.trans b7) (BK6.out.2.trans k7))
         clear HADD h7 b7 k7 RW6 BK6
         go_wp2_with fail
         go_roundw
         case rel => exact ⟨j + 1, _, by omega, by go_num, hv2, RW7, BK7⟩
         case measure => simp [intOf]; omega
  ·obtain rfl : j = l.length := by omega
   have F := hid (RWOut.ok (w := w) (w' := wr) (X := X) (D := D) (cD := cD) (bad := bad) (r := R) (v := v') (by rw [hR.out, List.drop_length]; rfl) hb.out hw.out.1 hw.out.2)
   go_wp2_with fail
   go_ret
   exact F.out
theorem rwalk_any (hds : ∀ b s, (⟨L, bad⟩ : Forks.Disk).rd b = some s → s.size ≤ 140737488351232) : ∀ (k : Nat) (w : World) (v : Forks.V) (ev : Value) (l : EL), k < 4 → RWAt B X D cD bad w v → Forks.Good v → TextsAt B D w L → B ≤ w.heap.size → (∀ wz, Below B w wz → KeepE w wz → ExtsAt wz ev l) → (∀ x ∈ l, Ents.may false x = true) → l.length ≤ 1000000 →
  Calls Tryz.prog 52 #[.pointer (some ⟨X, 0, none⟩), ev, .int .i64 ((k : Int) + 1)] w (RWOut B X D cD bad w (Forks.allW ⟨L, bad⟩ (k + 1) l v))
 | 0, w, v, ev, l, hk, hw, hg, hT, hB, hev, hm, hl => by
  have := rwalk_step 0 hk hds (fun h => absurd rfl h) hw hg hT hB ev l hev hm hl
  exact this
 | k + 1, w, v, ev, l, hk, hw, hg, hT, hB, hev, hm, hl => by
  have := rwalk_step (k + 1) hk hds (fun _ wz ev1 v1 l1 g1 g2 g3 g4 g5 g6 => by
   have := rwalk_any hds k wz v1 ev1 l1 (by omega) g1 g2 g3 g6 (fun wy _ hy => (g4.keep hy).ext) (fun y hy => g5.2.2.may y hy) (by have := g5.2.1; omega)
   exact this) hw hg hT hB ev l hev hm hl
  exact this
end Go.Proofs.YtgjmeeiejcbjfaaGreat
