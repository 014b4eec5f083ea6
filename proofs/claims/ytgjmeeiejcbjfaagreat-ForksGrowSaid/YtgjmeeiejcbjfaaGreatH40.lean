/- A world of blocks: a Replace there, in memory. -/
import Derived.Test.YtgjmeeiejcbjfaaGreatH38
import Derived.Test.YtgjmeeiejcbjfaaGreatH37
import Derived.Test.YtgjmeeiejcbjfaaGreatH28
import Derived.Test.YtgjmeeiejcbjfaaGreatH35
import Derived.Deep.DeepCutAuto
set_option linter.unusedSimpArgs false
set_option linter.unusedVariables false
namespace Go.Proofs.YtgjmeeiejcbjfaaGreat
open Go.Lib (hid)
open Go Go.RowKit
section
variable {W D U : Nat} {us : List Bool} {L : List ByteArray} {d : Int} {rv lv : Value} {root l : EL} {w wz wy w' : World} {B : Nat}
theorem OnlyW.keepT {T : TypeId} (h : OnlyW W D U w w') (ha : WorldAt B w W D U us L d rv root) (h1 : T ≠ 79) (h2 : T ≠ 9) (h3 : T ≠ 4) : KeepT T w w' := by
 intro b cs fr hb
 rw [h.block b (lt_of_block hb) ?_ ?_ ?_]
 ·exact hb
 ·rintro rfl
  have := ha.blk
  unfold WBlk at this
  rw [this] at hb
  injection hb with hb
  injection hb with _ hb
  exact h1 hb.symm
 ·rintro rfl
  obtain ⟨fr', hd, -⟩ := ha.row
  rw [hd] at hb
  injection hb with hb
  injection hb with _ hb
  exact h2 hb.symm
 ·rintro rfl
  have := ha.use
  unfold UBlk at this
  rw [this] at hb
  injection hb with hb
  injection hb with _ hb
  exact h3 hb.symm
structure WB (w : World) (W D U : Nat) (us : List Bool) (L : List ByteArray) (d : Int) (rv : Value) (root : EL) (lv : Value) (l : EL) (wz : World) : Prop where
 wa : WorldAt w.heap.size wz W D U us L d rv root
 ls : OwnExts w.heap.size wz lv l
 bel : Below w.heap.size w wz
theorem WB.below (h : WB w W D U us L d rv root lv l wz) (hb : Below wz.heap.size wz wy) : WB w W D U us L d rv root lv l wy :=
 ⟨h.wa.below hb, h.ls.below hb, h.bel.trans (hb.mono h.bel.size)⟩
theorem WB.keep (h : WB w W D U us L d rv root lv l wz) (hk : ∀ T, T ≠ 58 → KeepT T wz wy) (hb : Below w.heap.size wz wy) : WB w W D U us L d rv root lv l wy :=
 ⟨⟨hk _ (by decide) _ _ _ h.wa.blk, h.wa.row.keepT (hk _ (by decide)), hk _ (by decide) _ _ _ h.wa.use, own_keepT h.wa.root (hk _ (by decide)), h.wa.loW, h.wa.loD, h.wa.loU, h.wa.neD, h.wa.neU, h.wa.neDU⟩, own_keepT h.ls (hk _ (by decide)), h.bel.trans hb⟩
theorem WB.readP (h : WB w W D U us L d rv root lv l wz) (hL : L.length = 4096) (bad : Int) (P : Nat) (hP : wz.heap.size = P) (wy : World) (hw : wy = (wz.alloc (.cells #[.slice (some ⟨D, 0, none⟩) 4096 4096] 40)).alloc (.cells #[.int .i64 bad] 3)) :
  WB w W D U us L d rv root lv l wy ∧ DiskAt wy.heap.size wy (RDV P (P + 1)) ⟨L, bad⟩ := by
 subst hw
 subst hP
 have h0 := heap_alloc_new wz (.cells #[.slice (some ⟨D, 0, none⟩) 4096 4096] 40)
 have h1 := heap_alloc_new (wz.alloc (.cells #[.slice (some ⟨D, 0, none⟩) 4096 4096] 40)) (.cells #[.int .i64 bad] 3)
 rw [asz] at h1
 have bA : Below wz.heap.size wz ((wz.alloc (.cells #[.slice (some ⟨D, 0, none⟩) 4096 4096] 40)).alloc (.cells #[.int .i64 bad] 3)) := ((Below.refl _ _).alloc (Nat.le_refl _) _).alloc (by simp) _
 have hb := h.below bA
 refine ⟨hb, wz.heap.size, wz.heap.size + 1, D, 4096, rfl, by simp; omega, by simp, hb.wa.row.lt, by dsimp only; omega, ?_, cell_of_row _ _ 0 _ _ _ h1, fun k s hk => hb.wa.row.cellAt k (by rw [List.getElem?_map, hk]; rfl)⟩
 rw [cell_of_row _ _ 0 _ _ _ (heap_alloc_at h0 _)]
 dsimp only
 rw [hL]
 rfl
set_option maxRecDepth 100000 in
theorem WB.rep (h : WB w W D U us L d rv root lv l wz) (hu : us.length = 4096) (hs : SmallsE root) (hl : root.length ≤ 1000000000) (hd : -9223372036854775808 ≤ d ∧ d ≤ 9223372036854775807) (P : Nat) (dk : Forks.Disk) (hdk : DiskAt wz.heap.size wz (RDV P (P + 1)) dk) (hds : ∀ b s, dk.rd b = some s → s.size ≤ 140737488351232)
  (a b : Int) (ha : -9223372036854775808 ≤ a ∧ a ≤ 9223372036854775807) (hb : -9223372036854775808 ≤ b ∧ b ≤ 9223372036854775807) (xv : Value) (x : EL) (hsx : SmallsE x) (hX : ExtsAt wz xv x) (hlx : x.length ≤ 100000)
  (r : Except Int Forks.SetR × List Bool) (hr : Forks.replaceT (Forks.askW us) dk d root a b x us = r) :
  Calls Tryz.prog 28 #[.agg #[.int .i64 d, rv], RDV P (P + 1), .int .i64 a, .int .i64 b, xv, .func (.func 32) #[.pointer (some ⟨W, 0, none⟩)] #[]] wz fun e w' =>
   WB w W D U r.2 L d rv root lv l w' ∧ OnlyM U wz w' ∧ ∃ a1 a2 a3 c1 c2 c3, e = .returned (.tuple #[.agg #[.int .i64 (repD r.1), .slice a1 (repR r.1).length c1, .slice a2 (repC r.1).length c2, .slice a3 (repF r.1).length c3], .int .i64 (repE r.1)]) ∧ RepAt wz.heap.size w' r.1 a1 a2 a3 c1 c2 c3 := by
 subst hr
 refine (replace_any wz ((worldFn W U wz.heap.size (lt_of_block h.wa.blk) (lt_of_block h.wa.use)).ask us (Nat.zero_le _)) (h.wa.fr hu) (.inl ⟨_, _, rfl⟩) P (P + 1) dk d rv root hs (OwnEnts.ents h.wa.root).ext hl hd hdk hds a b ha hb xv x hsx hX hlx).mono ?_
 intro e w' h'
 obtain ⟨h1, h2, h3⟩ := rep_flat h'
 have hk : ∀ {T : TypeId}, T ≠ 4 → KeepT T wz w' := fun hT => h2.keepS h.wa.use hT
 refine ⟨⟨⟨hk (by decide) _ _ _ h.wa.blk, h.wa.row.keepT (hk (by decide)), h1.2.2.1, own_keepT h.wa.root (hk (by decide)), h.wa.loW, h.wa.loD, h.wa.loU, h.wa.neD, h.wa.neU, h.wa.neDU⟩, own_keepT h.ls (hk (by decide)), h.bel.trans (h2.below h.bel.size h.wa.loU)⟩, h2, h3⟩
set_option maxRecDepth 100000 in
theorem WB.put {s : Forks.SetR} {a1 a2 a3 : Option Addr} {c1 c2 c3 : Nat} (h : WB w W D U us L d rv root lv l wz) (hr : RepAt w.heap.size wz (.ok s) a1 a2 a3 c1 c2 c3) (hL : L.length = 4096) (hu : us.length = 4096) (hC : ∀ x ∈ s.changes, 0 ≤ x.1 ∧ x.1 < 4096) (hF : ∀ x ∈ s.freed, 0 ≤ x ∧ x < 4096) (hCl : s.changes.length ≤ 4096) (hFl : s.freed.length ≤ 4096) :
  Calls Tryz.prog 33 #[.pointer (some ⟨W, 0, none⟩), .agg #[.int .i64 s.depth, .slice a1 s.root.length c1, .slice a2 s.changes.length c2, .slice a3 s.freed.length c3]] wz fun e w' => e = .returned (.tuple #[]) ∧ WB w W D U (Forks.freeT s.freed us) (Forks.putC s.changes L) s.depth (.slice a1 s.root.length c1) s.root lv l w' ∧ KeepT 58 wz w' := by
 refine (put_any h.wa h.bel.size hr.root hr.chgs hr.free hL hu hC hF (Nat.le_trans hCl (by decide)) (Nat.le_trans hFl (by decide))).mono ?_
 rintro e w' ⟨rfl, h1, h2⟩
 exact ⟨rfl, ⟨h1, own_keepT h.ls (h2.keepT h.wa (by decide) (by decide) (by decide)), h.bel.trans (h2.below h.bel.size h.wa.loW h.wa.loD h.wa.loU)⟩, h2.keepT h.wa (by decide) (by decide) (by decide)⟩
end
theorem WorldAt.mono {B B' W D U : Nat} {us : List Bool} {L : List ByteArray} {d : Int} {rv : Value} {root : EL} {w : World} (h : WorldAt B w W D U us L d rv root) (hB : B' ≤ B) : WorldAt B' w W D U us L d rv root :=
 ⟨h.blk, h.row, h.use, World.ownsRow.mono h.root hB, Nat.le_trans hB h.loW, Nat.le_trans hB h.loD, Nat.le_trans hB h.loU, h.neD, h.neU, h.neDU⟩
theorem rootOk_small {d : Int} {root : EL} (h : Forks.RootOk d root) : SmallsE root := fun x hx => by
 have := Ents.may_fits (h.2.2.2.2.may x hx)
 unfold Ents.Fits at this
 unfold SmallE
 omega
theorem rd_small {L : List ByteArray} (hL : ∀ s ∈ L, s.size ≤ 140737488351232) (b : Nat) (s : ByteArray) (h : (⟨L, -1⟩ : Forks.Disk).rd b = some s) : s.size ≤ 140737488351232 := by
 rw [Forks.rd_new] at h
 exact hL s (List.mem_of_getElem? h)
end Go.Proofs.YtgjmeeiejcbjfaaGreat
namespace Go.Proofs.YtgjmeeiejcbjfaaGreat
open Go.Lib (hid)
open Go Go.RowKit
theorem read_below {wz wy : World} {o1 o2 : Obj} (h : wy = (wz.alloc o1).alloc o2) : Below wz.heap.size wz wy := by subst h; exact ((Below.refl _ _).alloc (Nat.le_refl _) _).alloc (by simp) _
theorem TwinN.mono {B B' : Nat} {w : World} {v : Value} {l : EL} (hb : B' ≤ B) (h : TwinN B w v l) : TwinN B' w v l := by
 obtain ⟨g, cap, e, hc, ho⟩ := h
 exact ⟨g, cap, e, hc, World.ownsRow.mono ho hb⟩
def wkR (r : Except Int (Forks.V × EL)) : EL := match r with | .ok x => x.2 | .error _ => []
def wkN (r : Except Int (Forks.V × EL)) : IL := match r with | .ok x => natI (Forks.nodes x.1) | .error _ => []
def wkE (r : Except Int (Forks.V × EL)) : Int := match r with | .ok _ => 0 | .error k => k
theorem WalkTold.flat {w w' : World} {r : Except Int (Forks.V × EL)} {e : Ending} (h : WalkTold w r e w') : Below w.heap.size w w' ∧ ∃ a1 c1 a2 c2, e = .returned (.tuple #[.slice a1 (wkR r).length c1, .slice a2 (wkN r).length c2, .int .i64 (wkE r)]) ∧ OwnExts w.heap.size w' (.slice a1 (wkR r).length c1) (wkR r) ∧ OwnInts w.heap.size w' (.slice a2 (wkN r).length c2) (wkN r) := by
 obtain ⟨h1, h2⟩ := h
 refine ⟨h1, ?_⟩
 cases r with
 | error k =>
  obtain ⟨rfl, -⟩ := h2
  exact ⟨none, 0, none, 0, rfl, World.ownsRow_nil _ _ _ _, World.ownsRow_nil _ _ _ _⟩
 | ok x =>
  obtain ⟨a, b, rfl, o1, o2, -⟩ := h2
  obtain ⟨a1, c1, rfl⟩ := o1.slice
  obtain ⟨a2, c2, rfl⟩ := o2.slice
  exact ⟨a1, c1, a2, c2, rfl, o1, o2⟩
structure WK (w w5 : World) (D Y g c : Nat) (depth : Int) (root : EL) (L : List ByteArray) (wz : World) : Prop where
 row : Row wz D 9 (L.map .string)
 tree : wz.heap[Y]? = some (.cells #[.int .i64 depth, .slice (some ⟨g, 0, none⟩) root.length c] 35 (0, 0))
 twin : TwinN w5.heap.size wz (.slice (some ⟨g, 0, none⟩) root.length c) root
 bel : Below w5.heap.size w5 wz
 old : Below w.heap.size w w5
 loD : D < w5.heap.size
 loY : w5.heap.size ≤ Y
variable {w w5 wz wy : World} {D Y g c : Nat} {depth : Int} {root : EL} {L : List ByteArray}
theorem WK.below (h : WK w w5 D Y g c depth root L wz) (hb : Below wz.heap.size wz wy) : WK w w5 D Y g c depth root L wy :=
 ⟨h.row.below hb h.row.lt, (hb.block _ (lt_of_block h.tree)).trans h.tree, h.twin.below hb, h.bel.trans (hb.mono h.bel.size), h.old, h.loD, h.loY⟩
theorem WK.all (h : WK w w5 D Y g c depth root L wz) : Below w.heap.size w wz := h.old.trans (h.bel.mono h.old.size)
theorem WK.setAt (h : WK w w5 D Y g c depth root L wz) {b k : Nat} {u : Value} {cs : Array Value} {T : TypeId} {fr : Nat × Nat} (hg : wz.heap[b]? = some (.cells cs T fr)) (hlo : w5.heap.size ≤ b) (h1 : 9 ≠ T) (h2 : 35 ≠ T) (h3 : 31 ≠ T) : WK w w5 D Y g c depth root L (wz.setCell ⟨b, k, none⟩ u) := by
 obtain ⟨g', c', e, hc, ho⟩ := h.twin
 exact ⟨h.row.keepT (KeepT.set (a := ⟨b, k, none⟩) hg h1), KeepT.set (a := ⟨b, k, none⟩) hg h2 _ _ _ h.tree, ⟨g', c', e, hc, own_keepT ho (KeepT.set (a := ⟨b, k, none⟩) hg h3)⟩, h.bel.setCell hlo _, h.old, h.loD, h.loY⟩
theorem WK.readP (h : WK w w5 D Y g c depth root L wz) (hL : L.length = 4096) (bad : Int) (P : Nat) (hP : wz.heap.size = P) (wy : World) (hw : wy = (wz.alloc (.cells #[.slice (some ⟨D, 0, none⟩) 4096 4096] 40)).alloc (.cells #[.int .i64 bad] 3)) :
  WK w w5 D Y g c depth root L wy ∧ DiskAt wy.heap.size wy (RDV P (P + 1)) ⟨L, bad⟩ := by
 subst hw hP
 have h0 := heap_alloc_new wz (.cells #[.slice (some ⟨D, 0, none⟩) 4096 4096] 40)
 have h1 := heap_alloc_new (wz.alloc (.cells #[.slice (some ⟨D, 0, none⟩) 4096 4096] 40)) (.cells #[.int .i64 bad] 3)
 rw [asz] at h1
 have bA : Below wz.heap.size wz ((wz.alloc (.cells #[.slice (some ⟨D, 0, none⟩) 4096 4096] 40)).alloc (.cells #[.int .i64 bad] 3)) := ((Below.refl _ _).alloc (Nat.le_refl _) _).alloc (by simp) _
 have hb := h.below bA
 refine ⟨hb, wz.heap.size, wz.heap.size + 1, D, 4096, rfl, by simp; omega, by simp, hb.row.lt, by dsimp only; omega, ?_, cell_of_row _ _ 0 _ _ _ h1, fun k s hk => hb.row.cellAt k (by rw [List.getElem?_map, hk]; rfl)⟩
 rw [cell_of_row _ _ 0 _ _ _ (heap_alloc_at h0 _)]
 dsimp only
 rw [hL]
 rfl
structure WL (w w5 : World) (D Y g c : Nat) (depth : Int) (root : EL) (L : List ByteArray) (M : Nat) (a1 a2 : Option Addr) (n1 n2 c1 c2 : Nat) (v3 v4 : Value) (R : EL) (N : IL) (wz : World) : Prop where
 wk : WK w w5 D Y g c depth root L wz
 x1 : ∃ xs, wz.ownsRow w5.heap.size 53 3 (.slice a1 n1 c1) n1 xs
 x2 : ∃ xs, wz.ownsRow w5.heap.size 3 1 (.slice a2 n2 c2) n2 xs
 hi1 : ∀ g, a1 = some g → g.block < M
 hi2 : ∀ g, a2 = some g → g.block < M
 r : OwnExts M wz v3 R
 n : OwnInts M wz v4 N
variable {M n1 n2 c1 c2 : Nat} {a1 a2 : Option Addr} {v3 v4 : Value} {R : EL} {N : IL}
theorem WL.below (h : WL w w5 D Y g c depth root L M a1 a2 n1 n2 c1 c2 v3 v4 R N wz) (hb : Below wz.heap.size wz wy) : WL w w5 D Y g c depth root L M a1 a2 n1 n2 c1 c2 v3 v4 R N wy := by
 have own : ∀ {B T sz a n xs}, wz.ownsRow B T sz a n xs → wy.ownsRow B T sz a n xs := fun h => ⟨h.1, h.2.imp id (fun ⟨g', cap, cur, hv, hg', hh, r⟩ => ⟨g', cap, cur, hv, hg', by rw [hb.block _ (lt_of_block hh)]; exact hh, r⟩)⟩
 exact ⟨h.wk.below hb, h.x1.imp fun _ => own, h.x2.imp fun _ => own, h.hi1, h.hi2, own h.r, own h.n⟩
theorem WL.put2 (h : WL w w5 D Y g c depth root L M a1 a2 n1 n2 c1 c2 v3 v4 R N wz) {b k : Nat} (ha : a2 = some ⟨b, 0, none⟩) (hk : k < n2 * 1) (u : Value) : WL w w5 D Y g c depth root L M a1 a2 n1 n2 c1 c2 v3 v4 R N (wz.setCell ⟨b, k, none⟩ u) := by
 subst ha
 obtain ⟨xs, hx⟩ := h.x2
 obtain ⟨g', e, hg, cs, hc⟩ := own_form hx (by omega)
 cases e
 have hM : b < M := h.hi2 _ rfl
 exact ⟨h.wk.setAt hc hg (by decide) (by decide) (by decide), h.x1.imp fun _ h => own_keepT h (KeepT.set (a := ⟨b, k, none⟩) hc (by decide)), ⟨_, ownsRow_set hx k hk u⟩, h.hi1, h.hi2, own_setAt u h.r hM, own_setAt u h.n hM⟩
end Go.Proofs.YtgjmeeiejcbjfaaGreat
namespace Go.Proofs.YtgjmeeiejcbjfaaGreat
open Go.Lib (hid)
open Go Go.RowKit
section
variable {W D U M : Nat} {us : List Bool} {L : List ByteArray} {d : Nat} {rv lv nv ov : Value} {root l R : EL} {O : IL} {w wz wy w' : World} {cs : Array Value}
structure WN (w : World) (W D U : Nat) (us : List Bool) (L : List ByteArray) (d : Int) (rv : Value) (root : EL) (lv : Value) (l : EL) (nv : Value) (R : EL) (ov : Value) (O : IL) (wz : World) : Prop where
 wb : WB w W D U us L d rv root lv l wz
 now : OwnExts w.heap.size wz nv R
 nod : OwnInts w.heap.size wz ov O
theorem WN.below {d : Int} (h : WN w W D U us L d rv root lv l nv R ov O wz) (hb : Below wz.heap.size wz wy) : WN w W D U us L d rv root lv l nv R ov O wy := ⟨h.wb.below hb, h.now.below hb, h.nod.below hb⟩
theorem WN.keep {d : Int} (h : WN w W D U us L d rv root lv l nv R ov O wz) (hk : ∀ T, T ≠ 58 → KeepT T wz wy) (hb : Below w.heap.size wz wy) : WN w W D U us L d rv root lv l nv R ov O wy := ⟨h.wb.keep hk hb, own_keepT h.now (hk _ (by decide)), own_keepT h.nod (hk _ (by decide))⟩
structure WNX (w : World) (W D U M : Nat) (us : List Bool) (L : List ByteArray) (d : Int) (rv : Value) (root : EL) (lv : Value) (l : EL) (nv : Value) (R : EL) (ov : Value) (O : IL) (cs : Array Value) (wz : World) : Prop where
 wn : WN w W D U us L d rv root lv l nv R ov O wz
 st : wz.heap[M]? = some (.cells cs 58 (0, 0))
theorem WNX.below {d : Int} (h : WNX w W D U M us L d rv root lv l nv R ov O cs wz) (hb : Below wz.heap.size wz wy) : WNX w W D U M us L d rv root lv l nv R ov O cs wy := ⟨h.wn.below hb, (hb.block _ (lt_of_block h.st)).trans h.st⟩
theorem WNX.bel {d : Int} (h : WNX w W D U M us L d rv root lv l nv R ov O cs wz) : Below w.heap.size w wz := h.wn.wb.bel
theorem WNX.wa {d : Int} (h : WNX w W D U M us L d rv root lv l nv R ov O cs wz) : WorldAt w.heap.size wz W D U us L d rv root := h.wn.wb.wa
theorem WNX.readP {d : Int} (h : WNX w W D U M us L d rv root lv l nv R ov O cs wz) (hL : L.length = 4096) (bad : Int) (P : Nat) (hP : wz.heap.size = P) (wy : World) (hw : wy = (wz.alloc (.cells #[.slice (some ⟨D, 0, none⟩) 4096 4096] 40)).alloc (.cells #[.int .i64 bad] 3)) :
  WNX w W D U M us L d rv root lv l nv R ov O cs wy ∧ DiskAt wy.heap.size wy (RDV P (P + 1)) ⟨L, bad⟩ :=
 ⟨h.below ((read_below hw).mono (Nat.le_refl _)), (h.wn.wb.readP hL bad P hP wy hw).2⟩
set_option maxRecDepth 100000 in
theorem WB.walk {k m : Nat} (h : WB w W D U us L d rv root lv l wz) (hs : SmallsE root) (hl : root.length ≤ 1000000000) (hd : d ≤ 4) (P : Nat) (hdk : DiskAt wz.heap.size wz (RDV P (P + 1)) ⟨L, -1⟩) (hds : ∀ b s, (⟨L, -1⟩ : Forks.Disk).rd b = some s → s.size ≤ 140737488351232) (v : Forks.V) (R : EL) (hw : Forks.walkT ⟨L, -1⟩ d root = .ok (v, R)) (hk : R.length = k) (hm : (natI (Forks.nodes v)).length = m) :
  Calls Tryz.prog 19 #[.agg #[.int .i64 (d : Int), rv], RDV P (P + 1)] wz fun e w' => Below wz.heap.size wz w' ∧ ∃ a1 c1 a2 c2, e = .returned (.tuple #[.slice a1 k c1, .slice a2 m c2, .int .i64 0]) ∧ WN w W D U us L d rv root lv l (.slice a1 k c1) R (.slice a2 m c2) (natI (Forks.nodes v)) w' := by
 subst hk
 subst hm
 refine (Walk_any P (P + 1) ⟨L, -1⟩ d rv root hs (OwnEnts.ents h.wa.root).ext hl (by omega) hdk hds).mono ?_
 intro e w' h'
 rw [hw] at h'
 obtain ⟨h1, a1, c1, a2, c2, rfl, o1, o2⟩ := WalkTold.flat h'
 exact ⟨h1, a1, c1, a2, c2, rfl, h.below h1, World.ownsRow.mono o1 h.bel.size, World.ownsRow.mono o2 h.bel.size⟩
end
end Go.Proofs.YtgjmeeiejcbjfaaGreat
namespace Go.Proofs.YtgjmeeiejcbjfaaGreat
open Go.Lib (hid)
open Go Go.RowKit
theorem set_flat {w0 w' : World} {r : Except Int Forks.SetR} {e : Ending} (h : SetOut w0 r e w') :
  Below w0.heap.size w0 w' ∧ ∃ a1 a2 a3 c1 c2 c3, e = .returned (.tuple #[.agg #[.int .i64 (repD r), .slice a1 (repR r).length c1, .slice a2 (repC r).length c2, .slice a3 (repF r).length c3], .int .i64 (repE r)]) ∧ RepAt w0.heap.size w' r a1 a2 a3 c1 c2 c3 := by
 obtain ⟨h1, h3⟩ := h
 refine ⟨h1, ?_⟩
 cases r with
 | error k =>
  obtain ⟨rfl, -⟩ := h3
  exact ⟨none, none, none, 0, 0, 0, rfl, World.ownsRow_nil _ _ _ _, World.ownsRow_nil _ _ _ _, World.ownsRow_nil _ _ _ _⟩
 | ok s =>
  obtain ⟨rv, cv, fv, rfl, o1, o2, o3⟩ := h3
  obtain ⟨a1, c1, rfl⟩ := (OwnEnts.ents o1).ext.form
  obtain ⟨a2, c2, rfl⟩ := (OwnChgs.at o2).form
  obtain ⟨a3, c3, rfl⟩ := (OwnInts.at o3).form
  exact ⟨a1, a2, a3, c1, c2, c3, rfl, o1, o2, o3⟩
section
variable {w w5 wz wy : World} {D Y g c : Nat} {depth : Int} {root : EL} {L : List ByteArray}
theorem WK.put4 (h : WK w w5 D Y g c depth root L wz) {X : Nat} {x y z u a b d f : Value} (hX : wz.heap[X]? = some (.cells #[x, y, z, u] 58 (0, 0))) (hlo : w5.heap.size ≤ X) : WK w w5 D Y g c depth root L (put4 wz X a b d f) := by
 obtain ⟨h1, h2⟩ := put4_block (a := a) (b := b) (c := d) (d := f) hX
 obtain ⟨g', c', e, hc, ho⟩ := h.twin
 exact ⟨h.row.keepT (h2 _ (by decide)), h2 _ (by decide) _ _ _ h.tree, ⟨g', c', e, hc, own_keepT ho (h2 _ (by decide))⟩, h.bel.trans (put4_below wz _ _ _ _ hlo), h.old, h.loD, h.loY⟩
structure MX (w w5 : World) (D Y g c : Nat) (depth : Int) (root : EL) (L : List ByteArray) (X : Nat) (r : Except Int Forks.SetR) (a1 a2 a3 : Option Addr) (c1 c2 c3 : Nat) (wz : World) : Prop where
 wk : WK w w5 D Y g c depth root L wz
 set : SetRow wz X r a1 a2 a3 c1 c2 c3
 rep : RepAt w5.heap.size wz r a1 a2 a3 c1 c2 c3
variable {X : Nat} {r : Except Int Forks.SetR} {a1 a2 a3 : Option Addr} {c1 c2 c3 : Nat}
theorem MX.below (h : MX w w5 D Y g c depth root L X r a1 a2 a3 c1 c2 c3 wz) (hb : Below wz.heap.size wz wy) : MX w w5 D Y g c depth root L X r a1 a2 a3 c1 c2 c3 wy :=
 ⟨h.wk.below hb, (hb.block _ (lt_of_block h.set)).trans h.set, h.rep.below hb⟩
theorem MX.put4 (h : MX w w5 D Y g c depth root L X r a1 a2 a3 c1 c2 c3 wz) {Z : Nat} {x y z u a b d f : Value} (hZ : wz.heap[Z]? = some (.cells #[x, y, z, u] 58 (0, 0))) (hlo : w5.heap.size ≤ Z) (hne : X ≠ Z) : MX w w5 D Y g c depth root L X r a1 a2 a3 c1 c2 c3 (Go.Proofs.YtgjmeeiejcbjfaaGreat.put4 wz Z a b d f) := by
 obtain ⟨h1, h2⟩ := put4_block (a := a) (b := b) (c := d) (d := f) hZ
 exact ⟨h.wk.put4 hZ hlo, (put4_other hne).trans h.set, h.rep.keep h2⟩
variable {q : Except Int Forks.SetR} {e1 e2 e3 : Option Addr} {f1 f2 f3 : Nat}
end
end Go.Proofs.YtgjmeeiejcbjfaaGreat
namespace Go.Proofs.YtgjmeeiejcbjfaaGreat
open Go.Lib (hid)
open Go Go.RowKit
section
variable {B N X W D U : Nat} {us : List Bool} {L : List ByteArray} {d : Nat} {rv nv ov : Value} {root R : EL} {O : IL} {x : Forks.StepV} {w0 wz wy w' : World}
structure SB (B : Nat) (w0 : World) (W D U : Nat) (us : List Bool) (L : List ByteArray) (d : Nat) (rv : Value) (root : EL) (X : Nat) (x : Forks.StepV) (N : Nat) (nv : Value) (R : EL) (ov : Value) (O : IL) (wz : World) : Prop where
 wa : WorldAt B wz W D U us L (d : Int) rv root
 bx : wz.heap[X]? = some (.cells (stepC x) 86 (0, 0))
 now : OwnExts N wz nv R
 nod : OwnInts N wz ov O
 only : OnlyW W D U w0 wz
theorem SB.below (h : SB B w0 W D U us L d rv root X x N nv R ov O wz) (hb : Below wz.heap.size wz wy) : SB B w0 W D U us L d rv root X x N nv R ov O wy :=
 ⟨h.wa.below hb, (hb.block _ (lt_of_block h.bx)).trans h.bx, h.now.below hb, h.nod.below hb, h.only.trans (.of_below hb)⟩
theorem SB.size (h : SB B w0 W D U us L d rv root X x N nv R ov O wz) : w0.heap.size ≤ wz.heap.size := h.only.size
theorem SB.keep (h : SB B w0 W D U us L d rv root X x N nv R ov O wz) (hk : ∀ T, T ≠ 58 → KeepT T wz wy) (hb : Below w0.heap.size wz wy) : SB B w0 W D U us L d rv root X x N nv R ov O wy :=
 ⟨⟨hk _ (by decide) _ _ _ h.wa.blk, h.wa.row.keepT (hk _ (by decide)), hk _ (by decide) _ _ _ h.wa.use, own_keepT h.wa.root (hk _ (by decide)), h.wa.loW, h.wa.loD, h.wa.loU, h.wa.neD, h.wa.neU, h.wa.neDU⟩, hk _ (by decide) _ _ _ h.bx, own_keepT h.now (hk _ (by decide)), own_keepT h.nod (hk _ (by decide)),
  ⟨hb.os.trans h.only.os, hb.tape.trans h.only.tape, hb.output.trans h.only.output, Nat.le_trans h.only.size hb.size, fun k hk g1 g2 g3 => (hb.block k hk).trans (h.only.block k hk g1 g2 g3)⟩⟩
theorem SB.used {us' : List Bool} (h : SB B w0 W D U us L d rv root X x N nv R ov O wz) (h2 : OnlyM U wz wy) (hu : UBlk wy U us') : SB B w0 W D U us' L d rv root X x N nv R ov O wy := by
 have hk : ∀ {T : TypeId}, T ≠ 4 → KeepT T wz wy := fun hT => h2.keepS h.wa.use hT
 exact ⟨⟨hk (by decide) _ _ _ h.wa.blk, h.wa.row.keepT (hk (by decide)), hu, own_keepT h.wa.root (hk (by decide)), h.wa.loW, h.wa.loD, h.wa.loU, h.wa.neD, h.wa.neU, h.wa.neDU⟩, hk (by decide) _ _ _ h.bx, own_keepT h.now (hk (by decide)), own_keepT h.nod (hk (by decide)), h.only.trans (.of_only h2)⟩
theorem SB.readP (h : SB B w0 W D U us L d rv root X x N nv R ov O wz) (hL : L.length = 4096) (bad : Int) (P : Nat) (hP : wz.heap.size = P) (wy : World) (hw : wy = (wz.alloc (.cells #[.slice (some ⟨D, 0, none⟩) 4096 4096] 40)).alloc (.cells #[.int .i64 bad] 3)) :
  SB B w0 W D U us L d rv root X x N nv R ov O wy ∧ DiskAt wy.heap.size wy (RDV P (P + 1)) ⟨L, bad⟩ := by
 subst hw
 subst hP
 have h0 := heap_alloc_new wz (.cells #[.slice (some ⟨D, 0, none⟩) 4096 4096] 40)
 have h1 := heap_alloc_new (wz.alloc (.cells #[.slice (some ⟨D, 0, none⟩) 4096 4096] 40)) (.cells #[.int .i64 bad] 3)
 rw [asz] at h1
 have bA : Below wz.heap.size wz ((wz.alloc (.cells #[.slice (some ⟨D, 0, none⟩) 4096 4096] 40)).alloc (.cells #[.int .i64 bad] 3)) := ((Below.refl _ _).alloc (Nat.le_refl _) _).alloc (by simp) _
 have hb := h.below bA
 refine ⟨hb, wz.heap.size, wz.heap.size + 1, D, 4096, rfl, by simp; omega, by simp, hb.wa.row.lt, by dsimp only; omega, ?_, cell_of_row _ _ 0 _ _ _ h1, fun k s hk => hb.wa.row.cellAt k (by rw [List.getElem?_map, hk]; rfl)⟩
 rw [cell_of_row _ _ 0 _ _ _ (heap_alloc_at h0 _)]
 dsimp only
 rw [hL]
 rfl
theorem sb_new {Bz : Nat} {s : Forks.SetR} {a1 a2 a3 : Option Addr} {c1 c2 c3 : Nat} (h : SB B w0 W D U us L d rv root X x N nv R ov O wz) (hr : RepAt Bz wz (.ok s) a1 a2 a3 c1 c2 c3) (hB : B ≤ Bz) (wt : World) (hwt : wz.alloc (.cells #[.int .i64 s.depth, .slice a1 s.root.length c1, .slice a2 s.changes.length c2, .slice a3 s.freed.length c3] 58) = wt) :
  SB B w0 W D U us L d rv root X x N nv R ov O wt ∧ wt.heap[wz.heap.size]? = some (.cells #[.int .i64 s.depth, .slice a1 s.root.length c1, .slice a2 s.changes.length c2, .slice a3 s.freed.length c3] 58 (0, 0)) ∧ RepAt B wt (.ok s) a1 a2 a3 c1 c2 c3 := by
 subst hwt
 have hb : Below wz.heap.size wz (wz.alloc (.cells #[.int .i64 s.depth, .slice a1 s.root.length c1, .slice a2 s.changes.length c2, .slice a3 s.freed.length c3] 58)) := (Below.refl _ _).alloc (Nat.le_refl _) _
 exact ⟨h.below hb, heap_alloc_new _ _, (hr.mono hB).below hb⟩
theorem sb_put {Bz Z : Nat} {s : Forks.SetR} {a1 a2 a3 : Option Addr} {c1 c2 c3 : Nat} {p y z u : Value} (h : SB B w0 W D U us L d rv root X x N nv R ov O wz) (hX : wz.heap[Z]? = some (.cells #[p, y, z, u] 58 (0, 0))) (hlo : w0.heap.size ≤ Z) (hr : RepAt Bz wz (.ok s) a1 a2 a3 c1 c2 c3) (hB : B ≤ Bz)
  (wt : World) (hwt : Go.Proofs.YtgjmeeiejcbjfaaGreat.put4 wz Z (.int .i64 s.depth) (.slice a1 s.root.length c1) (.slice a2 s.changes.length c2) (.slice a3 s.freed.length c3) = wt) :
  SB B w0 W D U us L d rv root X x N nv R ov O wt ∧ wt.heap[Z]? = some (.cells #[.int .i64 s.depth, .slice a1 s.root.length c1, .slice a2 s.changes.length c2, .slice a3 s.freed.length c3] 58 (0, 0)) ∧ RepAt B wt (.ok s) a1 a2 a3 c1 c2 c3 := by
 subst hwt
 obtain ⟨h1, h2⟩ := put4_block (a := .int .i64 s.depth) (b := .slice a1 s.root.length c1) (c := .slice a2 s.changes.length c2) (d := .slice a3 s.freed.length c3) hX
 exact ⟨h.keep h2 (put4_below wz _ _ _ _ hlo), h1, (hr.mono hB).keep h2⟩
set_option maxRecDepth 100000 in
theorem SB.put {s : Forks.SetR} {a1 a2 a3 : Option Addr} {c1 c2 c3 : Nat} (h : SB B w0 W D U us L d rv root X x N nv R ov O wz) (hB : B ≤ wz.heap.size) (hr : RepAt B wz (.ok s) a1 a2 a3 c1 c2 c3) (hL : L.length = 4096) (hu : us.length = 4096) (hC : ∀ x ∈ s.changes, 0 ≤ x.1 ∧ x.1 < 4096) (hF : ∀ x ∈ s.freed, 0 ≤ x ∧ x < 4096) (hCl : s.changes.length ≤ 4096) (hFl : s.freed.length ≤ 4096) (d' : Nat) (hd : s.depth = (d' : Int)) :
  Calls Tryz.prog 33 #[.pointer (some ⟨W, 0, none⟩), .agg #[.int .i64 s.depth, .slice a1 s.root.length c1, .slice a2 s.changes.length c2, .slice a3 s.freed.length c3]] wz fun e w' => e = .returned (.tuple #[]) ∧ SB B w0 W D U (Forks.freeT s.freed us) (Forks.putC s.changes L) d' (.slice a1 s.root.length c1) s.root X x N nv R ov O w' := by
 refine (put_any h.wa hB hr.root hr.chgs hr.free hL hu hC hF (Nat.le_trans hCl (by decide)) (Nat.le_trans hFl (by decide))).mono ?_
 rintro e w' ⟨rfl, h1, h2⟩
 rw [hd] at h1
 exact ⟨rfl, h1, h2.keepT h.wa (by decide) (by decide) (by decide) _ _ _ h.bx, own_keepT h.now (h2.keepT h.wa (by decide) (by decide) (by decide)), own_keepT h.nod (h2.keepT h.wa (by decide) (by decide) (by decide)), h.only.trans h2⟩
set_option maxRecDepth 100000 in
theorem SB.rep {v : Forks.V} {RR : EL} (h : SB B w0 W D U us L d rv root X x N nv R ov O wz) (hG : Forks.GrowOk us L d root v RR) (P : Nat) (hdk : DiskAt wz.heap.size wz (RDV P (P + 1)) ⟨L, -1⟩)
  (a b : Int) (ha : 0 ≤ a ∧ a ≤ 2048) (hb : 0 ≤ b ∧ b ≤ 2048) (xv : Value) (l : EL) (hsx : SmallsE l) (hX : ExtsAt wz xv l) (hlx : l.length ≤ 100000)
  (s : Forks.SetR) (us1 : List Bool) (hr : Forks.replaceT (Forks.askW us) ⟨L, -1⟩ d root a b l us = (.ok s, us1)) :
  Calls Tryz.prog 28 #[.agg #[.int .i64 (d : Int), rv], RDV P (P + 1), .int .i64 a, .int .i64 b, xv, .func (.func 32) #[.pointer (some ⟨W, 0, none⟩)] #[]] wz fun e w' =>
   SB B w0 W D U us1 L d rv root X x N nv R ov O w' ∧ OnlyM U wz w' ∧ ∃ a1 a2 a3 c1 c2 c3, e = .returned (.tuple #[.agg #[.int .i64 s.depth, .slice a1 s.root.length c1, .slice a2 s.changes.length c2, .slice a3 s.freed.length c3], .int .i64 0]) ∧ RepAt wz.heap.size w' (.ok s) a1 a2 a3 c1 c2 c3 := by
 have hok := (Forks.walkT_okr hG.wo.walk).1
 refine (replace_any wz ((worldFn W U wz.heap.size (lt_of_block h.wa.blk) (lt_of_block h.wa.use)).ask us (Nat.zero_le _)) (h.wa.fr hG.wo.ulen) (.inl ⟨_, _, rfl⟩) P (P + 1) ⟨L, -1⟩ d rv root (rootOk_small hok) (OwnEnts.ents h.wa.root).ext (by have := hok.2.2.1; omega) (by have := hok.1; have := hok.2.1; omega) hdk (rd_small hG.sm) a b (by omega) (by omega) xv l hsx hX hlx).mono ?_
 intro e w' h'
 rw [show Forks.replaceT (fun v R k T => Forks.askT Forks.nextW v R k T us) ⟨L, -1⟩ d root a b l us = (.ok s, us1) from hr] at h'
 obtain ⟨h1, h2, h3⟩ := rep_flat h'
 exact ⟨h.used h2 h1.2.2.1, h2, h3⟩
set_option maxRecDepth 100000 in
theorem SB.move {v : Forks.V} {RR : EL} (h : SB B w0 W D U us L d rv root X x N nv R ov O wz) (hG : Forks.GrowOk us L d root v RR) (P : Nat) (hdk : DiskAt wz.heap.size wz (RDV P (P + 1)) ⟨L, -1⟩)
  (a b c : Int) (ha : -9223372036854775808 ≤ a ∧ a ≤ 9223372036854775807) (hb : -9223372036854775808 ≤ b ∧ b ≤ 9223372036854775807) (hc : -9223372036854775808 ≤ c ∧ c ≤ 9223372036854775807) (s : Forks.SetR) (hr : Forks.moveV v d root RR a b c = .ok s) :
  Calls Tryz.prog 24 #[.agg #[.int .i64 (d : Int), rv], RDV P (P + 1), .int .i64 a, .int .i64 b, .int .i64 c] wz fun e w' =>
   SB B w0 W D U us L d rv root X x N nv R ov O w' ∧ Below wz.heap.size wz w' ∧ ∃ a1 a2 a3 c1 c2 c3, e = .returned (.tuple #[.agg #[.int .i64 s.depth, .slice a1 s.root.length c1, .slice a2 s.changes.length c2, .slice a3 s.freed.length c3], .int .i64 0]) ∧ RepAt wz.heap.size w' (.ok s) a1 a2 a3 c1 c2 c3 := by
 have hok := (Forks.walkT_okr hG.wo.walk).1
 have hm : Forks.moveT ⟨L, -1⟩ (d : Int) root a b c = .ok s := by
  unfold Forks.moveT
  rw [hG.wo.walk]
  exact hr
 have q := move_any wz P (P + 1) ⟨L, -1⟩ (d : Int) rv root (rootOk_small hok) (OwnEnts.ents h.wa.root) (by have := hok.2.2.1; omega) (by have := hok.1; have := hok.2.1; omega) hdk (rd_small hG.sm) a b c ha hb hc
 rw [hm] at q
 refine q.mono ?_
 intro e w' h'
 obtain ⟨h1, h3⟩ := set_flat h'
 exact ⟨h.below h1, h1, h3⟩
set_option maxRecDepth 100000 in
theorem SB.lead {v : Forks.V} {RR : EL} (us' : List Bool) (h : SB B w0 W D U us L d rv root X x N nv R ov O wz) (hG : Forks.GrowOk us' L d root v RR) (P : Nat) (hdk : DiskAt wz.heap.size wz (RDV P (P + 1)) ⟨L, -1⟩)
  (a b : Int) (ha : -9223372036854775808 ≤ a ∧ a ≤ 9223372036854775807) (hb : -9223372036854775808 ≤ b ∧ b ≤ 9223372036854775807) (s : Forks.SetR) (hr : Forks.leadV v d root RR a b = .ok s) :
  Calls Tryz.prog 25 #[.agg #[.int .i64 (d : Int), rv], RDV P (P + 1), .int .i64 a, .int .i64 b] wz fun e w' =>
   SB B w0 W D U us L d rv root X x N nv R ov O w' ∧ Below wz.heap.size wz w' ∧ ∃ a1 a2 a3 c1 c2 c3, e = .returned (.tuple #[.agg #[.int .i64 s.depth, .slice a1 s.root.length c1, .slice a2 s.changes.length c2, .slice a3 s.freed.length c3], .int .i64 0]) ∧ RepAt wz.heap.size w' (.ok s) a1 a2 a3 c1 c2 c3 := by
 have hok := (Forks.walkT_okr hG.wo.walk).1
 have hm : Forks.leadT ⟨L, -1⟩ (d : Int) root a b = .ok s := by
  unfold Forks.leadT
  rw [hG.wo.walk]
  exact hr
 have q := lead_any wz P (P + 1) ⟨L, -1⟩ (d : Int) rv root (rootOk_small hok) (OwnEnts.ents h.wa.root) (by have := hok.2.2.1; omega) (by have := hok.1; have := hok.2.1; omega) hdk (rd_small hG.sm) a b ha hb
 rw [hm] at q
 refine q.mono ?_
 intro e w' h'
 obtain ⟨h1, h3⟩ := set_flat h'
 exact ⟨h.below h1, h1, h3⟩
set_option maxRecDepth 100000 in
theorem SB.walk {v : Forks.V} {RR : EL} {k m : Nat} (h : SB B w0 W D U us L d rv root X x N nv R ov O wz) (hN : N ≤ wz.heap.size) (hG : Forks.GrowOk us L d root v RR) (P : Nat) (hdk : DiskAt wz.heap.size wz (RDV P (P + 1)) ⟨L, -1⟩) (hk : RR.length = k) (hm : (natI (Forks.nodes v)).length = m) :
  Calls Tryz.prog 19 #[.agg #[.int .i64 (d : Int), rv], RDV P (P + 1)] wz fun e w' => Below wz.heap.size wz w' ∧ ∃ a1 c1 a2 c2, e = .returned (.tuple #[.slice a1 k c1, .slice a2 m c2, .int .i64 0]) ∧ SB B w0 W D U us L d rv root X x N (.slice a1 k c1) RR (.slice a2 m c2) (natI (Forks.nodes v)) w' := by
 subst hk
 subst hm
 have hok := (Forks.walkT_okr hG.wo.walk).1
 refine (Walk_any P (P + 1) ⟨L, -1⟩ d rv root (rootOk_small hok) (OwnEnts.ents h.wa.root).ext (by have := hok.2.2.1; omega) (by have := hok.1; have := hok.2.1; omega) hdk (rd_small hG.sm)).mono ?_
 intro e w' h'
 rw [hG.wo.walk] at h'
 obtain ⟨h1, a1, c1, a2, c2, rfl, o1, o2⟩ := WalkTold.flat h'
 have hb := h.below h1
 exact ⟨h1, a1, c1, a2, c2, rfl, hb.wa, hb.bx, World.ownsRow.mono o1 hN, World.ownsRow.mono o2 hN, hb.only⟩
theorem SB.fresh {us1 : List Bool} {tt : Int} (h : SB B w0 W D U us L d rv root X x N nv R ov O wz) (hu : us.length = 4096) (hn : Forks.nextW us = (some tt, us1)) :
  Calls Tryz.prog 32 #[.pointer (some ⟨W, 0, none⟩)] wz fun e w' => e = .returned (.tuple #[.int .i64 tt, .int .i64 0]) ∧ SB B w0 W D U us1 L d rv root X x N nv R ov O w' := by
 refine ((worldFn W U wz.heap.size (lt_of_block h.wa.blk) (lt_of_block h.wa.use)).call us wz (h.wa.fr hu) (Nat.zero_le _)).mono ?_
 rintro e w' ⟨rfl, h1, h2, -⟩
 rw [hn] at h1 ⊢
 exact ⟨rfl, h.used h2 h1.2.2.1⟩
end
end Go.Proofs.YtgjmeeiejcbjfaaGreat
namespace Go.Proofs.YtgjmeeiejcbjfaaGreat
open Go.Lib (hid)
open Go Go.RowKit
def StepRel (x : Forks.StepV) (R : EL) (did : Int) (R' : EL) : Prop :=
 (did = 1 ∧ R.length ≠ 0 ∧ R' = R.map (Forks.gT (Forks.isM (R.getD (x.fr % R.length) (0, 0, 0)).1 (R.getD (x.fr % R.length) (0, 0, 0)).2.2) (1 + ((x.pos % 2000 : Nat) : Int)))) ∨ (did = 2 ∧ R' = R) ∨ (did = 0 ∧ R' = Forks.replT R x.lo x.hi x.row)
def StepTold (B W D U : Nat) (w : World) (x : Forks.StepV) (R : EL) (e : Ending) (w' : World) : Prop :=
 ∃ did us' L' d' rv' root' v' R' wv, e = .returned (.tuple #[wv, .int .i64 did, .bool true]) ∧ WorldAt B w' W D U us' L' ((d' : Nat) : Int) rv' root' ∧ Forks.GrowOk us' L' d' root' v' R' ∧ OwnExts w.heap.size w' wv R ∧ OnlyW W D U w w' ∧ StepRel x R did R'
theorem getD_mem {α : Type} (l : List α) (i : Nat) (z : α) (h : i < l.length) : l.getD i z ∈ l := by
 rw [show l.getD i z = l[i] by simp [List.getD, h]]
 exact List.getElem_mem h
set_option maxHeartbeats 16000000 in
set_option maxRecDepth 100000 in
theorem step_any (x : Forks.StepV) (hx : StepIn x) {B W D U : Nat} {us : List Bool} {L : List ByteArray} {d : Nat} {rv : Value} {root : EL} {v : Forks.V} {R : EL} {w : World} (h : WorldAt B w W D U us L (d : Int) rv root) (hG0 : Forks.GrowOk us L d root v R) (hB0 : B ≤ w.heap.size) :
  Calls Tryz.prog 34 #[.pointer (some ⟨W, 0, none⟩), .agg (stepC x)] w (StepTold B W D U w x R) := by
 have HX := hid hx
 have HG := hid hG0
 obtain ⟨k, hk⟩ : ∃ k, R.length = k := ⟨_, rfl⟩
 obtain ⟨mm, hmm⟩ : ∃ m, (natI (Forks.nodes v)).length = m := ⟨_, rfl⟩
 have HK := hid hk
 have HMM := hid hmm
 have hkl : k ≤ 2048 := by rw [← hk]; exact Forks.row_len (Forks.walkT_okr hG0.wo.walk).2.1
 have hml : mm ≤ 4096 := by rw [← hmm]; exact nodes_length v
 have hd4 : d ≤ 4 := hG0.d4
 have bA : Below w.heap.size w (w.alloc (.cells (stepC x) 86)) := (Below.refl _ _).alloc (Nat.le_refl _) _
 have HB : Hid (SB B w W D U us L d rv root w.heap.size x w.heap.size (.slice none 0 0) [] (.slice none 0 0) [] (w.alloc (.cells (stepC x) 86))) := hid ⟨h.below bA, heap_alloc_new w _, World.ownsRow_nil _ _ _ _, World.ownsRow_nil _ _ _ _, .of_below bA⟩
 have QW := hid (fun (wz : World) (P : Nat) (_ : True) (h : SB B w W D U us L d rv root w.heap.size x w.heap.size (.slice none 0 0) [] (.slice none 0 0) [] wz) (hdk : DiskAt wz.heap.size wz (RDV P (P + 1)) ⟨L, -1⟩) => h.walk h.size HG.out P hdk HK.out HMM.out)
 obtain ⟨ar, cr, rfl⟩ := (OwnEnts.ents h.root).ext.form
 clear h hx hG0 hk hmm bA
 unfold stepC at *
 go_enter Tryz.func34, Tryz.ntmps34
 go_upto_region 1 with fail
 generalize w.alloc _ = w1 at *
 go_cut [7, 8, 9] from 22 to 35 (fun p y z wd => ∃ (e1 : Option Addr) (f1 : Nat) (e2 : Option Addr) (f2 : Nat), p = .slice e1 k f1 ∧ y = .slice e2 mm f2 ∧ z = .int .i64 0 ∧ Hid (SB B w W D U us L d (.slice ar root.length cr) root w.heap.size x w.heap.size (.slice e1 k f1) R (.slice e2 mm f2) (natI (Forks.nodes v)) wd))
 case first =>
  have b0 : Below w1.heap.size w1 w1.drew := (Below.refl _ _).drew
  have SB0 := hid (HB.out.below b0)
  have hP0 : w1.drew.heap.size = w1.heap.size := rfl
  have zw : w.heap.size ≤ w1.heap.size := HB.out.size
  have zU : U < w1.heap.size := lt_of_block HB.out.wa.use
  have K6 : Hid (∀ w', Below w1.heap.size w1 w' → w'.cell? ⟨W, 0, none⟩ = some (.slice (some ⟨D, 0, none⟩) 4096 4096) ∧ w'.cell? ⟨W, 1, none⟩ = some (.int .i64 (d : Int)) ∧ w'.cell? ⟨W, 2, none⟩ = some (.slice ar root.length cr)) := hid (fun wz hz => by
   obtain ⟨q0, q1, q2, -⟩ := (HB.out.below hz).wa.cells
   exact ⟨q0, q1, q2⟩)
  go_region_held3 (fun w' => w'.cell? ⟨W, 0, none⟩ = some (.slice (some ⟨D, 0, none⟩) 4096 4096) ∧ w'.cell? ⟨W, 1, none⟩ = some (.int .i64 (d : Int)) ∧ w'.cell? ⟨W, 2, none⟩ = some (.slice ar root.length cr))
   (first | (refine K6.out _ ?_; assumption) | exact Z7)
   (first
    | (go_at_call 20; (with_reducible refine (reading2_any D (-1) _).mono ?_); rintro e w6 ⟨rfl, hw6⟩; have Q6 := SB0.out.readP HG.out.wo.len (-1) _ hP0 w6 hw6; have s6 := b0.trans ((read_below hw6).mono b0.size); clear hw6)
    | (go_at_call 19; (with_reducible refine (QW.out _ _ trivial Q6.1 Q6.2).mono ?_); rintro e w7 ⟨b7, e1, f1, e2, f2, rfl, Q7⟩; have s7 := s6.trans (b7.mono s6.size); have Z7 := K6.out _ s7)
    | fail "none")
  all_goals first
   | (go_meet; exact ⟨_, _, _, _, rfl, rfl, rfl, hid Q7⟩)
   | (go_step; go_meet; exact ⟨_, _, _, _, rfl, rfl, rfl, hid Q7⟩)
   | (go_step; go_step; go_meet; exact ⟨_, _, _, _, rfl, rfl, rfl, hid Q7⟩)
   | (go_step; go_step; go_step; go_meet; exact ⟨_, _, _, _, rfl, rfl, rfl, hid Q7⟩)
   | fail "no end"
 obtain ⟨e1, f1, e2, f2, rfl, rfl, rfl, hcutW⟩ := hcut
 clear HB QW
 have HB := hcutW
 clear hcutW
 rename World => w2
 have hbx : Hid (w2.heap[w.heap.size]? = some (.cells #[.int .u8 x.kind, .int .u16 x.fr, .int .u16 x.tt, .int .u8 x.many, .int .u8 x.len, .int .u8 x.gap, .int .u16 x.pos] 86 (0, 0))) := hid HB.out.bx
 have c0 := cell_of_row _ _ 0 _ _ _ hbx.out
 obtain ⟨c, hc⟩ : ∃ c : Bool, c = decide (x.kind % 4 = 1 ∧ 0 < k) := ⟨_, rfl⟩
 have HC := hid hc
 clear hc
 have u0 : IntKind.u8.wrap ((x.kind : Int) % 4) = (x.kind : Int) % 4 := IntWalk.u8_in _ (by omega)
 go_upto_region 4 with fail
 go_cut [46] from 38 to 45 (fun y wd => y = .bool c ∧ wd = w2)
 case first =>
  by_cases h1 : x.kind % 4 = 1
  ·have g1 : ((x.kind : Int) % 4 == 1) = true := by rw [beq_iff_eq]; omega
   by_cases h2 : 0 < k
   ·have g2 : decide ((0 : Int) < (k : Int)) = true := decide_eq_true (by omega)
    have g3 : decide (0 < k) = true := decide_eq_true h2
    have hc : c = true := by rw [HC.out]; exact decide_eq_true ⟨h1, h2⟩
    subst hc
    clear h1 h2
    go_wp2_with fail
    all_goals (go_meet; exact ⟨rfl, rfl⟩)
   ·have g2 : decide ((0 : Int) < (k : Int)) = false := decide_eq_false (by omega)
    have g3 : decide (0 < k) = false := decide_eq_false h2
    have hc : c = false := by rw [HC.out]; exact decide_eq_false (fun h => h2 h.2)
    subst hc
    clear h1 h2
    go_wp2_with fail
    all_goals (go_meet; exact ⟨rfl, rfl⟩)
  ·have g1 : ((x.kind : Int) % 4 == 1) = false := by rw [beq_eq_false_iff_ne]; omega
   have hc : c = false := by rw [HC.out]; exact decide_eq_false (fun h => h1 h.1)
   subst hc
   clear h1
   go_wp2_with fail
   all_goals (go_meet; exact ⟨rfl, rfl⟩)
 obtain ⟨rfl, hwd⟩ := hcut
 subst hwd
 clear c0 u0
 cases c with
 | true =>
  obtain ⟨hk1, hk2⟩ : x.kind % 4 = 1 ∧ 0 < k := of_decide_eq_true HC.out.symm
  clear HC hk1
  obtain ⟨ix, hix⟩ : ∃ ix, ix = x.fr % k := ⟨_, rfl⟩
  have hixl : ix < k := by rw [hix]; exact Nat.mod_lt _ hk2
  have e5 : (x.fr : Int) % (k : Int) = (ix : Int) := by rw [hix]; rfl
  have HIX := hid hix
  have e6 : x.fr % k = ix := hix.symm
  clear hix
  obtain ⟨y, hy⟩ : ∃ y, y = R.getD ix (0, 0, 0) := ⟨_, rfl⟩
  obtain ⟨-, g, off, hge, d0, d1, d2⟩ := HB.out.now.at.cells ix (by rw [HK.out]; exact hixl)
  rw [← hy] at d0 d1 d2
  have hyR : y ∈ R := by rw [hy]; exact getD_mem R ix _ (by rw [HK.out]; exact hixl)
  have HY := hid hy
  have hyg := HG.out.gr y hyR
  have hym := (Forks.walkT_okr HG.out.wo.walk).2.1.may y hyR
  unfold Forks.GR Exts.fin at hyg
  unfold Exts.may at hym
  obtain ⟨s1, v1, hM⟩ := Forks.grow_move (tt := 1 + ((x.pos % 2000 : Nat) : Int)) HG.out hyR (by omega) (by omega)
  have HM := hid hM
  have c1 := cell_of_row _ _ 1 _ _ _ hbx.out
  have hfrl := HX.out.fr
  have hposl := HX.out.pos
  have u1 : IntKind.i64.wrap (x.fr : Int) = (x.fr : Int) := IntWalk.i64_in _ (by omega)
  have u2 : IntKind.i64.wrap (ix : Int) = (ix : Int) := IntWalk.i64_in _ (by omega)
  have i0 : (0 : Int) ≤ (ix : Int) := by omega
  have i1 : (ix : Int) < (k : Int) := by omega
  have hk0 : ((k : Int) == 0) = false := by rw [beq_eq_false_iff_ne]; omega
  clear hM hy hyR
  cases hge
  go_upto_region 6 with fail
  have hYB := heap_alloc_new wc (.cells #[.int .i64 y.1, .int .i64 y.2.1, .int .i64 y.2.2] 53)
  have HB5 := hid (HB.out.below ((Below.refl wc.heap.size wc).alloc (Nat.le_refl _) (.cells #[.int .i64 y.1, .int .i64 y.2.1, .int .i64 y.2.2] 53)))
  clear HB hbx d0 d1 d2 c1 hk0 u1 u2 e5 e6
  generalize wc.alloc _ = w5 at *
  generalize wc.heap.size = Yb at *
  have YB := hid hYB
  clear hYB
  have HB := HB5
  clear HB5
  have u3 : IntKind.i64.wrap (x.pos : Int) = (x.pos : Int) := IntWalk.i64_in _ (by omega)
  obtain ⟨p2, hp2⟩ : ∃ p2, p2 = x.pos % 2000 := ⟨_, rfl⟩
  rw [← hp2] at HM
  have e7 : (x.pos : Int) % 2000 = (p2 : Int) := by omega
  have e8 : Int.tmod (x.pos : Int) 2000 = (p2 : Int) := by rw [hp2]; rfl
  have u4 : IntKind.i64.wrap (p2 : Int) = (p2 : Int) := IntWalk.i64_in _ (by omega)
  have u5 : IntKind.i64.wrap (1 + (p2 : Int)) = 1 + (p2 : Int) := IntWalk.i64_in _ (by omega)
  have HP2 := hid hp2
  clear hp2
  have QM_s1 := hid (fun (wz : World) (P : Nat) (_ : Below Yb w5 wz ∨ True) (h : SB B w W D U us L d (.slice ar root.length cr) root w.heap.size x w.heap.size (.slice (some ⟨g, off, none⟩) k f1) R (.slice e2 mm f2) (natI (Forks.nodes v)) wz) (hdk : DiskAt wz.heap.size wz (RDV P (P + 1)) ⟨L, -1⟩) => h.move HG.out P hdk y.1 y.2.2 (1 + (p2 : Int)) (by omega) (by omega) (by omega) s1 HM.out.eq)
  go_cut [11, 12] from 56 to 77 (fun y z wd => ∃ (Z : Nat) (a1 a2 a3 : Option Addr) (c1 c2 c3 : Nat), y = .pointer (some ⟨Z, 0, none⟩) ∧ z = .int .i64 0 ∧ Hid (SB B w W D U us L d (.slice ar root.length cr) root w.heap.size x w.heap.size (.slice (some ⟨g, off, none⟩) k f1) R (.slice e2 mm f2) (natI (Forks.nodes v)) wd ∧ wd.heap[Z]? = some (.cells #[.int .i64 s1.depth, .slice a1 s1.root.length c1, .slice a2 s1.changes.length c2, .slice a3 s1.freed.length c3] 58 (0, 0)) ∧ RepAt B wd (.ok s1) a1 a2 a3 c1 c2 c3))
  case first =>
   have b0 : Below w5.heap.size w5 w5.drew := (Below.refl _ _).drew
   have SB0 := hid (HB.out.below b0)
   have hP0 : w5.drew.heap.size = w5.heap.size := rfl
   have zw : w.heap.size ≤ w5.heap.size := HB.out.size
   have zU : U < w5.heap.size := lt_of_block HB.out.wa.use
   have bA : Below w5.heap.size w5 (w5.alloc (.cells #[.int .i64 0, .slice none 0 0, .slice none 0 0, .slice none 0 0] 58)).drew := ((Below.refl _ _).alloc (Nat.le_refl _) _).drew
   have SBA := hid (HB.out.below bA)
   have NA : Hid ((w5.alloc (.cells #[.int .i64 0, .slice none 0 0, .slice none 0 0, .slice none 0 0] 58)).drew.heap[w5.heap.size]? = some (.cells #[.int .i64 0, .slice none 0 0, .slice none 0 0, .slice none 0 0] 58)) := hid (heap_alloc_new w5 (.cells #[.int .i64 0, .slice none 0 0, .slice none 0 0, .slice none 0 0] 58))
   have hPA : (w5.alloc (.cells #[.int .i64 0, .slice none 0 0, .slice none 0 0, .slice none 0 0] 58)).drew.heap.size = w5.heap.size + 1 := by simp
   have K6 : Hid (∀ w', Below w5.heap.size w5 w' → w'.cell? ⟨W, 0, none⟩ = some (.slice (some ⟨D, 0, none⟩) 4096 4096) ∧ w'.cell? ⟨W, 1, none⟩ = some (.int .i64 (d : Int)) ∧ w'.cell? ⟨W, 2, none⟩ = some (.slice ar root.length cr) ∧ w'.cell? ⟨Yb, 0, none⟩ = some (.int .i64 y.1) ∧ w'.cell? ⟨Yb, 2, none⟩ = some (.int .i64 y.2.2) ∧ w'.cell? ⟨w.heap.size, 6, none⟩ = some (.int .u16 x.pos)) := hid (fun wz hz => by
    obtain ⟨q0, q1, q2, -⟩ := (HB.out.below hz).wa.cells
    have hy := (hz.block _ (lt_of_block YB.out)).trans YB.out
    have hb := (HB.out.below hz).bx
    unfold stepC at hb
    have x0 := cell_of_row _ _ 0 _ _ _ hy
    have x1 := cell_of_row _ _ 2 _ _ _ hy
    have x2 := cell_of_row _ _ 6 _ _ _ hb
    exact ⟨q0, q1, q2, x0, x1, x2⟩)
   go_region_held3 (fun w' => w'.cell? ⟨W, 0, none⟩ = some (.slice (some ⟨D, 0, none⟩) 4096 4096) ∧ w'.cell? ⟨W, 1, none⟩ = some (.int .i64 (d : Int)) ∧ w'.cell? ⟨W, 2, none⟩ = some (.slice ar root.length cr) ∧ w'.cell? ⟨Yb, 0, none⟩ = some (.int .i64 y.1) ∧ w'.cell? ⟨Yb, 2, none⟩ = some (.int .i64 y.2.2) ∧ w'.cell? ⟨w.heap.size, 6, none⟩ = some (.int .u16 x.pos))
    (first | (refine K6.out _ ?_; assumption) | (with_reducible exact Z7) | exact Z7)
    (first
     | (go_at_call 20; (with_reducible refine (reading2_any D (-1) _).mono ?_); rintro e w6 ⟨rfl, hw6⟩; have Q6 := SBA.out.readP HG.out.wo.len (-1) _ hPA w6 hw6; have N6 := read_keep hw6 NA.out; have s6 := bA.trans ((read_below hw6).mono bA.size); clear hw6)
     | (go_at_call 20; (with_reducible refine (reading2_any D (-1) _).mono ?_); rintro e w6 ⟨rfl, hw6⟩; have Q6 := SB0.out.readP HG.out.wo.len (-1) _ hP0 w6 hw6; have s6 := b0.trans ((read_below hw6).mono b0.size); have bA6 := (Below.refl w6.heap.size w6).alloc (Nat.le_refl _) (.cells #[.int .i64 0, .slice none 0 0, .slice none 0 0, .slice none 0 0] 58); have A6 := Q6.1.below bA6; have D6 := Q6.2.below bA6; have s6A := s6.trans (bA6.mono s6.size); have M6 := heap_alloc_new w6 (.cells #[.int .i64 0, .slice none 0 0, .slice none 0 0, .slice none 0 0] 58); clear hw6)
     | (go_at_call 24; (with_reducible refine (QM_s1.out _ _ (.inr trivial) Q6.1 Q6.2).mono ?_); rintro e w7 ⟨Q7, o7, a1, a2, a3, c1, c2, c3, rfl, p7⟩; have N7 := (o7.block _ (lt_of_block N6)).trans N6; obtain ⟨k0, k1, k2, k3, g0, g1, g2, g3⟩ := set_cells N7; have X7 := sb_put Q7 N7 zw p7 (Nat.le_trans hB0 Q6.1.size) _ rfl; have s7 := s6.trans (o7.mono s6.size); have Z7 := K6.out _ (s7.trans (put4_below w7 (.int .i64 s1.depth) (.slice a1 s1.root.length c1) (.slice a2 s1.changes.length c2) (.slice a3 s1.freed.length c3) (Nat.le_refl _))); unfold put4 at X7 Z7)
     | (go_at_call 24; (with_reducible refine (QM_s1.out _ _ (.inr trivial) A6 (D6.mono (by simp))).mono ?_); rintro e w7 ⟨Q7, o7, a1, a2, a3, c1, c2, c3, rfl, p7⟩; have N7 := (o7.block _ (lt_of_block M6)).trans M6; obtain ⟨k0, k1, k2, k3, g0, g1, g2, g3⟩ := set_cells N7; have X7 := sb_put Q7 N7 Q6.1.size p7 (Nat.le_trans hB0 A6.size) _ rfl; have s7 := s6A.trans (o7.mono s6A.size); have Z7 := K6.out _ (s7.trans (put4_below w7 (.int .i64 s1.depth) (.slice a1 s1.root.length c1) (.slice a2 s1.changes.length c2) (.slice a3 s1.freed.length c3) s6.size)); unfold put4 at X7 Z7)
     | (go_at_call 24; (with_reducible refine (QM_s1.out _ _ (.inr trivial) Q6.1 Q6.2).mono ?_); rintro e w7 ⟨Q7, o7, a1, a2, a3, c1, c2, c3, rfl, p7⟩; have N7 := heap_alloc_new w7 (.cells #[.int .i64 0, .slice none 0 0, .slice none 0 0, .slice none 0 0] 58); have z7 := o7.size; obtain ⟨k0, k1, k2, k3, g0, g1, g2, g3⟩ := set_cells N7; have s7 := s6.trans (o7.mono s6.size); have s7A := s7.alloc s7.size (.cells #[.int .i64 0, .slice none 0 0, .slice none 0 0, .slice none 0 0] 58); have X7 := sb_new Q7 p7 (Nat.le_trans hB0 Q6.1.size) _ rfl; have Z7 := K6.out _ (s7.alloc s7.size (.cells #[.int .i64 s1.depth, .slice a1 s1.root.length c1, .slice a2 s1.changes.length c2, .slice a3 s1.freed.length c3] 58)))
     | fail "none")
   all_goals first
    | (go_meet; exact ⟨_, _, _, _, _, _, _, rfl, rfl, hid X7⟩)
    | (go_step; go_meet; exact ⟨_, _, _, _, _, _, _, rfl, rfl, hid X7⟩)
    | (go_step; go_step; go_meet; exact ⟨_, _, _, _, _, _, _, rfl, rfl, hid X7⟩)
    | (go_step; go_step; go_step; go_meet; exact ⟨_, _, _, _, _, _, _, rfl, rfl, hid X7⟩)
    | fail "no end"
  obtain ⟨Z, ra, a2, a3, rc, c2, c3, rfl, rfl, hcut1⟩ := hcut
  clear HB QM_s1 YB u3 u4 u5 e7 e8
  have hF0 : s1.freed.length = 0 := by rw [HM.out.frd]; rfl
  have hC1 := HM.out.chg
  obtain ⟨k0, k1, k2, k3, -⟩ := set_cells hcut1.out.2.1
  have qp := hid (hcut1.out.1.put (Nat.le_trans hB0 hcut1.out.1.size) hcut1.out.2.2 HG.out.wo.len HG.out.wo.ulen HM.out.blk (by rw [HM.out.frd]; intro z hz; cases hz) (by omega) (by omega) d HM.out.dep)
  rw [hF0] at k3 qp
  have g1 : decide ((1 : Int) < (s1.changes.length : Int)) = false := decide_eq_false (by omega)
  have g2 : decide (1 < s1.changes.length) = false := decide_eq_false (by omega)
  clear hcut1 hF0 hC1
  rename World => w7
  go_wp2_with fail
  refine qp.out.mono ?_
  rintro e w9 ⟨rfl, hB9⟩
  have HB9 := hid hB9
  clear hB9 qp k0 k1 k2 k3 g1 g2
  go_wp2_with fail
  refine bodyPost_ret (v := .tuple #[.slice (some ⟨g, off, none⟩) k f1, .int .i64 1, .bool true]) (by simp [results, Tryz.results34, go_sem]) rfl ?_
  have hfu : Forks.freeT s1.freed us = us := by rw [HM.out.frd]; rfl
  have hok := HM.out.ok
  rw [← hfu] at hok
  refine ⟨1, _, _, d, _, _, v1, _, _, rfl, HB9.out.wa, hok, HB9.out.now, HB9.out.only, .inl ⟨rfl, by rw [HK.out]; omega, ?_⟩⟩
  rw [HK.out, ← HIX.out, ← HY.out, ← HP2.out]
 | false =>
  clear HC
  have c0 := cell_of_row _ _ 0 _ _ _ hbx.out
  obtain ⟨c, hc⟩ : ∃ c : Bool, c = decide (x.kind % 4 = 3 ∧ 0 < mm) := ⟨_, rfl⟩
  have HC := hid hc
  clear hc
  have u0 : IntKind.u8.wrap ((x.kind : Int) % 4) = (x.kind : Int) % 4 := IntWalk.u8_in _ (by omega)
  go_upto_region 11 with fail
  go_cut [104] from 96 to 103 (fun y wd => y = .bool c ∧ wd = wc)
  case first =>
   by_cases h1 : x.kind % 4 = 3
   ·have g1 : ((x.kind : Int) % 4 == 3) = true := by rw [beq_iff_eq]; omega
    by_cases h2 : 0 < mm
    ·have g2 : decide ((0 : Int) < (mm : Int)) = true := decide_eq_true (by omega)
     have g3 : decide (0 < mm) = true := decide_eq_true h2
     have hc : c = true := by rw [HC.out]; exact decide_eq_true ⟨h1, h2⟩
     subst hc
     clear h1 h2
     go_wp2_with fail
     all_goals (go_meet; exact ⟨rfl, rfl⟩)
    ·have g2 : decide ((0 : Int) < (mm : Int)) = false := decide_eq_false (by omega)
     have g3 : decide (0 < mm) = false := decide_eq_false h2
     have hc : c = false := by rw [HC.out]; exact decide_eq_false (fun h => h2 h.2)
     subst hc
     clear h1 h2
     go_wp2_with fail
     all_goals (go_meet; exact ⟨rfl, rfl⟩)
   ·have g1 : ((x.kind : Int) % 4 == 3) = false := by rw [beq_eq_false_iff_ne]; omega
    have hc : c = false := by rw [HC.out]; exact decide_eq_false (fun h => h1 h.1)
    subst hc
    clear h1
    go_wp2_with fail
    all_goals (go_meet; exact ⟨rfl, rfl⟩)
  obtain ⟨rfl, hwd⟩ := hcut
  subst hwd
  clear c0 u0
  cases c with
  | true =>
   obtain ⟨hk1, hk2⟩ : x.kind % 4 = 3 ∧ 0 < mm := of_decide_eq_true HC.out.symm
   clear HC hk1
   obtain ⟨ix, hix⟩ : ∃ ix, ix = x.fr % mm := ⟨_, rfl⟩
   have hixl : ix < mm := by rw [hix]; exact Nat.mod_lt _ hk2
   have e5 : (x.fr : Int) % (mm : Int) = (ix : Int) := by rw [hix]; rfl
   have e6 : x.fr % mm = ix := hix.symm
   have e7 : Int.tmod (x.fr : Int) (mm : Int) = (ix : Int) := by rw [hix]; rfl
   obtain ⟨g, off, hge, d0⟩ := (OwnInts.at HB.out.nod).cells ix (by rw [HMM.out]; exact hixl)
   have hfm := getD_mem (natI (Forks.nodes v)) ix 0 (by rw [HMM.out]; exact hixl)
   obtain ⟨fr0, hfr⟩ : ∃ fr0, (natI (Forks.nodes v)).getD ix 0 = fr0 := ⟨_, rfl⟩
   rw [hfr] at d0 hfm
   have HFR := hid hfr
   clear hfr
   obtain ⟨tt, us1, s2, v2, hL⟩ := Forks.grow_lead HG.out hfm
   have HL := hid hL
   have hfr0 := hL.fr
   have htt : 0 ≤ tt ∧ tt < 4096 := by
    have h1 := hL.nx
    unfold Forks.nextW at h1
    split at h1
    ·cases h1
    ·rename_i b hb
     have h2 := Forks.nextB_some hb
     injection h1 with h1 _
     injection h1 with h1
     omega
   have hfrl := HX.out.fr
   have u1 : IntKind.i64.wrap (x.fr : Int) = (x.fr : Int) := IntWalk.i64_in _ (by omega)
   have u2 : IntKind.i64.wrap (ix : Int) = (ix : Int) := IntWalk.i64_in _ (by omega)
   have i0 : (0 : Int) ≤ (ix : Int) := by omega
   have i1 : (ix : Int) < (mm : Int) := by omega
   have hk0 : ((mm : Int) == 0) = false := by rw [beq_eq_false_iff_ne]; omega
   have hk3 : ¬ mm = 0 := by omega
   have hk4 : (mm == 0) = false := by rw [beq_eq_false_iff_ne]; omega
   cases hge
   have qf := hid (HB.out.fresh HG.out.wo.ulen HL.out.nx)
   have D0 : Hid (∀ wz, SB B w W D U us1 L d (.slice ar root.length cr) root w.heap.size x w.heap.size (.slice e1 k f1) R (.slice (some ⟨g, off, none⟩) mm f2) (natI (Forks.nodes v)) wz → wz.cell? ⟨g, off + ix, none⟩ = some (.int .i64 fr0)) := hid (fun wz hz => by
    obtain ⟨g', off', he, hc⟩ := (OwnInts.at hz.nod).cells ix (by rw [HMM.out]; exact hixl)
    cases he
    rw [HFR.out] at hc
    exact hc)
   clear hL hix hfm HB hbx d0
   go_wp2_with fail
   refine qf.out.mono ?_
   rintro e w5 ⟨rfl, hB5⟩
   have HB := hid hB5
   clear hB5 qf
   have QM_s2 := hid (fun (wz : World) (P : Nat) (_ : True) (h : SB B w W D U us1 L d (.slice ar root.length cr) root w.heap.size x w.heap.size (.slice e1 k f1) R (.slice (some ⟨g, off, none⟩) mm f2) (natI (Forks.nodes v)) wz) (hdk : DiskAt wz.heap.size wz (RDV P (P + 1)) ⟨L, -1⟩) => h.lead us HG.out P hdk fr0 tt (by omega) (by omega) s2 HL.out.eq)
   go_upto_region 13 with fail
   go_cut [15, 16] from 110 to 132 (fun y z wd => ∃ (Z : Nat) (a1 a2 a3 : Option Addr) (c1 c2 c3 : Nat), y = .pointer (some ⟨Z, 0, none⟩) ∧ z = .int .i64 0 ∧ Hid (SB B w W D U us1 L d (.slice ar root.length cr) root w.heap.size x w.heap.size (.slice e1 k f1) R (.slice (some ⟨g, off, none⟩) mm f2) (natI (Forks.nodes v)) wd ∧ wd.heap[Z]? = some (.cells #[.int .i64 s2.depth, .slice a1 s2.root.length c1, .slice a2 s2.changes.length c2, .slice a3 s2.freed.length c3] 58 (0, 0)) ∧ RepAt B wd (.ok s2) a1 a2 a3 c1 c2 c3))
   case first =>
    have b0 : Below w5.heap.size w5 w5.drew := (Below.refl _ _).drew
    have SB0 := hid (HB.out.below b0)
    have hP0 : w5.drew.heap.size = w5.heap.size := rfl
    have zw : w.heap.size ≤ w5.heap.size := HB.out.size
    have zU : U < w5.heap.size := lt_of_block HB.out.wa.use
    have bA : Below w5.heap.size w5 (w5.alloc (.cells #[.int .i64 0, .slice none 0 0, .slice none 0 0, .slice none 0 0] 58)).drew := ((Below.refl _ _).alloc (Nat.le_refl _) _).drew
    have SBA := hid (HB.out.below bA)
    have NA : Hid ((w5.alloc (.cells #[.int .i64 0, .slice none 0 0, .slice none 0 0, .slice none 0 0] 58)).drew.heap[w5.heap.size]? = some (.cells #[.int .i64 0, .slice none 0 0, .slice none 0 0, .slice none 0 0] 58)) := hid (heap_alloc_new w5 (.cells #[.int .i64 0, .slice none 0 0, .slice none 0 0, .slice none 0 0] 58))
    have hPA : (w5.alloc (.cells #[.int .i64 0, .slice none 0 0, .slice none 0 0, .slice none 0 0] 58)).drew.heap.size = w5.heap.size + 1 := by simp
    have K6 : Hid (∀ w', Below w5.heap.size w5 w' → w'.cell? ⟨W, 0, none⟩ = some (.slice (some ⟨D, 0, none⟩) 4096 4096) ∧ w'.cell? ⟨W, 1, none⟩ = some (.int .i64 (d : Int)) ∧ w'.cell? ⟨W, 2, none⟩ = some (.slice ar root.length cr) ∧ w'.cell? ⟨w.heap.size, 1, none⟩ = some (.int .u16 x.fr) ∧ w'.cell? ⟨g, off + ix, none⟩ = some (.int .i64 fr0)) := hid (fun wz hz => by
     obtain ⟨q0, q1, q2, -⟩ := (HB.out.below hz).wa.cells
     have hb := (HB.out.below hz).bx
     unfold stepC at hb
     have x0 := cell_of_row _ _ 1 _ _ _ hb
     have x1 := D0.out _ (HB.out.below hz)
     exact ⟨q0, q1, q2, x0, x1⟩)
    go_region_held3 (fun w' => w'.cell? ⟨W, 0, none⟩ = some (.slice (some ⟨D, 0, none⟩) 4096 4096) ∧ w'.cell? ⟨W, 1, none⟩ = some (.int .i64 (d : Int)) ∧ w'.cell? ⟨W, 2, none⟩ = some (.slice ar root.length cr) ∧ w'.cell? ⟨w.heap.size, 1, none⟩ = some (.int .u16 x.fr) ∧ w'.cell? ⟨g, off + ix, none⟩ = some (.int .i64 fr0))
     (first | (refine K6.out _ ?_; assumption) | (with_reducible exact Z7) | exact Z7)
     (first
      | (go_at_call 20; (with_reducible refine (reading2_any D (-1) _).mono ?_); rintro e w6 ⟨rfl, hw6⟩; have Q6 := SBA.out.readP HG.out.wo.len (-1) _ hPA w6 hw6; have N6 := read_keep hw6 NA.out; have s6 := bA.trans ((read_below hw6).mono bA.size); clear hw6)
      | (go_at_call 20; (with_reducible refine (reading2_any D (-1) _).mono ?_); rintro e w6 ⟨rfl, hw6⟩; have Q6 := SB0.out.readP HG.out.wo.len (-1) _ hP0 w6 hw6; have s6 := b0.trans ((read_below hw6).mono b0.size); have bA6 := (Below.refl w6.heap.size w6).alloc (Nat.le_refl _) (.cells #[.int .i64 0, .slice none 0 0, .slice none 0 0, .slice none 0 0] 58); have A6 := Q6.1.below bA6; have D6 := Q6.2.below bA6; have s6A := s6.trans (bA6.mono s6.size); have M6 := heap_alloc_new w6 (.cells #[.int .i64 0, .slice none 0 0, .slice none 0 0, .slice none 0 0] 58); clear hw6)
      | (go_at_call 25; (with_reducible refine (QM_s2.out _ _ trivial Q6.1 Q6.2).mono ?_); rintro e w7 ⟨Q7, o7, a1, a2, a3, c1, c2, c3, rfl, p7⟩; have N7 := (o7.block _ (lt_of_block N6)).trans N6; obtain ⟨k0, k1, k2, k3, g0, g1, g2, g3⟩ := set_cells N7; have X7 := sb_put Q7 N7 zw p7 (Nat.le_trans hB0 Q6.1.size) _ rfl; have s7 := s6.trans (o7.mono s6.size); have Z7 := K6.out _ (s7.trans (put4_below w7 (.int .i64 s2.depth) (.slice a1 s2.root.length c1) (.slice a2 s2.changes.length c2) (.slice a3 s2.freed.length c3) (Nat.le_refl _))); unfold put4 at X7 Z7)
      | (go_at_call 25; (with_reducible refine (QM_s2.out _ _ trivial A6 (D6.mono (by simp))).mono ?_); rintro e w7 ⟨Q7, o7, a1, a2, a3, c1, c2, c3, rfl, p7⟩; have N7 := (o7.block _ (lt_of_block M6)).trans M6; obtain ⟨k0, k1, k2, k3, g0, g1, g2, g3⟩ := set_cells N7; have X7 := sb_put Q7 N7 Q6.1.size p7 (Nat.le_trans hB0 A6.size) _ rfl; have s7 := s6A.trans (o7.mono s6A.size); have Z7 := K6.out _ (s7.trans (put4_below w7 (.int .i64 s2.depth) (.slice a1 s2.root.length c1) (.slice a2 s2.changes.length c2) (.slice a3 s2.freed.length c3) s6.size)); unfold put4 at X7 Z7)
      | (go_at_call 25; (with_reducible refine (QM_s2.out _ _ trivial Q6.1 Q6.2).mono ?_); rintro e w7 ⟨Q7, o7, a1, a2, a3, c1, c2, c3, rfl, p7⟩; have N7 := heap_alloc_new w7 (.cells #[.int .i64 0, .slice none 0 0, .slice none 0 0, .slice none 0 0] 58); have z7 := o7.size; obtain ⟨k0, k1, k2, k3, g0, g1, g2, g3⟩ := set_cells N7; have s7 := s6.trans (o7.mono s6.size); have s7A := s7.alloc s7.size (.cells #[.int .i64 0, .slice none 0 0, .slice none 0 0, .slice none 0 0] 58); have X7 := sb_new Q7 p7 (Nat.le_trans hB0 Q6.1.size) _ rfl; have Z7 := K6.out _ (s7.alloc s7.size (.cells #[.int .i64 s2.depth, .slice a1 s2.root.length c1, .slice a2 s2.changes.length c2, .slice a3 s2.freed.length c3] 58)))
      | fail "none")
    all_goals first
     | (go_meet; exact ⟨_, _, _, _, _, _, _, rfl, rfl, hid X7⟩)
     | (go_step; go_meet; exact ⟨_, _, _, _, _, _, _, rfl, rfl, hid X7⟩)
     | (go_step; go_step; go_meet; exact ⟨_, _, _, _, _, _, _, rfl, rfl, hid X7⟩)
     | (go_step; go_step; go_step; go_meet; exact ⟨_, _, _, _, _, _, _, rfl, rfl, hid X7⟩)
     | fail "no end"
   obtain ⟨Z, ra, a2, a3, rc, c2, c3, rfl, rfl, hcut1⟩ := hcut
   clear HB QM_s2 D0 u1 u2 e5 e6 e7 hk0 hk3 hk4 i0 i1
   have hF0 : s2.freed.length = 1 := by rw [HL.out.frd]; rfl
   have hC1 := HL.out.chg
   obtain ⟨k0, k1, k2, k3, -⟩ := set_cells hcut1.out.2.1
   have qp := hid (hcut1.out.1.put (Nat.le_trans hB0 hcut1.out.1.size) hcut1.out.2.2 HG.out.wo.len HL.out.len1 HL.out.blk (by rw [HL.out.frd]; intro z hz; rw [List.mem_singleton.1 hz]; exact hfr0) (by omega) (by omega) d HL.out.dep)
   rw [hF0] at k3 qp
   have g1 : decide ((2 : Int) < (s2.changes.length : Int)) = false := decide_eq_false (by omega)
   have g2 : decide (2 < s2.changes.length) = false := decide_eq_false (by omega)
   clear hcut1 hF0 hC1
   rename World => w7
   go_wp2_with fail
   refine qp.out.mono ?_
   rintro e w9 ⟨rfl, hB9⟩
   have HB9 := hid hB9
   clear hB9 qp k0 k1 k2 k3 g1 g2
   go_wp2_with fail
   refine bodyPost_ret (v := .tuple #[.slice e1 k f1, .int .i64 2, .bool true]) (by simp [results, Tryz.results34, go_sem]) rfl ?_
   exact ⟨2, _, _, d, _, _, v2, _, _, rfl, HB9.out.wa, HL.out.ok, HB9.out.now, HB9.out.only, .inr (.inl ⟨rfl, rfl⟩)⟩
  | false =>
   clear HC
   have q0 := row_any x HX.out wc
   unfold stepC at q0
   have QR := hid q0
   obtain ⟨o1, o2, o3, o4, o5, o6, o7⟩ := x.ok
   have HRW := hid o3
   obtain ⟨s3, us3, D3, v3, hR3, hG3, hF3⟩ := Forks.grow_replace HG.out o7 o6 o4
   have HR3 := hid hR3
   have HG3 := hid hG3
   have hrl : x.row.length ≤ 29 := o4
   have hlo : (x.lo : Int) ≤ 299 := by omega
   have hhi : (x.hi : Int) ≤ 299 := by omega
   have c0 := cell_of_row _ _ 0 _ _ _ hbx.out
   have c1 := cell_of_row _ _ 1 _ _ _ hbx.out
   have c2 := cell_of_row _ _ 2 _ _ _ hbx.out
   have c3 := cell_of_row _ _ 3 _ _ _ hbx.out
   have c4 := cell_of_row _ _ 4 _ _ _ hbx.out
   have c5 := cell_of_row _ _ 5 _ _ _ hbx.out
   have c6 := cell_of_row _ _ 6 _ _ _ hbx.out
   clear q0 o1 o2 o3 o4 o5 o6 o7 hR3 hG3
   go_wp2_with fail
   refine QR.out.mono ?_
   rintro e w5 ⟨vx, rfl, ox, b5⟩
   obtain ⟨ax, cx, rfl⟩ := OwnExts.slice ox
   have HOX := hid ox
   have HB5 := hid (HB.out.below b5)
   clear HB QR ox b5 hbx c0 c1 c2 c3 c4 c5 c6
   have HB := HB5
   clear HB5
   have QM_s3 := hid (fun (wz : World) (P : Nat) (hz : Below w5.heap.size w5 wz) (h : SB B w W D U us L d (.slice ar root.length cr) root w.heap.size x w.heap.size (.slice e1 k f1) R (.slice e2 mm f2) (natI (Forks.nodes v)) wz) (hdk : DiskAt wz.heap.size wz (RDV P (P + 1)) ⟨L, -1⟩) => h.rep HG.out P hdk x.lo x.hi (by omega) (by omega) (.slice ax x.row.length cx) x.row (SmallsE.row HRW.out) (HOX.out.at.below (B := 0) hz) (by omega) s3 us3 HR3.out.eq)
   go_upto_region 19 with fail
   go_cut [20, 21] from 157 to 174 (fun y z wd => ∃ (Z : Nat) (a1 a2 a3 : Option Addr) (c1 c2 c3 : Nat), y = .pointer (some ⟨Z, 0, none⟩) ∧ z = .int .i64 0 ∧ Hid (SB B w W D U us3 L d (.slice ar root.length cr) root w.heap.size x w.heap.size (.slice e1 k f1) R (.slice e2 mm f2) (natI (Forks.nodes v)) wd ∧ wd.heap[Z]? = some (.cells #[.int .i64 s3.depth, .slice a1 s3.root.length c1, .slice a2 s3.changes.length c2, .slice a3 s3.freed.length c3] 58 (0, 0)) ∧ RepAt B wd (.ok s3) a1 a2 a3 c1 c2 c3))
   case first =>
    have b0 : Below w5.heap.size w5 w5.drew := (Below.refl _ _).drew
    have SB0 := hid (HB.out.below b0)
    have hP0 : w5.drew.heap.size = w5.heap.size := rfl
    have zw : w.heap.size ≤ w5.heap.size := HB.out.size
    have zU : U < w5.heap.size := lt_of_block HB.out.wa.use
    have bA : Below w5.heap.size w5 (w5.alloc (.cells #[.int .i64 0, .slice none 0 0, .slice none 0 0, .slice none 0 0] 58)).drew := ((Below.refl _ _).alloc (Nat.le_refl _) _).drew
    have SBA := hid (HB.out.below bA)
    have NA : Hid ((w5.alloc (.cells #[.int .i64 0, .slice none 0 0, .slice none 0 0, .slice none 0 0] 58)).drew.heap[w5.heap.size]? = some (.cells #[.int .i64 0, .slice none 0 0, .slice none 0 0, .slice none 0 0] 58)) := hid (heap_alloc_new w5 (.cells #[.int .i64 0, .slice none 0 0, .slice none 0 0, .slice none 0 0] 58))
    have hPA : (w5.alloc (.cells #[.int .i64 0, .slice none 0 0, .slice none 0 0, .slice none 0 0] 58)).drew.heap.size = w5.heap.size + 1 := by simp
    have K6 : Hid (∀ w', Below w5.heap.size w5 w' → w'.cell? ⟨W, 0, none⟩ = some (.slice (some ⟨D, 0, none⟩) 4096 4096) ∧ w'.cell? ⟨W, 1, none⟩ = some (.int .i64 (d : Int)) ∧ w'.cell? ⟨W, 2, none⟩ = some (.slice ar root.length cr)) := hid (fun wz hz => by
     obtain ⟨q0, q1, q2, -⟩ := (HB.out.below hz).wa.cells
     exact ⟨q0, q1, q2⟩)
    have K7 : Hid (∀ w', SB B w W D U us3 L d (.slice ar root.length cr) root w.heap.size x w.heap.size (.slice e1 k f1) R (.slice e2 mm f2) (natI (Forks.nodes v)) w' → w'.cell? ⟨W, 0, none⟩ = some (.slice (some ⟨D, 0, none⟩) 4096 4096) ∧ w'.cell? ⟨W, 1, none⟩ = some (.int .i64 (d : Int)) ∧ w'.cell? ⟨W, 2, none⟩ = some (.slice ar root.length cr)) := hid (fun wz hz => by
     obtain ⟨q0, q1, q2, -⟩ := hz.wa.cells
     exact ⟨q0, q1, q2⟩)
    go_region_held3 (fun w' => w'.cell? ⟨W, 0, none⟩ = some (.slice (some ⟨D, 0, none⟩) 4096 4096) ∧ w'.cell? ⟨W, 1, none⟩ = some (.int .i64 (d : Int)) ∧ w'.cell? ⟨W, 2, none⟩ = some (.slice ar root.length cr))
     (first | (refine K6.out _ ?_; assumption) | (with_reducible exact Y7) | (with_reducible exact Y8) | (with_reducible exact Z7) | exact Z7)
     (first
      | (go_at_call 20; (with_reducible refine (reading2_any D (-1) _).mono ?_); rintro e w6 ⟨rfl, hw6⟩; have Q6 := SBA.out.readP HG.out.wo.len (-1) _ hPA w6 hw6; have N6 := read_keep hw6 NA.out; have s6 := bA.trans ((read_below hw6).mono bA.size); clear hw6)
      | (go_at_call 20; (with_reducible refine (reading2_any D (-1) _).mono ?_); rintro e w6 ⟨rfl, hw6⟩; have Q6 := SB0.out.readP HG.out.wo.len (-1) _ hP0 w6 hw6; have s6 := b0.trans ((read_below hw6).mono b0.size); have bA6 := (Below.refl w6.heap.size w6).alloc (Nat.le_refl _) (.cells #[.int .i64 0, .slice none 0 0, .slice none 0 0, .slice none 0 0] 58); have A6 := Q6.1.below bA6; have D6 := Q6.2.below bA6; have s6A := s6.trans (bA6.mono s6.size); have M6 := heap_alloc_new w6 (.cells #[.int .i64 0, .slice none 0 0, .slice none 0 0, .slice none 0 0] 58); clear hw6)
      | (go_at_call 28; (with_reducible refine (QM_s3.out _ _ s6 Q6.1 Q6.2).mono ?_); rintro e w7 ⟨Q7, o7, a1, a2, a3, c1, c2, c3, rfl, p7⟩; have N7 := (o7.block _ (lt_of_block N6) (Nat.ne_of_gt (by have := s6.size; omega))).trans N6; obtain ⟨k0, k1, k2, k3, g0, g1, g2, g3⟩ := set_cells N7; have Y7 := K7.out _ Q7; have X7 := sb_put Q7 N7 zw p7 (Nat.le_trans hB0 Q6.1.size) _ rfl; have Z7 := K7.out _ X7.1; unfold put4 at X7 Z7)
      | (go_at_call 28; (with_reducible refine (QM_s3.out _ _ s6A A6 (D6.mono (by simp))).mono ?_); rintro e w7 ⟨Q7, o7, a1, a2, a3, c1, c2, c3, rfl, p7⟩; have N7 := (o7.block _ (lt_of_block M6) (Nat.ne_of_gt (by have := s6.size; omega))).trans M6; obtain ⟨k0, k1, k2, k3, g0, g1, g2, g3⟩ := set_cells N7; have Y7 := K7.out _ Q7; have X7 := sb_put Q7 N7 Q6.1.size p7 (Nat.le_trans hB0 A6.size) _ rfl; have Z7 := K7.out _ X7.1; unfold put4 at X7 Z7)
      | (go_at_call 28; (with_reducible refine (QM_s3.out _ _ s6 Q6.1 Q6.2).mono ?_); rintro e w7 ⟨Q7, o7, a1, a2, a3, c1, c2, c3, rfl, p7⟩; have N7 := heap_alloc_new w7 (.cells #[.int .i64 0, .slice none 0 0, .slice none 0 0, .slice none 0 0] 58); have z7 := o7.size; obtain ⟨k0, k1, k2, k3, g0, g1, g2, g3⟩ := set_cells N7; have Y7 := K7.out _ Q7; have Y8 := K7.out _ (Q7.below ((Below.refl w7.heap.size w7).alloc (Nat.le_refl _) (.cells #[.int .i64 0, .slice none 0 0, .slice none 0 0, .slice none 0 0] 58))); have X7 := sb_new Q7 p7 (Nat.le_trans hB0 Q6.1.size) _ rfl; have Z7 := K7.out _ X7.1)
      | fail "none")
    all_goals first
     | (go_meet; exact ⟨_, _, _, _, _, _, _, rfl, rfl, hid X7⟩)
     | (go_step; go_meet; exact ⟨_, _, _, _, _, _, _, rfl, rfl, hid X7⟩)
     | (go_step; go_step; go_meet; exact ⟨_, _, _, _, _, _, _, rfl, rfl, hid X7⟩)
     | (go_step; go_step; go_step; go_meet; exact ⟨_, _, _, _, _, _, _, rfl, rfl, hid X7⟩)
     | fail "no end"
   obtain ⟨Z, ra, a2, a3, rc, c2, c3, rfl, rfl, hcut1⟩ := hcut
   clear HB QM_s3 HOX
   obtain ⟨d3, hd3⟩ : ∃ d3 : Nat, s3.depth = (d3 : Int) := ⟨s3.depth.toNat, HR3.out.dep⟩
   have hFew := hF3
   have hlc := (Forks.setT_len HR3.out.st.set).1
   obtain ⟨k0, k1, k2, k3, -⟩ := set_cells hcut1.out.2.1
   obtain ⟨y0, y1, y2, -⟩ := hcut1.out.1.wa.cells
   rw [hd3] at k0 hFew
   rw [Int.toNat_natCast] at hFew
   have HG4 := HG3.out
   rw [hd3, Int.toNat_natCast] at HG4
   have HG5 := hid HG4
   have hd34 := HG4.d4
   have HD3 := hid hd3
   clear HG4 HG3 hF3 hd3
   obtain ⟨m4, hm4⟩ : ∃ m4 : Nat, m4 = max d d3 := ⟨_, rfl⟩
   have q1 : max (d : Int) (d3 : Int) = (m4 : Int) := by omega
   have q2 : IntKind.i64.wrap (3 * (m4 : Int)) = 3 * (m4 : Int) := IntWalk.i64_in _ (by omega)
   have q3 : IntKind.i64.wrap (3 * (m4 : Int) + (x.row.length : Int)) = 3 * (m4 : Int) + (x.row.length : Int) := IntWalk.i64_in _ (by omega)
   have q4 : decide (3 * (m4 : Int) + (x.row.length : Int) < (s3.changes.length : Int)) = false := decide_eq_false (by omega)
   clear hm4
   go_upto_region 20 with fail
   go_quiet (fail)
   generalize hwd : wc.drewN _ = w7
   have bq : Below wc.heap.size wc w7 := by rw [← hwd]; exact below_drewN (Below.refl _ _) _
   have hP := hcut1.out.1.below bq
   have hS := (bq.block _ (lt_of_block hcut1.out.2.1)).trans hcut1.out.2.1
   have hRp := hcut1.out.2.2.below bq
   clear k0 k1 k2 k3 y0 y1 y2 q1 q2 q3 q4 hwd bq
   obtain ⟨k0, k1, k2, k3, -⟩ := set_cells hS
   have qp := hid (hP.put (Nat.le_trans hB0 hP.size) hRp HG.out.wo.len HR3.out.len1 HR3.out.st.blk HR3.out.frd (Forks.setT_len HR3.out.st.set).1 (Forks.setT_len HR3.out.st.set).2.1 d3 HD3.out)
   rw [HD3.out] at k0 qp
   clear hP hS hRp hcut1 hFew hlc
   go_wp2_with fail
   refine qp.out.mono ?_
   rintro e w9 ⟨rfl, hB9⟩
   have HB9 := hid hB9
   clear hB9 qp k0 k1 k2 k3
   go_wp2_with fail
   refine bodyPost_ret (v := .tuple #[.slice e1 k f1, .int .i64 0, .bool true]) (by simp [results, Tryz.results34, go_sem]) rfl ?_
   exact ⟨0, _, _, d3, _, _, v3, _, _, rfl, HB9.out.wa, HG5.out, HB9.out.now, HB9.out.only, .inr (.inr ⟨rfl, rfl⟩)⟩
end Go.Proofs.YtgjmeeiejcbjfaaGreat
