/- Laws of walks: what stands in memory (a disk, a tree of one's own); what a walk tells, in one form. -/
import Derived.Test.YtgjmeeiejcbjfaaGreatF41
import Derived.Test.YtgjmeeiejcbjfaaGreatF25
import Derived.Test.YtgjmeeiejcbjfaaGreatF31
set_option linter.unusedSimpArgs false
set_option linter.unusedVariables false
namespace Go.Proofs.YtgjmeeiejcbjfaaGreat
open Go Go.RowKit
theorem read_below {wz wy : World} {o1 o2 : Obj} (h : wy = (wz.alloc o1).alloc o2) : Below wz.heap.size wz wy := by subst h; exact ((Below.refl _ _).alloc (Nat.le_refl _) _).alloc (by simp) _
theorem TwinN.mono {B B' : Nat} {w : World} {v : Value} {l : EL} (hb : B' ≤ B) (h : TwinN B w v l) : TwinN B' w v l := by
 obtain ⟨g, cap, e, hc, ho⟩ := h
 exact ⟨g, cap, e, hc, World.ownsRow.mono ho hb⟩
def wkR (r : Except Int (Forks.V × EL)) : EL := match r with | .ok x => x.2 | .error _ => []
def wkN (r : Except Int (Forks.V × EL)) : IL := match r with | .ok x => natI (Forks.nodes x.1) | .error _ => []
def wkE (r : Except Int (Forks.V × EL)) : Int := match r with | .ok _ => 0 | .error k => k
theorem WalkTold.flat {w w' : World} {r : Except Int (Forks.V × EL)} {e : Ending} (h : WalkTold w r e w') : Below w.heap.size w w' ∧ ∃ a1 c1 a2 c2, e = .returned (.tuple #[.slice a1 (wkR r).length c1, .slice a2 (wkN r).length c2, .int .i64 (wkE r)]) ∧ OwnExts w.heap.size w' (.slice a1 (wkR r).length c1) (wkR r) ∧ OwnInts w.heap.size w' (.slice a2 (wkN r).length c2) (wkN r) := by
 obtain ⟨h1, h2⟩ := h
 refine ⟨h1, ?_⟩
 cases r with
 | error k =>
  obtain ⟨rfl, -⟩ := h2
  exact ⟨none, 0, none, 0, rfl, World.ownsRow_nil _ _ _ _, World.ownsRow_nil _ _ _ _⟩
 | ok x =>
  obtain ⟨a, b, rfl, o1, o2, -⟩ := h2
  obtain ⟨a1, c1, rfl⟩ := o1.slice
  obtain ⟨a2, c2, rfl⟩ := o2.slice
  exact ⟨a1, c1, a2, c2, rfl, o1, o2⟩
structure WK (w w5 : World) (D Y g c : Nat) (depth : Int) (root : EL) (L : List ByteArray) (wz : World) : Prop where
 row : Row wz D 9 (L.map .string)
 tree : wz.heap[Y]? = some (.cells #[.int .i64 depth, .slice (some ⟨g, 0, none⟩) root.length c] 35 (0, 0))
 twin : TwinN w5.heap.size wz (.slice (some ⟨g, 0, none⟩) root.length c) root
 bel : Below w5.heap.size w5 wz
 old : Below w.heap.size w w5
 loD : D < w5.heap.size
 loY : w5.heap.size ≤ Y
variable {w w5 wz wy : World} {D Y g c : Nat} {depth : Int} {root : EL} {L : List ByteArray}
theorem WK.below (h : WK w w5 D Y g c depth root L wz) (hb : Below wz.heap.size wz wy) : WK w w5 D Y g c depth root L wy :=
 ⟨h.row.below hb h.row.lt, (hb.block _ (lt_of_block h.tree)).trans h.tree, h.twin.below hb, h.bel.trans (hb.mono h.bel.size), h.old, h.loD, h.loY⟩
theorem WK.all (h : WK w w5 D Y g c depth root L wz) : Below w.heap.size w wz := h.old.trans (h.bel.mono h.old.size)
theorem WK.setAt (h : WK w w5 D Y g c depth root L wz) {b k : Nat} {u : Value} {cs : Array Value} {T : TypeId} {fr : Nat × Nat} (hg : wz.heap[b]? = some (.cells cs T fr)) (hlo : w5.heap.size ≤ b) (h1 : 9 ≠ T) (h2 : 35 ≠ T) (h3 : 31 ≠ T) : WK w w5 D Y g c depth root L (wz.setCell ⟨b, k, none⟩ u) := by
 obtain ⟨g', c', e, hc, ho⟩ := h.twin
 exact ⟨h.row.keepT (KeepT.set (a := ⟨b, k, none⟩) hg h1), KeepT.set (a := ⟨b, k, none⟩) hg h2 _ _ _ h.tree, ⟨g', c', e, hc, own_keepT ho (KeepT.set (a := ⟨b, k, none⟩) hg h3)⟩, h.bel.setCell hlo _, h.old, h.loD, h.loY⟩
theorem WK.readP (h : WK w w5 D Y g c depth root L wz) (hL : L.length = 4096) (bad : Int) (P : Nat) (hP : wz.heap.size = P) (wy : World) (hw : wy = (wz.alloc (.cells #[.slice (some ⟨D, 0, none⟩) 4096 4096] 40)).alloc (.cells #[.int .i64 bad] 3)) :
  WK w w5 D Y g c depth root L wy ∧ DiskAt wy.heap.size wy (RDV P (P + 1)) ⟨L, bad⟩ := by
 subst hw hP
 have h0 := heap_alloc_new wz (.cells #[.slice (some ⟨D, 0, none⟩) 4096 4096] 40)
 have h1 := heap_alloc_new (wz.alloc (.cells #[.slice (some ⟨D, 0, none⟩) 4096 4096] 40)) (.cells #[.int .i64 bad] 3)
 rw [asz] at h1
 have bA : Below wz.heap.size wz ((wz.alloc (.cells #[.slice (some ⟨D, 0, none⟩) 4096 4096] 40)).alloc (.cells #[.int .i64 bad] 3)) := ((Below.refl _ _).alloc (Nat.le_refl _) _).alloc (by simp) _
 have hb := h.below bA
 refine ⟨hb, wz.heap.size, wz.heap.size + 1, D, 4096, rfl, by simp; omega, by simp, hb.row.lt, by dsimp only; omega, ?_, cell_of_row _ _ 0 _ _ _ h1, fun k s hk => hb.row.cellAt k (by rw [List.getElem?_map, hk]; rfl)⟩
 rw [cell_of_row _ _ 0 _ _ _ (heap_alloc_at h0 _)]
 dsimp only
 rw [hL]
 rfl
structure WL (w w5 : World) (D Y g c : Nat) (depth : Int) (root : EL) (L : List ByteArray) (M : Nat) (a1 a2 : Option Addr) (n1 n2 c1 c2 : Nat) (v3 v4 : Value) (R : EL) (N : IL) (wz : World) : Prop where
 wk : WK w w5 D Y g c depth root L wz
 x1 : ∃ xs, wz.ownsRow w5.heap.size 53 3 (.slice a1 n1 c1) n1 xs
 x2 : ∃ xs, wz.ownsRow w5.heap.size 3 1 (.slice a2 n2 c2) n2 xs
 hi1 : ∀ g, a1 = some g → g.block < M
 hi2 : ∀ g, a2 = some g → g.block < M
 r : OwnExts M wz v3 R
 n : OwnInts M wz v4 N
variable {M n1 n2 c1 c2 : Nat} {a1 a2 : Option Addr} {v3 v4 : Value} {R : EL} {N : IL}
theorem WL.below (h : WL w w5 D Y g c depth root L M a1 a2 n1 n2 c1 c2 v3 v4 R N wz) (hb : Below wz.heap.size wz wy) : WL w w5 D Y g c depth root L M a1 a2 n1 n2 c1 c2 v3 v4 R N wy := by
 have own : ∀ {B T sz a n xs}, wz.ownsRow B T sz a n xs → wy.ownsRow B T sz a n xs := fun h => ⟨h.1, h.2.imp id (fun ⟨g', cap, cur, hv, hg', hh, r⟩ => ⟨g', cap, cur, hv, hg', by rw [hb.block _ (lt_of_block hh)]; exact hh, r⟩)⟩
 exact ⟨h.wk.below hb, h.x1.imp fun _ => own, h.x2.imp fun _ => own, h.hi1, h.hi2, own h.r, own h.n⟩
theorem WL.put2 (h : WL w w5 D Y g c depth root L M a1 a2 n1 n2 c1 c2 v3 v4 R N wz) {b k : Nat} (ha : a2 = some ⟨b, 0, none⟩) (hk : k < n2 * 1) (u : Value) : WL w w5 D Y g c depth root L M a1 a2 n1 n2 c1 c2 v3 v4 R N (wz.setCell ⟨b, k, none⟩ u) := by
 subst ha
 obtain ⟨xs, hx⟩ := h.x2
 obtain ⟨g', e, hg, cs, hc⟩ := own_form hx (by omega)
 cases e
 have hM : b < M := h.hi2 _ rfl
 exact ⟨h.wk.setAt hc hg (by decide) (by decide) (by decide), h.x1.imp fun _ h => own_keepT h (KeepT.set (a := ⟨b, k, none⟩) hc (by decide)), ⟨_, ownsRow_set hx k hk u⟩, h.hi1, h.hi2, own_setAt u h.r hM, own_setAt u h.n hM⟩
end Go.Proofs.YtgjmeeiejcbjfaaGreat
