/- ForksSame: what Replace answers, failed or not, said in one form. ForksSame: the Set's block, the copies, and what overwriting leaves. Trees: what a walk meets is good; how long what a Replace tells is. No program. ForksSame: the walk. -/
import Derived.Test.YtgjmeeiejcbjfaaGreatG32
import Derived.Test.YtgjmeeiejcbjfaaGreatG40
import Derived.Test.YtgjmeeiejcbjfaaGreatG37
namespace Go.Proofs.YtgjmeeiejcbjfaaGreat
set_option linter.unusedVariables false
open Go Go.RowKit

def repD (r : Except Int Forks.SetR) : Int := match r with | .ok s => s.depth | .error _ => 0
def repR (r : Except Int Forks.SetR) : EL := match r with | .ok s => s.root | .error _ => []
def repC (r : Except Int Forks.SetR) : CL := match r with | .ok s => s.changes | .error _ => []
def repF (r : Except Int Forks.SetR) : IL := match r with | .ok s => s.freed | .error _ => []
def repE (r : Except Int Forks.SetR) : Int := match r with | .ok _ => 0 | .error k => k
structure RepAt (B : Nat) (w : World) (r : Except Int Forks.SetR) (a1 a2 a3 : Option Addr) (c1 c2 c3 : Nat) : Prop where
  root : OwnEnts B w (.slice a1 (repR r).length c1) (repR r)
  chgs : OwnChgs B w (.slice a2 (repC r).length c2) (repC r)
  free : OwnInts B w (.slice a3 (repF r).length c3) (repF r)
theorem rep_flat {S : Type} {FR : S → World → Prop} {w0 : World} {M : Nat} {r : Except Int Forks.SetR × S} {e : Ending} {w' : World} (h : ReplaceOut FR w0 M r e w') :
    FR r.2 w' ∧ OnlyM M w0 w' ∧ ∃ a1 a2 a3 c1 c2 c3, e = .returned (.tuple #[.agg #[.int .i64 (repD r.1), .slice a1 (repR r.1).length c1, .slice a2 (repC r.1).length c2, .slice a3 (repF r.1).length c3], .int .i64 (repE r.1)]) ∧ RepAt w0.heap.size w' r.1 a1 a2 a3 c1 c2 c3 := by
  obtain ⟨h1, h2, h3⟩ := h
  refine ⟨h1, h2, ?_⟩
  obtain ⟨r1, r2⟩ := r
  cases r1 with
  | error k =>
    obtain ⟨rfl, -⟩ := h3
    exact ⟨none, none, none, 0, 0, 0, rfl, World.ownsRow_nil _ _ _ _, World.ownsRow_nil _ _ _ _, World.ownsRow_nil _ _ _ _⟩
  | ok s =>
    obtain ⟨rv, cv, fv, rfl, o1, o2, o3⟩ := h3
    obtain ⟨a1, c1, rfl⟩ := o1.slice
    obtain ⟨a2, c2, rfl⟩ := o2.slice
    obtain ⟨a3, c3, rfl⟩ := o3.slice
    exact ⟨a1, a2, a3, c1, c2, c3, rfl, o1, o2, o3⟩
theorem zblk_size : zblk.size = 128 := by
  unfold zblk
  simp [txt, ByteArray.size]
theorem putD_mem {x : Int × ByteArray} {B : List ByteArray} {s : ByteArray} (h : s ∈ putD x B) : s ∈ B ∨ s = x.2 := by
  unfold putD at h
  split at h
  · exact (List.mem_or_eq_of_mem_set h)
  · exact .inl h
theorem fold_putD_mem : ∀ (l : CL) (B : List ByteArray) (s : ByteArray), s ∈ l.foldl (fun B x => putD x B) B → s ∈ B ∨ ∃ x ∈ l, s = x.2
  | [], B, s, h => .inl h
  | x :: l, B, s, h => by
    rw [List.foldl_cons] at h
    rcases fold_putD_mem l _ s h with h | ⟨y, hy, rfl⟩
    · rcases putD_mem h with h | rfl
      · exact .inl h
      · exact .inr ⟨x, List.mem_cons_self .., rfl⟩
    · exact .inr ⟨y, List.mem_cons_of_mem _ hy, rfl⟩
theorem diskOf_small {l : CL} (h : greatTo l = false) : ∀ s ∈ diskOf l, s.size ≤ 1000 ∨ s = zblk := fun s hs => by
  rcases fold_putD_mem l _ s hs with h1 | ⟨x, hx, rfl⟩
  · exact .inr (List.mem_replicate.1 h1).2
  · left
    have := List.any_eq_false.1 h x hx
    simpa using this

set_option maxRecDepth 100000 in
/-- Replace, told the fresh ones of one told. -/
theorem rep_told (w : World) (O : Nat) (hO : O < w.heap.size) (afr : Option Addr) (kfr : Nat) (fr : IL) (hT : ToldAt w O (.slice afr fr.length kfr) 0) (hI : IntsBel w.heap.size O w (.slice afr fr.length kfr) fr) (hfr : fr.length ≤ 100)
    (pl pb : Nat) (dk : Forks.Disk) (depth : Int) (rv : Value) (root : EL) (hs : SmallsE root) (h : ExtsAt w rv root) (hl : root.length ≤ 1000000000) (hd : -9223372036854775808 ≤ depth ∧ depth ≤ 9223372036854775807) (hdk : DiskAt w.heap.size w (RDV pl pb) dk) (hds : ∀ b s, dk.rd b = some s → s.size ≤ 140737488351232)
    (a b : Int) (ha : -9223372036854775808 ≤ a ∧ a ≤ 9223372036854775807) (hb : -9223372036854775808 ≤ b ∧ b ≤ 9223372036854775807) (lv : Value) (l : EL) (hsl : SmallsE l) (hL : ExtsAt w lv l) (hll : l.length ≤ 100000) :
    Calls Tryz.prog 28 #[.agg #[.int .i64 depth, rv], RDV pl pb, .int .i64 a, .int .i64 b, lv, .func (.func 29) #[.pointer (some ⟨O, 0, none⟩)] #[]] w fun e w' =>
      ToldAt w' O (.slice afr fr.length kfr) (Forks.replaceT (fun v R k T => Forks.askT (fun k => (toldT fr k, k + 1)) v R k T 0) dk depth root a b l 0).2 ∧ OnlyM O w w' ∧ ∃ a1 a2 a3 c1 c2 c3, e = .returned (.tuple #[.agg #[.int .i64 (repD (Forks.replaceT (fun v R k T => Forks.askT (fun k => (toldT fr k, k + 1)) v R k T 0) dk depth root a b l 0).1), .slice a1 (repR (Forks.replaceT (fun v R k T => Forks.askT (fun k => (toldT fr k, k + 1)) v R k T 0) dk depth root a b l 0).1).length c1, .slice a2 (repC (Forks.replaceT (fun v R k T => Forks.askT (fun k => (toldT fr k, k + 1)) v R k T 0) dk depth root a b l 0).1).length c2, .slice a3 (repF (Forks.replaceT (fun v R k T => Forks.askT (fun k => (toldT fr k, k + 1)) v R k T 0) dk depth root a b l 0).1).length c3], .int .i64 (repE (Forks.replaceT (fun v R k T => Forks.askT (fun k => (toldT fr k, k + 1)) v R k T 0) dk depth root a b l 0).1)]) ∧ RepAt w.heap.size w' (Forks.replaceT (fun v R k T => Forks.askT (fun k => (toldT fr k, k + 1)) v R k T 0) dk depth root a b l 0).1 a1 a2 a3 c1 c2 c3 := by
  refine (replace_any w ((toldFn w.heap.size O (.slice afr fr.length kfr) fr hO (by omega)).ask 0 (by decide)) ⟨hT, hI⟩ (.inl ⟨_, _, rfl⟩) pl pb dk depth rv root hs h hl hd hdk hds a b ha hb lv l hsl hL hll).mono ?_
  intro e w' h
  obtain ⟨h1, h2, h3⟩ := rep_flat h
  exact ⟨h1.1, h2, h3⟩
/-- A world behind w5 in which the disk's texts stand and two told are as they were. -/
structure SBase (w w5 : World) (D O1 O2 : Nat) (L : List ByteArray) (v : Value) (k1 k2 : Nat) (wz : World) : Prop where
  row : Row wz D 9 (L.map .string)
  one : ToldAt wz O1 v k1
  two : ToldAt wz O2 v k2
  bel : Below w5.heap.size w5 wz
  old : Below w.heap.size w w5
  lo1 : w5.heap.size ≤ O1
  lo2 : w5.heap.size ≤ O2
  ne : O1 ≠ O2
  loD : D < w5.heap.size
variable {w w5 wz wy : World} {D O1 O2 k1 k2 : Nat} {L : List ByteArray} {v : Value}
theorem SBase.below (h : SBase w w5 D O1 O2 L v k1 k2 wz) (hb : Below wz.heap.size wz wy) : SBase w w5 D O1 O2 L v k1 k2 wy :=
  ⟨h.row.below hb h.row.lt, (hb.block _ (lt_of_block h.one)).trans h.one, (hb.block _ (lt_of_block h.two)).trans h.two, h.bel.trans (hb.mono h.bel.size), h.old, h.lo1, h.lo2, h.ne, h.loD⟩
theorem SBase.all (h : SBase w w5 D O1 O2 L v k1 k2 wz) : Below w.heap.size w wz := h.old.trans (h.bel.mono h.old.size)
/-- Reading it anew. -/
theorem SBase.read (h : SBase w w5 D O1 O2 L v k1 k2 wz) (hL : L.length = 4096) (bad : Int) :
    SBase w w5 D O1 O2 L v k1 k2 ((wz.alloc (.cells #[.slice (some ⟨D, 0, none⟩) 4096 4096] 40)).alloc (.cells #[.int .i64 bad] 3)) ∧ DiskAt ((wz.alloc (.cells #[.slice (some ⟨D, 0, none⟩) 4096 4096] 40)).alloc (.cells #[.int .i64 bad] 3)).heap.size ((wz.alloc (.cells #[.slice (some ⟨D, 0, none⟩) 4096 4096] 40)).alloc (.cells #[.int .i64 bad] 3)) (RDV wz.heap.size (wz.heap.size + 1)) ⟨L, bad⟩ := by
  have h0 := heap_alloc_new wz (.cells #[.slice (some ⟨D, 0, none⟩) 4096 4096] 40)
  have h1 := heap_alloc_new (wz.alloc (.cells #[.slice (some ⟨D, 0, none⟩) 4096 4096] 40)) (.cells #[.int .i64 bad] 3)
  rw [asz] at h1
  have bA : Below wz.heap.size wz ((wz.alloc (.cells #[.slice (some ⟨D, 0, none⟩) 4096 4096] 40)).alloc (.cells #[.int .i64 bad] 3)) := ((Below.refl _ _).alloc (Nat.le_refl _) _).alloc (by simp) _
  have hb := h.below bA
  refine ⟨hb, wz.heap.size, wz.heap.size + 1, D, 4096, rfl, by simp; omega, by simp, hb.row.lt, by dsimp only; omega, ?_, cell_of_row _ _ 0 _ _ _ h1, fun k s hk => hb.row.cellAt k (by rw [List.getElem?_map, hk]; rfl)⟩
  rw [cell_of_row _ _ 0 _ _ _ (heap_alloc_at h0 _)]
  dsimp only
  rw [hL]
  rfl
theorem SBase.rows (h : SBase w w5 D O1 O2 L v k1 k2 wz) {O : Nat} (hO : w5.heap.size ≤ O) (hb : OnlyM O wz wy) : Row wy D 9 (L.map .string) := by
  obtain ⟨fr, hr, hf⟩ := h.row
  have := h.loD
  exact ⟨fr, (hb.block D (lt_of_block hr) (by omega)).trans hr, hf⟩
theorem SBase.only1 (h : SBase w w5 D O1 O2 L v k1 k2 wz) (hb : OnlyM O1 wz wy) {k : Nat} (ht : ToldAt wy O1 v k) : SBase w w5 D O1 O2 L v k k2 wy :=
  ⟨h.rows h.lo1 hb, ht, (hb.block _ (lt_of_block h.two) (fun e => h.ne e.symm)).trans h.two, h.bel.trans (hb.below h.bel.size h.lo1), h.old, h.lo1, h.lo2, h.ne, h.loD⟩
theorem SBase.only2 (h : SBase w w5 D O1 O2 L v k1 k2 wz) (hb : OnlyM O2 wz wy) {k : Nat} (ht : ToldAt wy O2 v k) : SBase w w5 D O1 O2 L v k1 k wy :=
  ⟨h.rows h.lo2 hb, (hb.block _ (lt_of_block h.one) h.ne).trans h.one, ht, h.bel.trans (hb.below h.bel.size h.lo2), h.old, h.lo1, h.lo2, h.ne, h.loD⟩
set_option maxRecDepth 100000 in
theorem SBase.rep1 {afr : Option Addr} {kfr : Nat} {fr : IL} {k : Nat} (h : SBase w w5 D O1 O2 L (.slice afr fr.length kfr) 0 k wz) (hfr : fr.length ≤ 100) (hF : IntsAt w (.slice afr fr.length kfr) fr) (P : Nat) (dk : Forks.Disk) (hdk : DiskAt wz.heap.size wz (RDV P (P + 1)) dk) (hds : ∀ b s, dk.rd b = some s → s.size ≤ 140737488351232)
    (depth : Int) (rv : Value) (root : EL) (hs : SmallsE root) (hR : ExtsAt w rv root) (hl : root.length ≤ 1000000000) (hd : -9223372036854775808 ≤ depth ∧ depth ≤ 9223372036854775807)
    (a b : Int) (ha : -9223372036854775808 ≤ a ∧ a ≤ 9223372036854775807) (hb : -9223372036854775808 ≤ b ∧ b ≤ 9223372036854775807) (lv : Value) (l : EL) (hsl : SmallsE l) (hL : ExtsAt w lv l) (hll : l.length ≤ 100000)
    (r : Except Int Forks.SetR × Nat) (hr : Forks.replaceT (fun v R k T => Forks.askT (fun k => (toldT fr k, k + 1)) v R k T 0) dk depth root a b l 0 = r) :
    Calls Tryz.prog 28 #[.agg #[.int .i64 depth, rv], RDV P (P + 1), .int .i64 a, .int .i64 b, lv, .func (.func 29) #[.pointer (some ⟨O1, 0, none⟩)] #[]] wz fun e w' =>
      SBase w w5 D O1 O2 L (.slice afr fr.length kfr) r.2 k w' ∧ OnlyM O1 wz w' ∧ ∃ a1 a2 a3 c1 c2 c3, e = .returned (.tuple #[.agg #[.int .i64 (repD r.1), .slice a1 (repR r.1).length c1, .slice a2 (repC r.1).length c2, .slice a3 (repF r.1).length c3], .int .i64 (repE r.1)]) ∧ RepAt wz.heap.size w' r.1 a1 a2 a3 c1 c2 c3 := by
  subst hr
  have hz := h.all.size
  refine (rep_told wz O1 (lt_of_block h.one) afr kfr fr h.one (hF.bel h.all (Nat.le_refl _) (Nat.le_trans h.old.size h.lo1) hz) hfr P (P + 1) dk depth rv root hs (hR.below (B := 0) h.all) hl hd hdk hds a b ha hb lv l hsl (hL.below (B := 0) h.all) hll).mono ?_
  rintro e w' ⟨h1, h2, h3⟩
  exact ⟨h.only1 h2 h1, h2, h3⟩
set_option maxRecDepth 100000 in
theorem SBase.rep2 {afr : Option Addr} {kfr : Nat} {fr : IL} {k : Nat} (h : SBase w w5 D O1 O2 L (.slice afr fr.length kfr) k 0 wz) (hfr : fr.length ≤ 100) (hF : IntsAt w (.slice afr fr.length kfr) fr) (P : Nat) (dk : Forks.Disk) (hdk : DiskAt wz.heap.size wz (RDV P (P + 1)) dk) (hds : ∀ b s, dk.rd b = some s → s.size ≤ 140737488351232)
    (depth : Int) (rv : Value) (root : EL) (hs : SmallsE root) (hR : ExtsAt w rv root) (hl : root.length ≤ 1000000000) (hd : -9223372036854775808 ≤ depth ∧ depth ≤ 9223372036854775807)
    (a b : Int) (ha : -9223372036854775808 ≤ a ∧ a ≤ 9223372036854775807) (hb : -9223372036854775808 ≤ b ∧ b ≤ 9223372036854775807) (lv : Value) (l : EL) (hsl : SmallsE l) (hL : ExtsAt w lv l) (hll : l.length ≤ 100000)
    (r : Except Int Forks.SetR × Nat) (hr : Forks.replaceT (fun v R k T => Forks.askT (fun k => (toldT fr k, k + 1)) v R k T 0) dk depth root a b l 0 = r) :
    Calls Tryz.prog 28 #[.agg #[.int .i64 depth, rv], RDV P (P + 1), .int .i64 a, .int .i64 b, lv, .func (.func 29) #[.pointer (some ⟨O2, 0, none⟩)] #[]] wz fun e w' =>
      SBase w w5 D O1 O2 L (.slice afr fr.length kfr) k r.2 w' ∧ OnlyM O2 wz w' ∧ ∃ a1 a2 a3 c1 c2 c3, e = .returned (.tuple #[.agg #[.int .i64 (repD r.1), .slice a1 (repR r.1).length c1, .slice a2 (repC r.1).length c2, .slice a3 (repF r.1).length c3], .int .i64 (repE r.1)]) ∧ RepAt wz.heap.size w' r.1 a1 a2 a3 c1 c2 c3 := by
  subst hr
  have hz := h.all.size
  refine (rep_told wz O2 (lt_of_block h.two) afr kfr fr h.two (hF.bel h.all (Nat.le_refl _) (Nat.le_trans h.old.size h.lo2) hz) hfr P (P + 1) dk depth rv root hs (hR.below (B := 0) h.all) hl hd hdk hds a b ha hb lv l hsl (hL.below (B := 0) h.all) hll).mono ?_
  rintro e w' ⟨h1, h2, h3⟩
  exact ⟨h.only2 h2 h1, h2, h3⟩

end Go.Proofs.YtgjmeeiejcbjfaaGreat

namespace Go.Proofs.YtgjmeeiejcbjfaaGreat
set_option linter.unusedVariables false
open Go Go.RowKit

variable {w w5 wz wy : World} {D O1 O2 k1 k2 : Nat} {L : List ByteArray} {v : Value}
theorem RepAt.keep {B : Nat} {r : Except Int Forks.SetR} {a1 a2 a3 : Option Addr} {c1 c2 c3 : Nat} (h : RepAt B wz r a1 a2 a3 c1 c2 c3) (hk : ∀ T, T ≠ 58 → KeepT T wz wy) : RepAt B wy r a1 a2 a3 c1 c2 c3 :=
  ⟨own_keepT h.root (hk _ (by decide)), own_keepT h.chgs (hk _ (by decide)), own_keepT h.free (hk _ (by decide))⟩
theorem RepAt.below {B : Nat} {r : Except Int Forks.SetR} {a1 a2 a3 : Option Addr} {c1 c2 c3 : Nat} (h : RepAt B wz r a1 a2 a3 c1 c2 c3) (hb : Below wz.heap.size wz wy) : RepAt B wy r a1 a2 a3 c1 c2 c3 :=
  ⟨h.root.below hb, h.chgs.below hb, h.free.below hb⟩
theorem RepAt.mono {B B' : Nat} {r : Except Int Forks.SetR} {a1 a2 a3 : Option Addr} {c1 c2 c3 : Nat} (h : RepAt B wz r a1 a2 a3 c1 c2 c3) (hb : B' ≤ B) : RepAt B' wz r a1 a2 a3 c1 c2 c3 :=
  ⟨World.ownsRow.mono h.root hb, World.ownsRow.mono h.chgs hb, World.ownsRow.mono h.free hb⟩
/-- What a Set holds that Replace told. -/
def SetRow (w : World) (X : Nat) (r : Except Int Forks.SetR) (a1 a2 a3 : Option Addr) (c1 c2 c3 : Nat) : Prop := w.heap[X]? = some (.cells #[.int .i64 (repD r), .slice a1 (repR r).length c1, .slice a2 (repC r).length c2, .slice a3 (repF r).length c3] 58 (0, 0))
theorem SBase.setAt (h : SBase w w5 D O1 O2 L v k1 k2 wz) {g k : Nat} {u : Value} {cs : Array Value} {T : TypeId} {fr : Nat × Nat} (hg : wz.heap[g]? = some (.cells cs T fr)) (hlo : w5.heap.size ≤ g) (h1 : 9 ≠ T) (h2 : 68 ≠ T) : SBase w w5 D O1 O2 L v k1 k2 (wz.setCell ⟨g, k, none⟩ u) :=
  ⟨h.row.keepT (KeepT.set (a := ⟨g, k, none⟩) hg h1), KeepT.set (a := ⟨g, k, none⟩) hg h2 _ _ _ h.one, KeepT.set (a := ⟨g, k, none⟩) hg h2 _ _ _ h.two, h.bel.setCell hlo _, h.old, h.lo1, h.lo2, h.ne, h.loD⟩
/-- Cells of a block of four. -/
theorem set_cells {X : Nat} {x y z u : Value} {T : TypeId} (h : wz.heap[X]? = some (.cells #[x, y, z, u] T (0, 0))) : wz.cell? ⟨X, 0, none⟩ = some x ∧ wz.cell? ⟨X, 1, none⟩ = some y ∧ wz.cell? ⟨X, 2, none⟩ = some z ∧ wz.cell? ⟨X, 3, none⟩ = some u ∧ wz.frozen? ⟨X, 0, none⟩ = false ∧ wz.frozen? ⟨X, 1, none⟩ = false ∧ wz.frozen? ⟨X, 2, none⟩ = false ∧ wz.frozen? ⟨X, 3, none⟩ = false :=
  ⟨cell_of_row _ _ 0 _ _ _ h, cell_of_row _ _ 1 _ _ _ h, cell_of_row _ _ 2 _ _ _ h, cell_of_row _ _ 3 _ _ _ h, free_zero h 0, free_zero h 1, free_zero h 2, free_zero h 3⟩
theorem read_keep {X : Nat} {o1 o2 ob : Obj} (h : wy = (wz.alloc o1).alloc o2) (hb : wz.heap[X]? = some ob) : wy.heap[X]? = some ob := by subst h; exact heap_alloc_at (heap_alloc_at hb _) _
theorem read_size {o1 o2 : Obj} (h : wy = (wz.alloc o1).alloc o2) : wz.heap.size < wy.heap.size := by subst h; simp; omega
theorem SBase.readP (h : SBase w w5 D O1 O2 L v k1 k2 wz) (hL : L.length = 4096) (bad : Int) (P : Nat) (hP : wz.heap.size = P) (wy : World) (hw : wy = (wz.alloc (.cells #[.slice (some ⟨D, 0, none⟩) 4096 4096] 40)).alloc (.cells #[.int .i64 bad] 3)) :
    SBase w w5 D O1 O2 L v k1 k2 wy ∧ DiskAt wy.heap.size wy (RDV P (P + 1)) ⟨L, bad⟩ := by
  subst hw hP
  exact h.read hL bad
/-- The Set's block is made behind Replace. -/
theorem x5_new {B : Nat} {r : Except Int Forks.SetR} {a1 a2 a3 : Option Addr} {c1 c2 c3 : Nat} (h : SBase w w5 D O1 O2 L v k1 k2 wz) (hr : RepAt B wz r a1 a2 a3 c1 c2 c3) (hB : w5.heap.size ≤ B) (wt : World) (hwt : wz.alloc (.cells #[.int .i64 (repD r), .slice a1 (repR r).length c1, .slice a2 (repC r).length c2, .slice a3 (repF r).length c3] 58) = wt) :
    SBase w w5 D O1 O2 L v k1 k2 wt ∧ SetRow wt wz.heap.size r a1 a2 a3 c1 c2 c3 ∧ RepAt w5.heap.size wt r a1 a2 a3 c1 c2 c3 := by
  subst hwt
  have hb : Below wz.heap.size wz (wz.alloc (.cells #[.int .i64 (repD r), .slice a1 (repR r).length c1, .slice a2 (repC r).length c2, .slice a3 (repF r).length c3] 58)) := (Below.refl _ _).alloc (Nat.le_refl _) _
  exact ⟨h.below hb, heap_alloc_new _ _, (hr.mono hB).below hb⟩
/-- The Set's block was made ahead of it, at X. -/
theorem x5_put {B X : Nat} {r : Except Int Forks.SetR} {a1 a2 a3 : Option Addr} {c1 c2 c3 : Nat} {x y z u : Value} (h : SBase w w5 D O1 O2 L v k1 k2 wz) (hX : wz.heap[X]? = some (.cells #[x, y, z, u] 58 (0, 0))) (hlo : w5.heap.size ≤ X) (hr : RepAt B wz r a1 a2 a3 c1 c2 c3) (hB : w5.heap.size ≤ B)
    (wt : World) (hwt : put4 wz X (.int .i64 (repD r)) (.slice a1 (repR r).length c1) (.slice a2 (repC r).length c2) (.slice a3 (repF r).length c3) = wt) :
    SBase w w5 D O1 O2 L v k1 k2 wt ∧ SetRow wt X r a1 a2 a3 c1 c2 c3 ∧ RepAt w5.heap.size wt r a1 a2 a3 c1 c2 c3 := by
  subst hwt
  obtain ⟨h1, h2⟩ := put4_block (a := .int .i64 (repD r)) (b := .slice a1 (repR r).length c1) (c := .slice a2 (repC r).length c2) (d := .slice a3 (repF r).length c3) hX
  exact ⟨⟨h.row.keepT (h2 _ (by decide)), h2 _ (by decide) _ _ _ h.one, h2 _ (by decide) _ _ _ h.two, h.bel.trans ((put4_below wz _ _ _ _ hlo)), h.old, h.lo1, h.lo2, h.ne, h.loD⟩, h1, (hr.mono hB).keep h2⟩

/-- x's Set, its rows (whatever they hold), and the copies. -/
structure SX (w w5 : World) (D O1 O2 X M : Nat) (L : List ByteArray) (v : Value) (k1 k2 : Nat) (d : Int) (a1 a2 a3 : Option Addr) (n1 n2 n3 c1 c2 c3 : Nat) (rv cv fv : Value) (R : EL) (C : CL) (F : IL) (wz : World) : Prop where
  base : SBase w w5 D O1 O2 L v k1 k2 wz
  res : wz.heap[X]? = some (.cells #[.int .i64 d, .slice a1 n1 c1, .slice a2 n2 c2, .slice a3 n3 c3] 58 (0, 0))
  x1 : ∃ xs, wz.ownsRow w5.heap.size 31 3 (.slice a1 n1 c1) n1 xs
  x2 : ∃ xs, wz.ownsRow w5.heap.size 72 2 (.slice a2 n2 c2) n2 xs
  x3 : ∃ xs, wz.ownsRow w5.heap.size 3 1 (.slice a3 n3 c3) n3 xs
  hi1 : ∀ g, a1 = some g → g.block < M
  hi2 : ∀ g, a2 = some g → g.block < M
  hi3 : ∀ g, a3 = some g → g.block < M
  root : OwnEnts M wz rv R
  chgs : OwnChgs M wz cv C
  free : OwnInts M wz fv F
section
variable {X M n1 n2 n3 c1 c2 c3 : Nat} {d : Int} {a1 a2 a3 : Option Addr} {rv cv fv : Value} {R : EL} {C : CL} {F : IL}
theorem SX.below (h : SX w w5 D O1 O2 X M L v k1 k2 d a1 a2 a3 n1 n2 n3 c1 c2 c3 rv cv fv R C F wz) (hb : Below wz.heap.size wz wy) : SX w w5 D O1 O2 X M L v k1 k2 d a1 a2 a3 n1 n2 n3 c1 c2 c3 rv cv fv R C F wy := by
  have own : ∀ {B T sz a n xs}, wz.ownsRow B T sz a n xs → wy.ownsRow B T sz a n xs := fun h => ⟨h.1, h.2.imp id (fun ⟨g', cap, cur, hv, hg', hh, r⟩ => ⟨g', cap, cur, hv, hg', by rw [hb.block _ (lt_of_block hh)]; exact hh, r⟩)⟩
  exact ⟨h.base.below hb, (hb.block _ (lt_of_block h.res)).trans h.res, h.x1.imp fun _ => own, h.x2.imp fun _ => own, h.x3.imp fun _ => own, h.hi1, h.hi2, h.hi3, own h.root, own h.chgs, own h.free⟩
theorem SX.only2 (h : SX w w5 D O1 O2 X M L v k1 k2 d a1 a2 a3 n1 n2 n3 c1 c2 c3 rv cv fv R C F wz) (hb : OnlyM O2 wz wy) {k : Nat} (hbase : SBase w w5 D O1 O2 L v k1 k wy) : SX w w5 D O1 O2 X M L v k1 k d a1 a2 a3 n1 n2 n3 c1 c2 c3 rv cv fv R C F wy := by
  have hk : ∀ {T}, T ≠ 68 → KeepT T wz wy := fun hT => hb.keepS h.base.two hT
  exact ⟨hbase, hk (by decide) _ _ _ h.res, h.x1.imp fun _ => (own_keepT · (hk (by decide))), h.x2.imp fun _ => (own_keepT · (hk (by decide))), h.x3.imp fun _ => (own_keepT · (hk (by decide))), h.hi1, h.hi2, h.hi3, own_keepT h.root (hk (by decide)), own_keepT h.chgs (hk (by decide)), own_keepT h.free (hk (by decide))⟩
theorem SX.put2 (h : SX w w5 D O1 O2 X M L v k1 k2 d a1 a2 a3 n1 n2 n3 c1 c2 c3 rv cv fv R C F wz) {g k : Nat} (ha : a2 = some ⟨g, 0, none⟩) (hk : k < n2 * 2) (u : Value) : SX w w5 D O1 O2 X M L v k1 k2 d a1 a2 a3 n1 n2 n3 c1 c2 c3 rv cv fv R C F (wz.setCell ⟨g, k, none⟩ u) := by
  subst ha
  obtain ⟨xs, hx⟩ := h.x2
  obtain ⟨g', e, hg, cs, hc⟩ := own_form hx (by omega)
  cases e
  have hM : g < M := h.hi2 _ rfl
  have kp : ∀ {T}, T ≠ 72 → KeepT T wz (wz.setCell ⟨g, k, none⟩ u) := fun hT => KeepT.set (a := ⟨g, k, none⟩) hc hT
  exact ⟨h.base.setAt hc hg (by decide) (by decide), kp (by decide) _ _ _ h.res, h.x1.imp fun _ => (own_keepT · (kp (by decide))), ⟨_, ownsRow_set hx k hk u⟩, h.x3.imp fun _ => (own_keepT · (kp (by decide))), h.hi1, h.hi2, h.hi3, own_setAt u h.root hM, own_setAt u h.chgs hM, own_setAt u h.free hM⟩
theorem SX.put3 (h : SX w w5 D O1 O2 X M L v k1 k2 d a1 a2 a3 n1 n2 n3 c1 c2 c3 rv cv fv R C F wz) {g k : Nat} (ha : a3 = some ⟨g, 0, none⟩) (hk : k < n3 * 1) (u : Value) : SX w w5 D O1 O2 X M L v k1 k2 d a1 a2 a3 n1 n2 n3 c1 c2 c3 rv cv fv R C F (wz.setCell ⟨g, k, none⟩ u) := by
  subst ha
  obtain ⟨xs, hx⟩ := h.x3
  obtain ⟨g', e, hg, cs, hc⟩ := own_form hx (by omega)
  cases e
  have hM : g < M := h.hi3 _ rfl
  have kp : ∀ {T}, T ≠ 3 → KeepT T wz (wz.setCell ⟨g, k, none⟩ u) := fun hT => KeepT.set (a := ⟨g, k, none⟩) hc hT
  exact ⟨h.base.setAt hc hg (by decide) (by decide), kp (by decide) _ _ _ h.res, h.x1.imp fun _ => (own_keepT · (kp (by decide))), h.x2.imp fun _ => (own_keepT · (kp (by decide))), ⟨_, ownsRow_set hx k hk u⟩, h.hi1, h.hi2, h.hi3, own_setAt u h.root hM, own_setAt u h.chgs hM, own_setAt u h.free hM⟩
theorem SX.put1 (h : SX w w5 D O1 O2 X M L v k1 k2 d a1 a2 a3 n1 n2 n3 c1 c2 c3 rv cv fv R C F wz) {g k : Nat} (ha : a1 = some ⟨g, 0, none⟩) (hk : k < n1 * 3) (u : Value) : SX w w5 D O1 O2 X M L v k1 k2 d a1 a2 a3 n1 n2 n3 c1 c2 c3 rv cv fv R C F (wz.setCell ⟨g, k, none⟩ u) := by
  subst ha
  obtain ⟨xs, hx⟩ := h.x1
  obtain ⟨g', e, hg, cs, hc⟩ := own_form hx (by omega)
  cases e
  have hM : g < M := h.hi1 _ rfl
  have kp : ∀ {T}, T ≠ 31 → KeepT T wz (wz.setCell ⟨g, k, none⟩ u) := fun hT => KeepT.set (a := ⟨g, k, none⟩) hc hT
  exact ⟨h.base.setAt hc hg (by decide) (by decide), kp (by decide) _ _ _ h.res, ⟨_, ownsRow_set hx k hk u⟩, h.x2.imp fun _ => (own_keepT · (kp (by decide))), h.x3.imp fun _ => (own_keepT · (kp (by decide))), h.hi1, h.hi2, h.hi3, own_setAt u h.root hM, own_setAt u h.chgs hM, own_setAt u h.free hM⟩
/-- Ahead of the copies. -/
theorem SX.start {r : Except Int Forks.SetR} (hb : SBase w w5 D O1 O2 L v k1 k2 wz) (hs : SetRow wz X r a1 a2 a3 c1 c2 c3) (hr : RepAt w5.heap.size wz r a1 a2 a3 c1 c2 c3) : SX w w5 D O1 O2 X wz.heap.size L v k1 k2 (repD r) a1 a2 a3 (repR r).length (repC r).length (repF r).length c1 c2 c3 (.slice none 0 0) (.slice none 0 0) (.slice none 0 0) [] [] [] wz := by
  have lt : ∀ {B sz n c : Nat} {T : TypeId} {a : Option Addr} {xs : List Value}, wz.ownsRow B T sz (.slice a n c) n xs → ∀ g, a = some g → g.block < wz.heap.size := fun h g hg => by
    subst hg
    rcases h.2 with ⟨h1, _⟩ | ⟨g', cap, cur, hv, _, hh, _⟩
    · cases h1
    · cases hv
      exact lt_of_block hh
  exact ⟨hb, hs, ⟨_, hr.root⟩, ⟨_, hr.chgs⟩, ⟨_, hr.free⟩, lt hr.root, lt hr.chgs, lt hr.free, World.ownsRow_nil _ _ _ _, World.ownsRow_nil _ _ _ _, World.ownsRow_nil _ _ _ _⟩
theorem SX.setC (h : SX w w5 D O1 O2 X M L v k1 k2 d a1 a2 a3 n1 n2 n3 c1 c2 c3 rv cv fv R C F wz) (hb : Below wz.heap.size wz wy) (hM : M ≤ wz.heap.size) {cv' : Value} {C' : CL} (ho : OwnChgs wz.heap.size wy cv' C') : SX w w5 D O1 O2 X M L v k1 k2 d a1 a2 a3 n1 n2 n3 c1 c2 c3 rv cv' fv R C' F wy :=
  { h.below hb with chgs := World.ownsRow.mono ho hM }
theorem SX.setF (h : SX w w5 D O1 O2 X M L v k1 k2 d a1 a2 a3 n1 n2 n3 c1 c2 c3 rv cv fv R C F wz) (hb : Below wz.heap.size wz wy) (hM : M ≤ wz.heap.size) {fv' : Value} {F' : IL} (ho : OwnInts wz.heap.size wy fv' F') : SX w w5 D O1 O2 X M L v k1 k2 d a1 a2 a3 n1 n2 n3 c1 c2 c3 rv cv fv' R C F' wy :=
  { h.below hb with free := World.ownsRow.mono ho hM }
theorem SX.setE (h : SX w w5 D O1 O2 X M L v k1 k2 d a1 a2 a3 n1 n2 n3 c1 c2 c3 rv cv fv R C F wz) (hb : Below wz.heap.size wz wy) (hM : M ≤ wz.heap.size) {rv' : Value} {R' : EL} (ho : OwnEnts wz.heap.size wy rv' R') : SX w w5 D O1 O2 X M L v k1 k2 d a1 a2 a3 n1 n2 n3 c1 c2 c3 rv' cv fv R' C F wy :=
  { h.below hb with root := World.ownsRow.mono ho hM }
/-- Reading it anew, with all that. -/
theorem SX.readP (h : SX w w5 D O1 O2 X M L v k1 k2 d a1 a2 a3 n1 n2 n3 c1 c2 c3 rv cv fv R C F wz) (hL : L.length = 4096) (bad : Int) (P : Nat) (hP : wz.heap.size = P) (wy : World) (hw : wy = (wz.alloc (.cells #[.slice (some ⟨D, 0, none⟩) 4096 4096] 40)).alloc (.cells #[.int .i64 bad] 3)) :
    SX w w5 D O1 O2 X M L v k1 k2 d a1 a2 a3 n1 n2 n3 c1 c2 c3 rv cv fv R C F wy ∧ DiskAt wy.heap.size wy (RDV P (P + 1)) ⟨L, bad⟩ := by
  obtain ⟨h1, h2⟩ := h.base.readP hL bad P hP wy hw
  subst hw
  exact ⟨h.below (((Below.refl _ _).alloc (Nat.le_refl _) _).alloc (by simp) _), h2⟩
theorem y5_new {B : Nat} {r : Except Int Forks.SetR} {e1 e2 e3 : Option Addr} {f1 f2 f3 : Nat} (h : SX w w5 D O1 O2 X M L v k1 k2 d a1 a2 a3 n1 n2 n3 c1 c2 c3 rv cv fv R C F wz) (hr : RepAt B wz r e1 e2 e3 f1 f2 f3) (hB : w5.heap.size ≤ B) (wt : World) (hwt : wz.alloc (.cells #[.int .i64 (repD r), .slice e1 (repR r).length f1, .slice e2 (repC r).length f2, .slice e3 (repF r).length f3] 58) = wt) :
    SX w w5 D O1 O2 X M L v k1 k2 d a1 a2 a3 n1 n2 n3 c1 c2 c3 rv cv fv R C F wt ∧ SetRow wt wz.heap.size r e1 e2 e3 f1 f2 f3 ∧ RepAt w5.heap.size wt r e1 e2 e3 f1 f2 f3 := by
  subst hwt
  have hb : Below wz.heap.size wz (wz.alloc (.cells #[.int .i64 (repD r), .slice e1 (repR r).length f1, .slice e2 (repC r).length f2, .slice e3 (repF r).length f3] 58)) := (Below.refl _ _).alloc (Nat.le_refl _) _
  exact ⟨h.below hb, heap_alloc_new _ _, (hr.mono hB).below hb⟩
theorem put4_other {Y b : Nat} {x y z u : Value} (hb : b ≠ Y) : (put4 wz Y x y z u).heap[b]? = wz.heap[b]? := by
  unfold put4
  rw [Below.heap_setCell _ _ _ _ hb, Below.heap_setCell _ _ _ _ hb, Below.heap_setCell _ _ _ _ hb, Below.heap_setCell _ _ _ _ hb]
theorem y5_put {B Y : Nat} {r : Except Int Forks.SetR} {e1 e2 e3 : Option Addr} {f1 f2 f3 : Nat} {x y z u : Value} (h : SX w w5 D O1 O2 X M L v k1 k2 d a1 a2 a3 n1 n2 n3 c1 c2 c3 rv cv fv R C F wz) (hY : wz.heap[Y]? = some (.cells #[x, y, z, u] 58 (0, 0))) (hlo : w5.heap.size ≤ Y) (hXY : X ≠ Y) (hr : RepAt B wz r e1 e2 e3 f1 f2 f3) (hB : w5.heap.size ≤ B)
    (wt : World) (hwt : put4 wz Y (.int .i64 (repD r)) (.slice e1 (repR r).length f1) (.slice e2 (repC r).length f2) (.slice e3 (repF r).length f3) = wt) :
    SX w w5 D O1 O2 X M L v k1 k2 d a1 a2 a3 n1 n2 n3 c1 c2 c3 rv cv fv R C F wt ∧ SetRow wt Y r e1 e2 e3 f1 f2 f3 ∧ RepAt w5.heap.size wt r e1 e2 e3 f1 f2 f3 := by
  obtain ⟨h1, h2, h3⟩ := x5_put h.base hY hlo hr hB wt hwt
  subst hwt
  obtain ⟨-, hk⟩ := put4_block (a := .int .i64 (repD r)) (b := .slice e1 (repR r).length f1) (c := .slice e2 (repC r).length f2) (d := .slice e3 (repF r).length f3) hY
  exact ⟨⟨h1, (put4_other hXY).trans h.res, h.x1.imp fun _ => (own_keepT · (hk _ (by decide))), h.x2.imp fun _ => (own_keepT · (hk _ (by decide))), h.x3.imp fun _ => (own_keepT · (hk _ (by decide))), h.hi1, h.hi2, h.hi3, own_keepT h.root (hk _ (by decide)), own_keepT h.chgs (hk _ (by decide)), own_keepT h.free (hk _ (by decide))⟩, h2, h3⟩
end

end Go.Proofs.YtgjmeeiejcbjfaaGreat

namespace Go.Proofs.YtgjmeeiejcbjfaaGreat.Forks
set_option linter.unusedVariables false
open Go.Proofs.YtgjmeeiejcbjfaaGreat

/-- Entries that lead to nodes. -/
def LeadsIn (l : EL) : Prop := ∀ x ∈ l, 1 ≤ x.2.1 ∧ x.2.1 ≤ 4095
theorem row_leadsIn {l : EL} (h : Ents.Row false l) : LeadsIn l := fun x hx => by
  have := h.may x hx
  unfold Ents.may at this
  have := of_decide_eq_true this
  unfold Ents.mayN at this
  omega
theorem nodeW_ok' {d : Disk} {child : EL → V → Except Int V} {h : Nat} {x : E} {v v' : V} (he : nodeW d child h x v = .ok v') :
    has v x.2.1.toNat = false ∧ ∃ s l leaf, d.rd x.2.1.toNat = some s ∧ Ents.dec s.data.toList = some (l, leaf) ∧ leaf = (h == 1) ∧ (l.getD 0 (0, 0, 0)).1 = x.1 ∧ (if leaf = true then .ok (v ++ [⟨x.2.1.toNat, h, l, s⟩]) else child l (v ++ [⟨x.2.1.toNat, h, l, s⟩])) = Except.ok v' := by
  unfold nodeW at he
  split at he
  · cases he
  · rename_i hh
    refine ⟨by simpa using hh, ?_⟩
    split at he
    · cases he
    · rename_i s hs
      split at he
      · cases he
      · rename_i l leaf hd
        split at he
        · cases he
        · rename_i hn
          have h1 : leaf = (h == 1) := Decidable.byContradiction fun h => hn (.inl h)
          have h2 : (l.getD 0 (0, 0, 0)).1 = x.1 := Decidable.byContradiction fun h => hn (.inr h)
          exact ⟨s, l, leaf, hs, hd, h1, h2, he⟩
theorem foldW_ok {f : E → V → Except Int V} {P : V → Prop} {Q : E → Prop} (hf : ∀ x v v', Q x → P v → f x v = .ok v' → P v') : ∀ (l : EL) (v v' : V), (∀ x ∈ l, Q x) → P v → foldW f l v = .ok v' → P v'
  | [], v, v', _, hp, he => by unfold foldW at he; cases he; exact hp
  | x :: l, v, v', hq, hp, he => by
    unfold foldW at he
    split at he
    · cases he
    · rename_i u hu
      exact foldW_ok hf l u v' (fun y hy => hq y (by simp [hy])) (hf x v u (hq x (by simp)) hp hu) he
theorem allW_good (d : Disk) : ∀ (h : Nat) (l : EL) (v v' : V), LeadsIn l → Good v → allW d h l v = .ok v' → Good v'
  | 0, l, v, v', _, hg, he => by unfold allW at he; cases he; exact hg
  | h + 1, l, v, v', hl, hg, he => by
    unfold allW at he
    refine foldW_ok (P := Good) (Q := fun x => 1 ≤ x.2.1 ∧ x.2.1 ≤ 4095) (fun x v v' hx hg he => ?_) l v v' hl hg he
    obtain ⟨hh, s, m, leaf, hs, hd, h1, h2, h3⟩ := nodeW_ok' he
    have hg' : Good (v ++ [⟨x.2.1.toNat, h + 1, m, s⟩]) := hg.snoc (by dsimp only; omega) (by dsimp only; omega) (by dsimp only; rw [hd, h1]) hh
    split at h3
    · cases h3; exact hg'
    · rename_i hlf
      have hr := (Ents.dec_some hd).1.2.2
      rw [show leaf = false by simpa using hlf] at hr
      exact allW_good d h m _ v' (row_leadsIn hr) hg' h3
theorem walkT_good {d : Disk} {depth : Int} {root : EL} {v : V} {R : EL} (h : walkT d depth root = .ok (v, R)) : Good v := by
  obtain ⟨hok, -, -⟩ := walkT_okr h
  by_cases h0 : depth = 0
  · subst h0
    rw [walkT_zero d root hok] at h
    split at h
    · cases h; exact Good.nil
    · cases h
  · obtain ⟨n, rfl⟩ : ∃ n : Nat, depth = (n : Int) := ⟨depth.toNat, by have := hok.1; omega⟩
    have hr := hok.2.2.2.2
    rw [show (((n : Nat) : Int) == 0) = false by simpa using h0] at hr
    rw [walkT_pos d n root hok (by omega)] at h
    split at h
    · cases h
    · rename_i u hu
      split at h
      · cases h; exact allW_good d _ _ _ _ (row_leadsIn hr) Good.nil hu
      · cases h
set_option maxRecDepth 100000 in
theorem setT_len {v : V} {LV : List (List Node)} {root : EL} {T : IL} {s : SetR} (h : setT v LV root T = .ok s) : s.changes.length ≤ 4096 ∧ s.freed.length ≤ 4096 ∧ s.root.length = root.length := by
  unfold setT at h
  split at h
  · cases h
  · cases h
    refine ⟨chT_len _ _ _, frT_len _ _ _, ?_⟩
    dsimp only
    unfold knownT
    split <;> simp
theorem replaceT_len {S : Type} (ak : V → EL → Nat → IL → (Int × IL) × S) (dk : Disk) (depth : Int) (root : EL) (a b : Int) (l : EL) (s : S) : (repC (replaceT ak dk depth root a b l s).1).length ≤ 4096 ∧ (repF (replaceT ak dk depth root a b l s).1).length ≤ 4096 ∧ (repR (replaceT ak dk depth root a b l s).1).length ≤ 1000000 := by
  unfold replaceT
  split
  · exact ⟨by simp [repC], by simp [repF], by simp [repR]⟩
  · rename_i hf
    split
    · exact ⟨by simp [repC], by simp [repF], by simp [repR]⟩
    · rename_i x hx
      split
      · exact ⟨by simp [repC], by simp [repF], by simp [repR]⟩
      · obtain ⟨hok, hrow, -⟩ := walkT_okr (v := x.1) (R := x.2) hx
        have hg := walkT_good (v := x.1) (R := x.2) hx
        have hrr := repl_row hrow (by simpa using hf)
        have hlen := row_len hrr
        have hd : depth.toNat ≤ 4 := by have := hok.2.1; omega
        unfold replaceV
        dsimp only
        split
        · rename_i hak
          generalize (ak x.1 (replT x.2 a b l) ((pick (lvls x.1 depth.toNat) (replT x.2 a b l)).2 + 1 - ((known x.1 (lvls x.1 depth.toNat) (replT x.2 a b l)).length + 1)) (0 :: known x.1 (lvls x.1 depth.toNat) (replT x.2 a b l))) = rr
          dsimp only
          have hpl : (pick (lvls x.1 depth.toNat) (replT x.2 a b l)).1.2.length ≤ 1000000 := by
            unfold pick
            split
            · have hc := shape_chain [] (replT x.2 a b l) 0
              have hb := shape_bounds [] ⟨by simp, (fun L hL => by cases hL), (fun L hL => by cases hL)⟩ (replT x.2 a b l) (by omega)
              exact chain_root_len hc (by omega) hb.2.2
            · have hc := shape_chain (lvls x.1 depth.toNat) (replT x.2 a b l) 0
              have hb := shape_bounds (lvls x.1 depth.toNat) (lvls_ok hg _ hd).1 (replT x.2 a b l) (by omega)
              exact chain_root_len hc (by omega) hb.2.2
          cases hs : setT x.1 (pick (lvls x.1 depth.toNat) (replT x.2 a b l)).1.1 (pick (lvls x.1 depth.toNat) (replT x.2 a b l)).1.2 rr.1.2 with
          | error k => exact ⟨by simp [repC], by simp [repF], by simp [repR]⟩
          | ok t =>
            have := setT_len hs
            exact ⟨this.1, this.2.1, by show t.root.length ≤ _; rw [this.2.2]; exact hpl⟩
        · exact ⟨by simp [repC], by simp [repF], by simp [repR]⟩

end Go.Proofs.YtgjmeeiejcbjfaaGreat.Forks

namespace Go.Proofs.YtgjmeeiejcbjfaaGreat
set_option linter.unusedVariables false
open Go Go.RowKit

theorem isame_bel (w : World) (v1 v2 : Value) (l : IL) (h1 : IntsAt w v1 l) (h2 : IntsAt w v2 l) (hn : l.length ≤ 9223372036854775807) :
    Calls Tryz.prog 23 #[v1, v2] w fun e w' => e = .returned (.bool true) ∧ Below w.heap.size w w' := by
  refine (isame_b w v1 v2 l l h1 h2 hn hn true (by simp)).mono ?_
  rintro e w' ⟨h, n, rfl⟩
  exact ⟨h, below_dr (Below.refl _ _)⟩
set_option maxHeartbeats 4000000 in
set_option maxRecDepth 100000 in
theorem same_walk (w : World) (depth : Int) (ar : Option Addr) (cr : Nat) (root : EL) (ad : Option Addr) (cap : Nat) (cl : CL) (bad a b : Int) (al : Option Addr) (kl : Nat) (l : EL) (af : Option Addr) (kf : Nat) (fr : IL)
    (hd : -9223372036854775808 ≤ depth ∧ depth ≤ 9223372036854775807) (hbad : -9223372036854775808 ≤ bad ∧ bad ≤ 9223372036854775807) (ha : -9223372036854775808 ≤ a ∧ a ≤ 9223372036854775807) (hb : -9223372036854775808 ≤ b ∧ b ≤ 9223372036854775807)
    (hR : ExtsAt w (.slice ar root.length cr) root) (hRs : SmallsE root) (hC : ChgsAt w (.slice ad cl.length cap) cl) (hCs : ∀ x ∈ cl, (-9223372036854775808 ≤ x.1 ∧ x.1 ≤ 9223372036854775807) ∧ x.2.size ≤ 9223372036854775807) (hL : ExtsAt w (.slice al l.length kl) l) (hLs : SmallsE l) (hF : IntsAt w (.slice af fr.length kf) fr)
    (hcl : cl.length ≤ 9223372036854775807) (hrl : root.length ≤ 9223372036854775807) (hll : l.length ≤ 9223372036854775807) (hfl : fr.length ≤ 9223372036854775807) :
    Calls Tryz.prog 6 #[.agg #[.int .i64 depth, .slice ar root.length cr], .agg #[.slice ad cl.length cap, .int .i64 bad], .agg #[.int .i64 a, .int .i64 b, .slice al l.length kl, .slice af fr.length kf]] w fun e w' => e = .returned (.bool true) ∧ Below w.heap.size w w' := by
  have HR := Lib.hid hR
  have HC := Lib.hid hC
  have HL := Lib.hid hL
  have HF := Lib.hid hF
  clear hR hC hL hF
  generalize hw3 : ((w.alloc (.cells #[.int .i64 depth, .slice ar root.length cr] 35)).alloc (.cells #[.slice ad cl.length cap, .int .i64 bad] 38)).alloc (.cells #[.int .i64 a, .int .i64 b, .slice al l.length kl, .slice af fr.length kf] 65) = w3
  have b3 : Below w.heap.size w w3 := by subst hw3; exact (((Below.refl _ _).alloc (Nat.le_refl _) _).alloc (by simp) _).alloc (by simp; omega) _
  have qg := Lib.hid (great_any (.slice ad cl.length cap) cl bad (.slice ar root.length cr) root w3 (HC.out.below b3) ⟨ar, cr, rfl⟩ hcl hrl (fun x hx => (hCs x hx).2))
  subst hw3
  go_enter Tryz.func6, Tryz.ntmps6
  go_wp2_with fail
  refine qg.out.mono ?_
  rintro e w4 ⟨rfl, b4⟩
  have B4 := Lib.hid (b3.trans (b4.mono b3.size))
  have hw4 := b4.size
  have W4 := (show ∀ k, k < 3 → w.heap.size + k < w4.heap.size from fun k hk => by simp at hw4; omega)
  have t0 : w4.heap[w.heap.size]? = some (.cells #[.int .i64 depth, .slice ar root.length cr] 35 (0, 0)) := by rw [b4.block _ (by simp; omega)]; exact heap_alloc_at (heap_alloc_at (heap_alloc_new _ _) _) _
  have t1 : w4.heap[w.heap.size + 1]? = some (.cells #[.slice ad cl.length cap, .int .i64 bad] 38 (0, 0)) := by
    rw [b4.block _ (by simp)]
    have h1 := heap_alloc_new (w.alloc (.cells #[.int .i64 depth, .slice ar root.length cr] 35)) (.cells #[.slice ad cl.length cap, .int .i64 bad] 38)
    rw [asz] at h1
    exact heap_alloc_at h1 _
  have t2 : w4.heap[w.heap.size + 1 + 1]? = some (.cells #[.int .i64 a, .int .i64 b, .slice al l.length kl, .slice af fr.length kf] 65 (0, 0)) := by
    rw [b4.block _ (by simp)]
    have h1 := heap_alloc_new ((w.alloc (.cells #[.int .i64 depth, .slice ar root.length cr] 35)).alloc (.cells #[.slice ad cl.length cap, .int .i64 bad] 38)) (.cells #[.int .i64 a, .int .i64 b, .slice al l.length kl, .slice af fr.length kf] 65)
    rw [asz, asz] at h1
    exact h1
  clear b3 b4 hw4 qg
  have c20 := cell_of_row _ _ 2 _ _ _ t2
  have c21 := cell_of_row _ _ 3 _ _ _ t2
  have c10 := cell_of_row _ _ 0 _ _ _ t1
  have c11 := cell_of_row _ _ 1 _ _ _ t1
  generalize hG : (decide (300 < cl.length) || decide (100 < root.length) || greatTo cl) = g at *
  cases g with
  | true =>
    clear HR HC HL HF hCs hRs hLs
    go_wp2_with fail
    all_goals (go_ret; exact ⟨rfl, B4.out⟩)
  | false =>
  by_cases hl60 : 60 < (l.length : Int)
  · clear HR HC HL HF hCs hRs hLs
    have d1 : decide (60 < (l.length : Int)) = true := decide_eq_true hl60
    go_wp2_with fail
    all_goals (go_ret; exact ⟨rfl, B4.out⟩)
  have d1 : decide (60 < (l.length : Int)) = false := decide_eq_false hl60
  by_cases hf100 : 100 < (fr.length : Int)
  · clear HR HC HL HF hCs hRs hLs
    have d2 : decide (100 < (fr.length : Int)) = true := decide_eq_true hf100
    go_wp2_with fail
    all_goals (go_ret; exact ⟨rfl, B4.out⟩)
  have d2 : decide (100 < (fr.length : Int)) = false := decide_eq_false hf100
  have qb := Lib.hid (blocks_any (.slice ad cl.length cap) cl bad w4 (HC.out.below B4.out) (by simp [Bool.or_eq_false_iff] at hG; omega) (fun x hx => (hCs x hx).1))
  have hl60' : l.length ≤ 60 := by omega
  have hf100' : fr.length ≤ 100 := by omega
  clear hl60 hf100
  go_wp2_with fail
  refine qb.out.mono ?_
  rintro e w5 ⟨D, rfl, hD, hrow, b5⟩
  have B5 := Lib.hid (B4.out.trans (b5.mono B4.out.size))
  have HRow := Lib.hid hrow
  have u0 := (b5.block _ (lt_of_block t0)).trans t0
  have u1 := (b5.block _ (lt_of_block t1)).trans t1
  have u2 := (b5.block _ (lt_of_block t2)).trans t2
  have hgt : greatTo cl = false := by simp only [Bool.or_eq_false_iff] at hG; exact hG.2
  have hrl' : root.length ≤ 1000000000 := by simp [Bool.or_eq_false_iff] at hG; omega
  clear qb hG d1 d2 hrow b5 c20 c21 c10 c11 B4 W4 t0 t1 t2
  have c3 := cell_of_row _ _ 3 _ _ _ u2
  have zA := lt_of_block u2
  have hDl := HRow.out.lt
  go_upto_region 4 with fail
  go_cut [8, 9] from 38 to 45 (fun y z wc => ∃ (O1 O2 : Nat), y = .pointer (some ⟨O1, 0, none⟩) ∧ z = .pointer (some ⟨O2, 0, none⟩) ∧ O1 ≠ O2 ∧ w5.heap.size ≤ O1 ∧ w5.heap.size ≤ O2 ∧ Hid (ToldAt wc O1 (.slice af fr.length kf) 0 ∧ ToldAt wc O2 (.slice af fr.length kf) 0 ∧ Below w5.heap.size w5 wc))
  case first =>
    have T1 := heap_alloc_new w5 (.cells #[.slice af fr.length kf, .int .i64 0] 68)
    have T2 := heap_alloc_new (w5.alloc (.cells #[.slice af fr.length kf, .int .i64 0] 68)) (.cells #[.slice af fr.length kf, .int .i64 0] 68)
    rw [asz] at T2
    have T1' := heap_alloc_at T1 (.cells #[.slice af fr.length kf, .int .i64 0] 68)
    have HT := Lib.hid (show ToldAt ((w5.alloc (.cells #[.slice af fr.length kf, .int .i64 0] 68)).alloc (.cells #[.slice af fr.length kf, .int .i64 0] 68)) w5.heap.size (.slice af fr.length kf) 0 ∧ ToldAt ((w5.alloc (.cells #[.slice af fr.length kf, .int .i64 0] 68)).alloc (.cells #[.slice af fr.length kf, .int .i64 0] 68)) (w5.heap.size + 1) (.slice af fr.length kf) 0 ∧ Below w5.heap.size w5 ((w5.alloc (.cells #[.slice af fr.length kf, .int .i64 0] 68)).alloc (.cells #[.slice af fr.length kf, .int .i64 0] 68)) from ⟨T1', T2, ((Below.refl _ _).alloc (Nat.le_refl _) _).alloc (by simp) _⟩)
    clear T1 T2 T1'
    go_region
    all_goals first | go_meet | (go_step; go_meet) | (go_step; go_step; go_meet) | (go_step; go_step; go_step; go_meet)
    · exact ⟨_, _, rfl, rfl, by omega, by omega, by omega, Lib.hid ⟨HT.out.1, HT.out.2.1, HT.out.2.2.drew⟩⟩
    · exact ⟨_, _, rfl, rfl, by omega, by omega, by omega, Lib.hid ⟨HT.out.2.1, HT.out.1, HT.out.2.2.drew⟩⟩
  obtain ⟨O1, O2, rfl, rfl, hO, hO1, hO2, hcut⟩ := hcut
  have hsm : ∀ x y, (⟨diskOf cl, bad⟩ : Forks.Disk).rd x = some y → y.size ≤ 140737488351232 := fun x y h => by
    rcases diskOf_small hgt y (Forks.rd_mem h) with h | h
    · omega
    · rw [h, zblk_size]; omega
  have SB := Lib.hid (show SBase w w5 D O1 O2 (diskOf cl) (.slice af fr.length kf) 0 0 wc from ⟨HRow.out.below hcut.out.2.2 hDl, hcut.out.1, hcut.out.2.1, hcut.out.2.2, B5.out, hO1, hO2, hO, hDl⟩)
  have KEEP : Hid (∀ w', Below w5.heap.size w5 w' → w'.cell? ⟨w.heap.size, 0, none⟩ = some (.int .i64 depth) ∧ w'.cell? ⟨w.heap.size, 1, none⟩ = some (.slice ar root.length cr) ∧ w'.cell? ⟨w.heap.size + 1, 1, none⟩ = some (.int .i64 bad) ∧ w'.cell? ⟨w.heap.size + 1 + 1, 0, none⟩ = some (.int .i64 a) ∧ w'.cell? ⟨w.heap.size + 1 + 1, 1, none⟩ = some (.int .i64 b) ∧ w'.cell? ⟨w.heap.size + 1 + 1, 2, none⟩ = some (.slice al l.length kl)) := Lib.hid (fun wz hz => by
    have v0 := (hz.block _ (lt_of_block u0)).trans u0
    have v1 := (hz.block _ (lt_of_block u1)).trans u1
    have v2 := (hz.block _ (lt_of_block u2)).trans u2
    exact ⟨cell_of_row _ _ 0 _ _ _ v0, cell_of_row _ _ 1 _ _ _ v0, cell_of_row _ _ 1 _ _ _ v1, cell_of_row _ _ 0 _ _ _ v2, cell_of_row _ _ 1 _ _ _ v2, cell_of_row _ _ 2 _ _ _ v2⟩)
  generalize hr : Forks.replaceT (fun v R k T => Forks.askT (fun k => (toldT fr k, k + 1)) v R k T 0) ⟨diskOf cl, bad⟩ depth root a b l 0 = r
  have QP := Lib.hid (fun (wz : World) (P : Nat) (h : SBase w w5 D O1 O2 (diskOf cl) (.slice af fr.length kf) 0 0 wz) (hdk : DiskAt wz.heap.size wz (RDV P (P + 1)) ⟨diskOf cl, bad⟩) => h.rep1 hf100' HF.out P ⟨diskOf cl, bad⟩ hdk hsm depth (.slice ar root.length cr) root hRs HR.out hrl' hd a b ha hb (.slice al l.length kl) l hLs HL.out (by omega) r hr)
  have QP2 := Lib.hid (fun (wz : World) (P : Nat) (h : SBase w w5 D O1 O2 (diskOf cl) (.slice af fr.length kf) r.2 0 wz) (hdk : DiskAt wz.heap.size wz (RDV P (P + 1)) ⟨diskOf cl, bad⟩) => h.rep2 hf100' HF.out P ⟨diskOf cl, bad⟩ hdk hsm depth (.slice ar root.length cr) root hRs HR.out hrl' hd a b ha hb (.slice al l.length kl) l hLs HL.out (by omega) r hr)
  go_upto_region 5 with fail
  go_cut [10, 11] from 46 to 62 (fun y z wd => ∃ (X : Nat) (a1 a2 a3 : Option Addr) (c1 c2 c3 : Nat), y = .pointer (some ⟨X, 0, none⟩) ∧ z = .int .i64 (repE r.1) ∧ w5.heap.size ≤ X ∧ X ≠ O1 ∧ X ≠ O2 ∧ Hid (SBase w w5 D O1 O2 (diskOf cl) (.slice af fr.length kf) r.2 0 wd ∧ SetRow wd X r.1 a1 a2 a3 c1 c2 c3 ∧ RepAt w5.heap.size wd r.1 a1 a2 a3 c1 c2 c3))
  case first =>
    -- [[
    have zO1 : O1 < wc.heap.size := lt_of_block hcut.out.1
    have zO2 : O2 < wc.heap.size := lt_of_block hcut.out.2.1
    have zw : w5.heap.size ≤ wc.heap.size := SB.out.bel.size
    have bA : Below wc.heap.size wc (wc.alloc (.cells #[.int .i64 0, .slice none 0 0, .slice none 0 0, .slice none 0 0] 58)).drew := ((Below.refl _ _).alloc (Nat.le_refl _) _).drew
    have SB0 := Lib.hid (SB.out.below (Below.refl _ _).drew)
    have SBA := Lib.hid (SB.out.below bA)
    have NA : Hid ((wc.alloc (.cells #[.int .i64 0, .slice none 0 0, .slice none 0 0, .slice none 0 0] 58)).drew.heap[wc.heap.size]? = some (.cells #[.int .i64 0, .slice none 0 0, .slice none 0 0, .slice none 0 0] 58)) := Lib.hid (heap_alloc_new wc (.cells #[.int .i64 0, .slice none 0 0, .slice none 0 0, .slice none 0 0] 58))
    have hPA : (wc.alloc (.cells #[.int .i64 0, .slice none 0 0, .slice none 0 0, .slice none 0 0] 58)).drew.heap.size = wc.heap.size + 1 := by simp
    have hP0 : wc.drew.heap.size = wc.heap.size := rfl
    have b0 : Below w5.heap.size w5 wc.drew := SB0.out.bel
    have bA5 : Below w5.heap.size w5 (wc.alloc (.cells #[.int .i64 0, .slice none 0 0, .slice none 0 0, .slice none 0 0] 58)).drew := SBA.out.bel
    go_region_held3 (fun w' => w'.cell? ⟨w.heap.size, 0, none⟩ = some (.int .i64 depth) ∧ w'.cell? ⟨w.heap.size, 1, none⟩ = some (.slice ar root.length cr) ∧ w'.cell? ⟨w.heap.size + 1, 1, none⟩ = some (.int .i64 bad) ∧ w'.cell? ⟨w.heap.size + 1 + 1, 0, none⟩ = some (.int .i64 a) ∧ w'.cell? ⟨w.heap.size + 1 + 1, 1, none⟩ = some (.int .i64 b) ∧ w'.cell? ⟨w.heap.size + 1 + 1, 2, none⟩ = some (.slice al l.length kl))
      (first | (refine KEEP.out _ ?_; assumption) | exact Z7)
      (first
        | (go_at_call 20; (with_reducible refine (reading2_any D bad _).mono ?_); rintro e w6 ⟨rfl, hw6⟩; have Q6 := SBA.out.readP (diskOf_len cl) bad _ hPA w6 hw6; have N6 := read_keep hw6 NA.out; have z6 := read_size hw6; have b6 := Q6.1.bel; clear hw6)
        | (go_at_call 20; (with_reducible refine (reading2_any D bad _).mono ?_); rintro e w6 ⟨rfl, hw6⟩; have Q6 := SB0.out.readP (diskOf_len cl) bad _ hP0 w6 hw6; have z6 := read_size hw6; have b6 := Q6.1.bel; have A6 := Q6.1.below ((Below.refl _ _).alloc (Nat.le_refl _) (.cells #[.int .i64 0, .slice none 0 0, .slice none 0 0, .slice none 0 0] 58)); have D6 := Q6.2.below ((Below.refl _ _).alloc (Nat.le_refl _) (.cells #[.int .i64 0, .slice none 0 0, .slice none 0 0, .slice none 0 0] 58)); have b6A := A6.bel; have M6 := heap_alloc_new w6 (.cells #[.int .i64 0, .slice none 0 0, .slice none 0 0, .slice none 0 0] 58); clear hw6)
        | (go_at_call 28; (with_reducible refine (QP.out _ _ Q6.1 Q6.2).mono ?_); rintro e w7 ⟨Q7, o7, a1, a2, a3, c1, c2, c3, rfl, p7⟩; have N7 := (o7.block _ (lt_of_block N6) (Nat.ne_of_gt zO1)).trans N6; obtain ⟨k0, k1, k2, k3, g0, g1, g2, g3⟩ := set_cells N7; have X7 := x5_put Q7 N7 zw p7 b6.size _ rfl; have b7 := Q7.bel; have Z7 := KEEP.out _ X7.1.bel; unfold put4 at X7 Z7)
        | (go_at_call 28; (with_reducible refine (QP.out _ _ A6 (D6.mono (by simp))).mono ?_); rintro e w7 ⟨Q7, o7, a1, a2, a3, c1, c2, c3, rfl, p7⟩; have N7 := (o7.block _ (lt_of_block M6) (Nat.ne_of_gt (Nat.lt_trans zO1 z6))).trans M6; obtain ⟨k0, k1, k2, k3, g0, g1, g2, g3⟩ := set_cells N7; have X7 := x5_put Q7 N7 b6.size p7 b6A.size _ rfl; have b7 := Q7.bel; have Z7 := KEEP.out _ X7.1.bel; unfold put4 at X7 Z7)
        | (go_at_call 28; (with_reducible refine (QP.out _ _ Q6.1 Q6.2).mono ?_); rintro e w7 ⟨Q7, o7, a1, a2, a3, c1, c2, c3, rfl, p7⟩; have N7 := heap_alloc_new w7 (.cells #[.int .i64 0, .slice none 0 0, .slice none 0 0, .slice none 0 0] 58); have z7 := o7.size; obtain ⟨k0, k1, k2, k3, g0, g1, g2, g3⟩ := set_cells N7; have X7 := x5_new Q7 p7 b6.size _ rfl; have b7 := Q7.bel; have b7A := (Q7.below ((Below.refl _ _).alloc (Nat.le_refl _) (.cells #[.int .i64 0, .slice none 0 0, .slice none 0 0, .slice none 0 0] 58))).bel; have Z7 := KEEP.out _ X7.1.bel)
        | fail "none")
    all_goals first
      | (go_meet; exact ⟨_, _, _, _, _, _, _, rfl, rfl, by omega, by omega, by omega, Lib.hid X7⟩)
      | (go_step; go_meet; exact ⟨_, _, _, _, _, _, _, rfl, rfl, by omega, by omega, by omega, Lib.hid X7⟩)
      | (go_step; go_step; go_meet; exact ⟨_, _, _, _, _, _, _, rfl, rfl, by omega, by omega, by omega, Lib.hid X7⟩)
      | fail "no end"
    -- ]]
  obtain ⟨X, a1, a2, a3, c1, c2, c3, rfl, rfl, hX, hXO1, hXO2, hcut5⟩ := hcut
  have hlen := Lib.hid (Forks.replaceT_len (fun v R k T => Forks.askT (fun k => (toldT fr k, k + 1)) v R k T 0) ⟨diskOf cl, bad⟩ depth root a b l (0 : Nat))
  rw [hr] at hlen
  have SX0 := Lib.hid (SX.start hcut5.out.1 hcut5.out.2.1 hcut5.out.2.2)
  have RA0 := Lib.hid hcut5.out.2.2
  obtain ⟨ii, hii, hzi, hsi, hbi⟩ := info_parts infoInt
  obtain ⟨ie, hie, hze, hse, hbe⟩ := info_parts info_entry
  obtain ⟨ic, hic, hzc, hsc, hbc⟩ := info_parts info_change
  have hM : wc.heap.size ≤ wc.heap.size := Nat.le_refl _
  generalize hMM : wc.heap.size = M at SX0
  have HMM : Hid (M ≤ wc.heap.size) := Lib.hid (by omega)
  clear hMM hcut5 hcut HRow hM
  have cX2 := cell_of_row _ _ 2 _ _ _ SX0.out.res
  have zX := lt_of_block SX0.out.res
  -- COPIES
  -- copy 1
  go_upto_region 6 with fail
  go_cut [12] from 63 to 66 (fun y we => ∃ (ak : Option Addr) (ck : Nat), y = .slice ak (repC r.1).length ck ∧ Hid (SX w w5 D O1 O2 X M (diskOf cl) (.slice af fr.length kf) r.2 0 (repD r.1) a1 a2 a3 (repR r.1).length (repC r.1).length (repF r.1).length c1 c2 c3 (.slice none 0 0) (.slice ak (repC r.1).length ck) (.slice none 0 0) [] (repC r.1) [] we ∧ RepAt w5.heap.size we r.1 a1 a2 a3 c1 c2 c3 ∧ M ≤ we.heap.size))
  case first =>
    have bL : Below wc.heap.size wc (wc.alloc (.cells #[] 72)) := (Below.refl _ _).alloc (Nat.le_refl _) _
    have hown : (wc.alloc (.cells #[] 72)).ownsRow wc.heap.size 72 2 (.slice (some ⟨wc.heap.size, 0, none⟩) 0 0) 0 [] := World.ownsRow_lit wc #[] 0 (Nat.le_refl _) (Nat.zero_le _) rfl
    have FIN : Hid (∀ (wy : World) (ak : Option Addr) (ck : Nat), Below wc.heap.size wc wy → OwnChgs wc.heap.size wy (.slice ak (repC r.1).length ck) (repC r.1) → SX w w5 D O1 O2 X M (diskOf cl) (.slice af fr.length kf) r.2 0 (repD r.1) a1 a2 a3 (repR r.1).length (repC r.1).length (repF r.1).length c1 c2 c3 (.slice none 0 0) (.slice ak (repC r.1).length ck) (.slice none 0 0) [] (repC r.1) [] wy ∧ RepAt w5.heap.size wy r.1 a1 a2 a3 c1 c2 c3 ∧ M ≤ wy.heap.size) := Lib.hid (fun wy ak ck hb ho => ⟨SX0.out.setC hb (by have := HMM.out; exact this) ho, RA0.out.below hb, Nat.le_trans HMM.out hb.size⟩)
    have HOWN := Lib.hid hown
    have BL := Lib.hid bL
    rcases RA0.out.chgs.at with ⟨h1, h2⟩ | ⟨g, off, c, h1, hc⟩
    · rw [h1] at cX2
      have h0 : Hid ((repC r.1).length = 0) := Lib.hid (by rw [h2]; rfl)
      have H2 := Lib.hid h2
      clear hown bL h1 h2
      go_wp2_with (first | (at_builtin; refine wpList_append_own_none rfl (.tmp 63) (.tmp 65) 36 rfl wc.heap.size 72 ic 2 Tryz.underlying36 hic _ 0 _ rfl HOWN.out rfl ?_))
      go_wp2_with fail
      go_meet
      exact ⟨some ⟨wc.heap.size, 0, none⟩, 0, by rw [h0.out], Lib.hid (FIN.out _ _ _ BL.out (by unfold OwnChgs; rw [H2.out]; exact HOWN.out))⟩
    · obtain ⟨rfl, rfl⟩ : a2 = some ⟨g, off, none⟩ ∧ c2 = c := by injection h1 with e1 e2 e3; exact ⟨e1, e3⟩
      have hnews : ∀ j u, (ccells (repC r.1))[j]? = some u → (wc.alloc (.cells #[] 72)).cell? ((⟨g, off, none⟩ : Addr).add j) = some u := fun j u hu => by
        have e1 : (⟨g, off, none⟩ : Addr).add j = ⟨g, off + j, none⟩ := by unfold Addr.add; split <;> simp_all
        rw [e1]
        exact Lib.cell?_alloc_some _ (hc j u hu)
      have hone := ccells_one (repC r.1)
      have hrl := ccells_length (repC r.1)
      have HH : (repC r.1).length ≤ 1000000 := by have := hlen.out; omega
      clear hc h1 bL
      go_wp2_with (first | (at_builtin; refine wpList_append_own _ rfl (.tmp 63) (.tmp 65) 36 rfl wc.heap.size 72 ic (.agg #[.int .i64 0, .string ⟨#[]⟩]) 2 24 Tryz.underlying36 hic hzc hsc hbc rfl (by decide) _ 0 _ rfl hown ⟨g, off, none⟩ (repC r.1).length c2 (ccells (repC r.1)) rfl hrl hnews hone (by unfold maxLen; omega) (by omega) (by simp) ?_))
      intro v' wy hown1 hgrow _
      have hW : Hid (Below wc.heap.size wc wy) := Lib.hid (BL.out.grown hgrow (by simp) (fun k hk => by have := (HOWN.out.lt k hk).1; exact this))
      have hG : Hid (OwnChgs wc.heap.size wy v' (repC r.1)) := Lib.hid (by
        unfold OwnChgs
        exact hown1)
      obtain ⟨ak, ck, rfl⟩ := hG.out.slice
      clear hown1 hgrow hown hnews
      go_wp2_with fail
      go_meet
      exact ⟨ak, ck, rfl, Lib.hid (FIN.out _ _ _ hW.out hG.out)⟩
  obtain ⟨b1, e1, rfl, hcp⟩ := hcut
  have SX1 := Lib.hid hcp.out.1
  have RA1 := Lib.hid hcp.out.2.1
  clear HMM
  have HMM := Lib.hid hcp.out.2.2
  clear hcp SX0 RA0 cX2
  clear zX
  have zX := lt_of_block SX1.out.res
  have cX3 := cell_of_row _ _ 3 _ _ _ SX1.out.res
  -- copy 2
  go_upto_region 7 with fail
  go_cut [13] from 67 to 70 (fun y wf => ∃ (ak : Option Addr) (ck : Nat), y = .slice ak (repF r.1).length ck ∧ Hid (SX w w5 D O1 O2 X M (diskOf cl) (.slice af fr.length kf) r.2 0 (repD r.1) a1 a2 a3 (repR r.1).length (repC r.1).length (repF r.1).length c1 c2 c3 (.slice none 0 0) (.slice b1 (repC r.1).length e1) (.slice ak (repF r.1).length ck) [] (repC r.1) (repF r.1) wf ∧ RepAt w5.heap.size wf r.1 a1 a2 a3 c1 c2 c3 ∧ M ≤ wf.heap.size))
  case first =>
    have bL : Below wc.heap.size wc (wc.alloc (.cells #[] 3)) := (Below.refl _ _).alloc (Nat.le_refl _) _
    have hown : (wc.alloc (.cells #[] 3)).ownsRow wc.heap.size 3 1 (.slice (some ⟨wc.heap.size, 0, none⟩) 0 0) 0 [] := World.ownsRow_lit wc #[] 0 (Nat.le_refl _) (Nat.zero_le _) rfl
    have FIN : Hid (∀ (wy : World) (ak : Option Addr) (ck : Nat), Below wc.heap.size wc wy → OwnInts wc.heap.size wy (.slice ak (repF r.1).length ck) (repF r.1) → SX w w5 D O1 O2 X M (diskOf cl) (.slice af fr.length kf) r.2 0 (repD r.1) a1 a2 a3 (repR r.1).length (repC r.1).length (repF r.1).length c1 c2 c3 (.slice none 0 0) (.slice b1 (repC r.1).length e1) (.slice ak (repF r.1).length ck) [] (repC r.1) (repF r.1) wy ∧ RepAt w5.heap.size wy r.1 a1 a2 a3 c1 c2 c3 ∧ M ≤ wy.heap.size) := Lib.hid (fun wy ak ck hb ho => ⟨SX1.out.setF hb (by have := HMM.out; exact this) ho, RA1.out.below hb, Nat.le_trans HMM.out hb.size⟩)
    have HOWN := Lib.hid hown
    have BL := Lib.hid bL
    rcases RA1.out.free.at with ⟨h1, h2⟩ | ⟨g, off, c, h1, hc⟩
    · rw [h1] at cX3
      have h0 : Hid ((repF r.1).length = 0) := Lib.hid (by rw [h2]; rfl)
      have H2 := Lib.hid h2
      clear hown bL h1 h2
      go_wp2_with (first | (at_builtin; refine wpList_append_own_none rfl (.tmp 67) (.tmp 69) 43 rfl wc.heap.size 3 ii 1 Tryz.underlying43 hii _ 0 _ rfl HOWN.out rfl ?_))
      go_wp2_with fail
      go_meet
      exact ⟨some ⟨wc.heap.size, 0, none⟩, 0, by rw [h0.out], Lib.hid (FIN.out _ _ _ BL.out (by unfold OwnInts; rw [H2.out]; exact HOWN.out))⟩
    · obtain ⟨rfl, rfl⟩ : a3 = some ⟨g, off, none⟩ ∧ c3 = c := by injection h1 with e1 e2 e3; exact ⟨e1, e3⟩
      have hnews : ∀ j u, (icells (repF r.1))[j]? = some u → (wc.alloc (.cells #[] 3)).cell? ((⟨g, off, none⟩ : Addr).add j) = some u := fun j u hu => by
        have e1 : (⟨g, off, none⟩ : Addr).add j = ⟨g, off + j, none⟩ := by unfold Addr.add; split <;> simp_all
        rw [e1]
        exact Lib.cell?_alloc_some _ (hc j u hu)
      have hone : ∀ u ∈ icells (repF r.1), u.oneCell' = true := by
        intro u hu
        obtain ⟨x, -, rfl⟩ := List.mem_map.1 hu
        rfl
      have hrl : (icells (repF r.1)).length = (repF r.1).length * 1 := by rw [icells_length]; omega
      have HH : (repF r.1).length ≤ 1000000 := by have := hlen.out; omega
      clear hc h1 bL
      go_wp2_with (first | (at_builtin; refine wpList_append_own _ rfl (.tmp 67) (.tmp 69) 43 rfl wc.heap.size 3 ii (.int .i64 0) 1 8 Tryz.underlying43 hii hzi hsi hbi rfl (by decide) _ 0 _ rfl hown ⟨g, off, none⟩ (repF r.1).length c3 (icells (repF r.1)) rfl hrl hnews hone (by unfold maxLen; omega) (by omega) (by simp) ?_))
      intro v' wy hown1 hgrow _
      have hW : Hid (Below wc.heap.size wc wy) := Lib.hid (BL.out.grown hgrow (by simp) (fun k hk => by have := (HOWN.out.lt k hk).1; exact this))
      have hG : Hid (OwnInts wc.heap.size wy v' (repF r.1)) := Lib.hid (by
        unfold OwnInts
        exact hown1)
      obtain ⟨ak, ck, rfl⟩ := hG.out.slice
      clear hown1 hgrow hown hnews
      go_wp2_with fail
      go_meet
      exact ⟨ak, ck, rfl, Lib.hid (FIN.out _ _ _ hW.out hG.out)⟩
  obtain ⟨b2, e2, rfl, hcp⟩ := hcut
  have SX2 := Lib.hid hcp.out.1
  have RA2 := Lib.hid hcp.out.2.1
  clear HMM
  have HMM := Lib.hid hcp.out.2.2
  clear hcp SX1 RA1 cX3
  clear zX
  have zX := lt_of_block SX2.out.res
  have cX1 := cell_of_row _ _ 1 _ _ _ SX2.out.res
  -- copy 3
  go_upto_region 8 with fail
  go_cut [14] from 71 to 75 (fun y wg => ∃ (ak : Option Addr) (ck : Nat), y = .slice ak (repR r.1).length ck ∧ Hid (SX w w5 D O1 O2 X M (diskOf cl) (.slice af fr.length kf) r.2 0 (repD r.1) a1 a2 a3 (repR r.1).length (repC r.1).length (repF r.1).length c1 c2 c3 (.slice ak (repR r.1).length ck) (.slice b1 (repC r.1).length e1) (.slice b2 (repF r.1).length e2) (repR r.1) (repC r.1) (repF r.1) wg ∧ RepAt w5.heap.size wg r.1 a1 a2 a3 c1 c2 c3 ∧ M ≤ wg.heap.size))
  case first =>
    have bL : Below wc.heap.size wc (wc.alloc (.cells #[] 31)) := (Below.refl _ _).alloc (Nat.le_refl _) _
    have hown : (wc.alloc (.cells #[] 31)).ownsRow wc.heap.size 31 3 (.slice (some ⟨wc.heap.size, 0, none⟩) 0 0) 0 [] := World.ownsRow_lit wc #[] 0 (Nat.le_refl _) (Nat.zero_le _) rfl
    have FIN : Hid (∀ (wy : World) (ak : Option Addr) (ck : Nat), Below wc.heap.size wc wy → OwnEnts wc.heap.size wy (.slice ak (repR r.1).length ck) (repR r.1) → SX w w5 D O1 O2 X M (diskOf cl) (.slice af fr.length kf) r.2 0 (repD r.1) a1 a2 a3 (repR r.1).length (repC r.1).length (repF r.1).length c1 c2 c3 (.slice ak (repR r.1).length ck) (.slice b1 (repC r.1).length e1) (.slice b2 (repF r.1).length e2) (repR r.1) (repC r.1) (repF r.1) wy ∧ RepAt w5.heap.size wy r.1 a1 a2 a3 c1 c2 c3 ∧ M ≤ wy.heap.size) := Lib.hid (fun wy ak ck hb ho => ⟨SX2.out.setE hb (by have := HMM.out; exact this) ho, RA2.out.below hb, Nat.le_trans HMM.out hb.size⟩)
    have HOWN := Lib.hid hown
    have BL := Lib.hid bL
    rcases RA2.out.root.at with ⟨h1, h2⟩ | ⟨g, off, c, h1, hc⟩
    · rw [h1] at cX1
      have h0 : Hid ((repR r.1).length = 0) := Lib.hid (by rw [h2]; rfl)
      have H2 := Lib.hid h2
      clear hown bL h1 h2
      go_wp2_with (first | (at_builtin; refine wpList_append_own_none rfl (.tmp 71) (.tmp 74) 22 rfl wc.heap.size 31 ie 3 Tryz.underlying22 hie _ 0 _ rfl HOWN.out rfl ?_))
      go_wp2_with fail
      go_meet
      exact ⟨some ⟨wc.heap.size, 0, none⟩, 0, by rw [h0.out], Lib.hid (FIN.out _ _ _ BL.out (by unfold OwnEnts; rw [H2.out]; exact HOWN.out))⟩
    · obtain ⟨rfl, rfl⟩ : a1 = some ⟨g, off, none⟩ ∧ c1 = c := by injection h1 with e1 e2 e3; exact ⟨e1, e3⟩
      have hnews : ∀ j u, (ecells (repR r.1))[j]? = some u → (wc.alloc (.cells #[] 31)).cell? ((⟨g, off, none⟩ : Addr).add j) = some u := fun j u hu => by
        have e1 : (⟨g, off, none⟩ : Addr).add j = ⟨g, off + j, none⟩ := by unfold Addr.add; split <;> simp_all
        rw [e1]
        exact Lib.cell?_alloc_some _ (hc j u hu)
      have hone := ecells_one (repR r.1)
      have hrl := ecells_length (repR r.1)
      have HH : (repR r.1).length ≤ 1000000 := by have := hlen.out; omega
      clear hc h1 bL
      go_wp2_with (first | (at_builtin; refine wpList_append_own _ rfl (.tmp 71) (.tmp 74) 22 rfl wc.heap.size 31 ie (.agg #[.int .i64 0, .int .i64 0, .int .i64 0]) 3 24 Tryz.underlying22 hie hze hse hbe rfl (by decide) _ 0 _ rfl hown ⟨g, off, none⟩ (repR r.1).length c1 (ecells (repR r.1)) rfl hrl hnews hone (by unfold maxLen; omega) (by omega) (by simp) ?_))
      intro v' wy hown1 hgrow _
      have hW : Hid (Below wc.heap.size wc wy) := Lib.hid (BL.out.grown hgrow (by simp) (fun k hk => by have := (HOWN.out.lt k hk).1; exact this))
      have hG : Hid (OwnEnts wc.heap.size wy v' (repR r.1)) := Lib.hid (by
        unfold OwnEnts
        exact hown1)
      obtain ⟨ak, ck, rfl⟩ := hG.out.slice
      clear hown1 hgrow hown hnews
      go_wp2_with fail
      go_meet
      exact ⟨ak, ck, rfl, Lib.hid (FIN.out _ _ _ hW.out hG.out)⟩
  obtain ⟨b3, e3, rfl, hcp⟩ := hcut
  have SX3 := Lib.hid hcp.out.1
  have RA3 := Lib.hid hcp.out.2.1
  clear HMM
  have HMM := Lib.hid hcp.out.2.2
  clear hcp SX2 RA2 cX1
  clear zX
  have zX := lt_of_block SX3.out.res
  -- END COPIES
  -- LOOPS
  clear RA3 zX
  have hM := HMM.out
  have SX4 := Lib.hid SX3.out
  clear SX3 HMM
  go_wp2_with fail
  go_loopw [15] (fun q wr => ∃ k : Nat, k ≤ (repC r.1).length ∧ q = .int .i64 k ∧ Hid (SX w w5 D O1 O2 X M (diskOf cl) (.slice af fr.length kf) r.2 0 (repD r.1) a1 a2 a3 (repR r.1).length (repC r.1).length (repF r.1).length c1 c2 c3 (.slice b3 (repR r.1).length e3) (.slice b1 (repC r.1).length e1) (.slice b2 (repF r.1).length e2) (repR r.1) (repC r.1) (repF r.1) wr)) (fun q _ => (repC r.1).length - (intOf q).toNat)
  case atStart => exact ⟨0, by omega, rfl, SX4⟩
  case round =>
    clear SX4
    obtain ⟨k, hk, rfl, hst⟩ := hrel
    have cX := cell_of_row _ _ 2 _ _ _ hst.out.res
    by_cases hlt : k < (repC r.1).length
    · obtain ⟨xs, hx⟩ := hst.out.x2
      obtain ⟨g, rfl, hg, cs, hc⟩ := own_form hx (by omega)
      have i0 : (0 : Int) ≤ (k : Int) := by omega
      have i1 : (k : Int) < ((repC r.1).length : Int) := by omega
      have i2 : (k : Int) ≤ 1000000 := by have := hlen.out; omega
      obtain ⟨⟨u0, d0⟩, f0⟩ := own_there hx (k * 2) (by omega)
      obtain ⟨⟨u1, d1⟩, f1⟩ := own_there hx (k * 2 + 1) (by omega)
      have HN := Lib.hid ((hst.out.put2 rfl (k := k * 2) (by omega) (.int .i64 (-9))).put2 rfl (k := k * 2 + 1) (by omega) (.string ⟨#[]⟩))
      clear hx hc hst
      go_wp2_with fail
      go_roundw
      case rel => exact ⟨k + 1, by omega, by go_num, HN⟩
      case measure => simp [intOf]; omega
    · obtain rfl : k = (repC r.1).length := by omega
      clear hlt hk
      have SL1 := Lib.hid hst.out
      clear hst
      go_wp2_with fail
      go_loopw [16] (fun q wr => ∃ k : Nat, k ≤ (repF r.1).length ∧ q = .int .i64 k ∧ Hid (SX w w5 D O1 O2 X M (diskOf cl) (.slice af fr.length kf) r.2 0 (repD r.1) a1 a2 a3 (repR r.1).length (repC r.1).length (repF r.1).length c1 c2 c3 (.slice b3 (repR r.1).length e3) (.slice b1 (repC r.1).length e1) (.slice b2 (repF r.1).length e2) (repR r.1) (repC r.1) (repF r.1) wr)) (fun q _ => (repF r.1).length - (intOf q).toNat)
      case atStart => exact ⟨0, by omega, rfl, SL1⟩
      case round =>
        clear SL1
        obtain ⟨k, hk, rfl, hst⟩ := hrel
        have cX := cell_of_row _ _ 3 _ _ _ hst.out.res
        by_cases hlt : k < (repF r.1).length
        · obtain ⟨xs, hx⟩ := hst.out.x3
          obtain ⟨g, rfl, hg, cs, hc⟩ := own_form hx (by omega)
          have i0 : (0 : Int) ≤ (k : Int) := by omega
          have i1 : (k : Int) < ((repF r.1).length : Int) := by omega
          have i2 : (k : Int) ≤ 1000000 := by have := hlen.out; omega
          obtain ⟨⟨u0, d0⟩, f0⟩ := own_there hx (k) (by omega)
          have HN := Lib.hid (hst.out.put3 rfl (k := k) (by omega) (.int .i64 (-9)))
          clear hx hc hst
          go_wp2_with fail
          go_roundw
          case rel => exact ⟨k + 1, by omega, by go_num, HN⟩
          case measure => simp [intOf]; omega
        · obtain rfl : k = (repF r.1).length := by omega
          clear hlt hk
          have SL2 := Lib.hid hst.out
          clear hst
          go_wp2_with fail
          go_loopw [17] (fun q wr => ∃ k : Nat, k ≤ (repR r.1).length ∧ q = .int .i64 k ∧ Hid (SX w w5 D O1 O2 X M (diskOf cl) (.slice af fr.length kf) r.2 0 (repD r.1) a1 a2 a3 (repR r.1).length (repC r.1).length (repF r.1).length c1 c2 c3 (.slice b3 (repR r.1).length e3) (.slice b1 (repC r.1).length e1) (.slice b2 (repF r.1).length e2) (repR r.1) (repC r.1) (repF r.1) wr)) (fun q _ => (repR r.1).length - (intOf q).toNat)
          case atStart => exact ⟨0, by omega, rfl, SL2⟩
          case round =>
            clear SL2
            obtain ⟨k, hk, rfl, hst⟩ := hrel
            have cX := cell_of_row _ _ 1 _ _ _ hst.out.res
            by_cases hlt : k < (repR r.1).length
            · obtain ⟨xs, hx⟩ := hst.out.x1
              obtain ⟨g, rfl, hg, cs, hc⟩ := own_form hx (by omega)
              have i0 : (0 : Int) ≤ (k : Int) := by omega
              have i1 : (k : Int) < ((repR r.1).length : Int) := by omega
              have i2 : (k : Int) ≤ 1000000 := by have := hlen.out; omega
              obtain ⟨⟨u0, d0⟩, f0⟩ := own_there hx (k * 3) (by omega)
              obtain ⟨⟨u1, d1⟩, f1⟩ := own_there hx (k * 3 + 1) (by omega)
              obtain ⟨⟨u2, d2⟩, f2⟩ := own_there hx (k * 3 + 2) (by omega)
              have HN := Lib.hid (((hst.out.put1 rfl (k := k * 3) (by omega) (.int .i64 0)).put1 rfl (k := k * 3 + 1) (by omega) (.int .i64 0)).put1 rfl (k := k * 3 + 2) (by omega) (.int .i64 (-9)))
              clear hx hc hst
              go_wp2_with fail
              go_roundw
              case rel => exact ⟨k + 1, by omega, by go_num, HN⟩
              case measure => simp [intOf]; omega
            · obtain rfl : k = (repR r.1).length := by omega
              clear hlt hk
              have SL3 := Lib.hid hst.out
              clear hst
              go_upto_region 21 with fail
              go_cut [18, 19] from 113 to 129 (fun y z we => ∃ (Y : Nat) (g1 g2 g3 : Option Addr) (f1 f2 f3 : Nat), y = .pointer (some ⟨Y, 0, none⟩) ∧ z = .int .i64 (repE r.1) ∧ Hid (SX w w5 D O1 O2 X M (diskOf cl) (.slice af fr.length kf) r.2 r.2 (repD r.1) a1 a2 a3 (repR r.1).length (repC r.1).length (repF r.1).length c1 c2 c3 (.slice b3 (repR r.1).length e3) (.slice b1 (repC r.1).length e1) (.slice b2 (repF r.1).length e2) (repR r.1) (repC r.1) (repF r.1) we ∧ SetRow we Y r.1 g1 g2 g3 f1 f2 f3 ∧ RepAt w5.heap.size we r.1 g1 g2 g3 f1 f2 f3))
              case first =>
                -- [[
                have zO2 : O2 < wr.heap.size := lt_of_block SL3.out.base.two
                have zX2 : X < wr.heap.size := lt_of_block SL3.out.res
                have zw : w5.heap.size ≤ wr.heap.size := SL3.out.base.bel.size
                have bA : Below wr.heap.size wr (wr.alloc (.cells #[.int .i64 0, .slice none 0 0, .slice none 0 0, .slice none 0 0] 58)).drew := ((Below.refl _ _).alloc (Nat.le_refl _) _).drew
                have SB0 := Lib.hid (SL3.out.below (Below.refl _ _).drew)
                have SBA := Lib.hid (SL3.out.below bA)
                have NA : Hid ((wr.alloc (.cells #[.int .i64 0, .slice none 0 0, .slice none 0 0, .slice none 0 0] 58)).drew.heap[wr.heap.size]? = some (.cells #[.int .i64 0, .slice none 0 0, .slice none 0 0, .slice none 0 0] 58)) := Lib.hid (heap_alloc_new wr (.cells #[.int .i64 0, .slice none 0 0, .slice none 0 0, .slice none 0 0] 58))
                have hPA : (wr.alloc (.cells #[.int .i64 0, .slice none 0 0, .slice none 0 0, .slice none 0 0] 58)).drew.heap.size = wr.heap.size + 1 := by simp
                have hP0 : wr.drew.heap.size = wr.heap.size := rfl
                have b0 : Below w5.heap.size w5 wr.drew := SB0.out.base.bel
                have bA5 : Below w5.heap.size w5 (wr.alloc (.cells #[.int .i64 0, .slice none 0 0, .slice none 0 0, .slice none 0 0] 58)).drew := SBA.out.base.bel
                go_region_held3 (fun w' => w'.cell? ⟨w.heap.size, 0, none⟩ = some (.int .i64 depth) ∧ w'.cell? ⟨w.heap.size, 1, none⟩ = some (.slice ar root.length cr) ∧ w'.cell? ⟨w.heap.size + 1, 1, none⟩ = some (.int .i64 bad) ∧ w'.cell? ⟨w.heap.size + 1 + 1, 0, none⟩ = some (.int .i64 a) ∧ w'.cell? ⟨w.heap.size + 1 + 1, 1, none⟩ = some (.int .i64 b) ∧ w'.cell? ⟨w.heap.size + 1 + 1, 2, none⟩ = some (.slice al l.length kl))
                  (first | (refine KEEP.out _ ?_; assumption) | exact Z7)
                  (first
                    | (go_at_call 20; (with_reducible refine (reading2_any D bad _).mono ?_); rintro e w6 ⟨rfl, hw6⟩; have Q6 := SBA.out.readP (diskOf_len cl) bad _ hPA w6 hw6; have N6 := read_keep hw6 NA.out; have z6 := read_size hw6; have b6 := Q6.1.base.bel; clear hw6)
                    | (go_at_call 20; (with_reducible refine (reading2_any D bad _).mono ?_); rintro e w6 ⟨rfl, hw6⟩; have Q6 := SB0.out.readP (diskOf_len cl) bad _ hP0 w6 hw6; have z6 := read_size hw6; have b6 := Q6.1.base.bel; have A6 := Q6.1.below ((Below.refl _ _).alloc (Nat.le_refl _) (.cells #[.int .i64 0, .slice none 0 0, .slice none 0 0, .slice none 0 0] 58)); have D6 := Q6.2.below ((Below.refl _ _).alloc (Nat.le_refl _) (.cells #[.int .i64 0, .slice none 0 0, .slice none 0 0, .slice none 0 0] 58)); have b6A := A6.base.bel; have M6 := heap_alloc_new w6 (.cells #[.int .i64 0, .slice none 0 0, .slice none 0 0, .slice none 0 0] 58); clear hw6)
                    | (go_at_call 28; (with_reducible refine (QP2.out _ _ Q6.1.base Q6.2).mono ?_); rintro e w7 ⟨Q7b, o7, g1, g2, g3, f1, f2, f3, rfl, p7⟩; have Q7 := Q6.1.only2 o7 Q7b; have N7 := (o7.block _ (lt_of_block N6) (Nat.ne_of_gt zO2)).trans N6; obtain ⟨k0, k1, k2, k3, j0, j1, j2, j3⟩ := set_cells N7; have X7 := y5_put Q7 N7 zw (Nat.ne_of_lt zX2) p7 b6.size _ rfl; have b7 := Q7.base.bel; have Z7 := KEEP.out _ X7.1.base.bel; unfold put4 at X7 Z7)
                    | (go_at_call 28; (with_reducible refine (QP2.out _ _ A6.base (D6.mono (by simp))).mono ?_); rintro e w7 ⟨Q7b, o7, g1, g2, g3, f1, f2, f3, rfl, p7⟩; have Q7 := A6.only2 o7 Q7b; have N7 := (o7.block _ (lt_of_block M6) (Nat.ne_of_gt (Nat.lt_trans zO2 z6))).trans M6; obtain ⟨k0, k1, k2, k3, j0, j1, j2, j3⟩ := set_cells N7; have X7 := y5_put Q7 N7 b6.size (Nat.ne_of_lt (Nat.lt_trans zX2 z6)) p7 b6A.size _ rfl; have b7 := Q7.base.bel; have Z7 := KEEP.out _ X7.1.base.bel; unfold put4 at X7 Z7)
                    | (go_at_call 28; (with_reducible refine (QP2.out _ _ Q6.1.base Q6.2).mono ?_); rintro e w7 ⟨Q7b, o7, g1, g2, g3, f1, f2, f3, rfl, p7⟩; have Q7 := Q6.1.only2 o7 Q7b; have N7 := heap_alloc_new w7 (.cells #[.int .i64 0, .slice none 0 0, .slice none 0 0, .slice none 0 0] 58); obtain ⟨k0, k1, k2, k3, j0, j1, j2, j3⟩ := set_cells N7; have X7 := y5_new Q7 p7 b6.size _ rfl; have b7 := Q7.base.bel; have b7A := (Q7.below ((Below.refl _ _).alloc (Nat.le_refl _) (.cells #[.int .i64 0, .slice none 0 0, .slice none 0 0, .slice none 0 0] 58))).base.bel; have Z7 := KEEP.out _ X7.1.base.bel)
                    | fail "none")
                all_goals first
                  | (go_meet; exact ⟨_, _, _, _, _, _, _, rfl, rfl, Lib.hid X7⟩)
                  | (go_step; go_meet; exact ⟨_, _, _, _, _, _, _, rfl, rfl, Lib.hid X7⟩)
                  | (go_step; go_step; go_meet; exact ⟨_, _, _, _, _, _, _, rfl, rfl, Lib.hid X7⟩)
                  | fail "no end"
                -- ]]
              obtain ⟨Y, g1, g2, g3, f1, f2, f3, rfl, rfl, hcy⟩ := hcut
              have hl1 : (repR r.1).length ≤ 1000000000 ∧ (repC r.1).length ≤ 1000000000 ∧ (repF r.1).length ≤ 1000000000 := by have := hlen.out; omega
              have qc := Lib.hid (fun (wz : World) (hz : Below wc.heap.size wc wz) => csame_b wz (.slice g2 (repC r.1).length f2) (.slice b1 (repC r.1).length e1) (repC r.1) (hcy.out.2.2.chgs.below hz).at (hcy.out.1.chgs.below hz).at (by omega))
              have qi := Lib.hid (fun (wz : World) (hz : Below wc.heap.size wc wz) => isame_bel wz (.slice g3 (repF r.1).length f3) (.slice b2 (repF r.1).length e2) (repF r.1) (hcy.out.2.2.free.below hz).at (hcy.out.1.free.below hz).at (by omega))
              have qn := Lib.hid (fun (wz : World) (hz : Below wc.heap.size wc wz) => nsame_b wz (.slice g1 (repR r.1).length f1) (.slice b3 (repR r.1).length e3) (repR r.1) (repR r.1) (hcy.out.2.2.root.below hz).at (hcy.out.1.root.below hz).at (by omega) (by omega) true (by simp))
              have hal := Lib.hid (fun w => alive_any w)
              have KEEP7 : Hid (∀ w', Below wc.heap.size wc w' → w'.cell? ⟨O1, 1, none⟩ = some (.int .i64 (r.2 : Int)) ∧ w'.cell? ⟨O2, 1, none⟩ = some (.int .i64 (r.2 : Int)) ∧ w'.cell? ⟨X, 0, none⟩ = some (.int .i64 (repD r.1)) ∧ w'.cell? ⟨Y, 0, none⟩ = some (.int .i64 (repD r.1)) ∧ w'.cell? ⟨Y, 1, none⟩ = some (.slice g1 (repR r.1).length f1) ∧ w'.cell? ⟨Y, 2, none⟩ = some (.slice g2 (repC r.1).length f2) ∧ w'.cell? ⟨Y, 3, none⟩ = some (.slice g3 (repF r.1).length f3)) := Lib.hid (fun wz hz => by
                have h1 := (hz.block _ (lt_of_block hcy.out.1.base.one)).trans hcy.out.1.base.one
                have h2 := (hz.block _ (lt_of_block hcy.out.1.base.two)).trans hcy.out.1.base.two
                have h3 := (hz.block _ (lt_of_block hcy.out.1.res)).trans hcy.out.1.res
                have h4 := (hz.block _ (lt_of_block hcy.out.2.1)).trans hcy.out.2.1
                exact ⟨cell_of_row _ _ 1 _ _ _ h1, cell_of_row _ _ 1 _ _ _ h2, cell_of_row _ _ 0 _ _ _ h3, cell_of_row _ _ 0 _ _ _ h4, cell_of_row _ _ 1 _ _ _ h4, cell_of_row _ _ 2 _ _ _ h4, cell_of_row _ _ 3 _ _ _ h4⟩)
              have BW := Lib.hid hcy.out.1.base.all
              clear hcy hl1 SL3 QP QP2 KEEP hlen
              have b0 : Below wc.heap.size wc wc.drew := (Below.refl _ _).drew
              go_upto_region 22 with fail
              go_region_held3 (fun w' => w'.cell? ⟨O1, 1, none⟩ = some (.int .i64 (r.2 : Int)) ∧ w'.cell? ⟨O2, 1, none⟩ = some (.int .i64 (r.2 : Int)) ∧ w'.cell? ⟨X, 0, none⟩ = some (.int .i64 (repD r.1)) ∧ w'.cell? ⟨Y, 0, none⟩ = some (.int .i64 (repD r.1)) ∧ w'.cell? ⟨Y, 1, none⟩ = some (.slice g1 (repR r.1).length f1) ∧ w'.cell? ⟨Y, 2, none⟩ = some (.slice g2 (repC r.1).length f2) ∧ w'.cell? ⟨Y, 3, none⟩ = some (.slice g3 (repF r.1).length f3))
                (first | (refine KEEP7.out _ ?_; assumption) | fail "no S")
                (first
                  | (go_at_call 30; (with_reducible refine (qc.out _ b0).mono ?_); rintro e wa ⟨rfl, ba⟩; have sa : Below wc.heap.size wc wa := b0.trans (ba.mono b0.size); clear ba)
                  | (go_at_call 23; (with_reducible refine (qi.out _ sa).mono ?_); rintro e wb ⟨rfl, bb⟩; have sb : Below wc.heap.size wc wb := sa.trans (bb.mono sa.size); clear bb)
                  | (go_at_call 14; (with_reducible refine (qn.out _ sb).mono ?_); rintro e wx ⟨rfl, bx⟩; have sx : Below wc.heap.size wc wx := sb.trans (bx.mono sb.size); clear bx)
                  | (go_at_call 16; (with_reducible refine (hal.out _).mono ?_); rintro e wy ⟨rfl, by_⟩; have sy : Below wc.heap.size wc wy := sx.trans (by_.mono sx.size); clear by_)
                  | fail "none")
              all_goals
                have SYY := Lib.hid (BW.out.trans (sy.mono BW.out.size))
                go_wp2_with fail
                go_ret
                exact ⟨rfl, SYY.out⟩

end Go.Proofs.YtgjmeeiejcbjfaaGreat
