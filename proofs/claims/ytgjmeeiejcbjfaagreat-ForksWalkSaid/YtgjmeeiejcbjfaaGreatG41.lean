/- ForksSame: what Replace answers, failed or not, said in one form. ForksSame: the Set's block, the copies, and what overwriting leaves. Trees: what a walk meets is good; how long what a Replace tells is. No program. -/
import Derived.Test.YtgjmeeiejcbjfaaGreatG32
import Derived.Test.YtgjmeeiejcbjfaaGreatG40
import Derived.Test.YtgjmeeiejcbjfaaGreatG37
namespace Go.Proofs.YtgjmeeiejcbjfaaGreat
set_option linter.unusedVariables false
open Go Go.RowKit

def repD (r : Except Int Forks.SetR) : Int := match r with | .ok s => s.depth | .error _ => 0
def repR (r : Except Int Forks.SetR) : EL := match r with | .ok s => s.root | .error _ => []
def repC (r : Except Int Forks.SetR) : CL := match r with | .ok s => s.changes | .error _ => []
def repF (r : Except Int Forks.SetR) : IL := match r with | .ok s => s.freed | .error _ => []
def repE (r : Except Int Forks.SetR) : Int := match r with | .ok _ => 0 | .error k => k
structure RepAt (B : Nat) (w : World) (r : Except Int Forks.SetR) (a1 a2 a3 : Option Addr) (c1 c2 c3 : Nat) : Prop where
  root : OwnEnts B w (.slice a1 (repR r).length c1) (repR r)
  chgs : OwnChgs B w (.slice a2 (repC r).length c2) (repC r)
  free : OwnInts B w (.slice a3 (repF r).length c3) (repF r)
theorem rep_flat {S : Type} {FR : S → World → Prop} {w0 : World} {M : Nat} {r : Except Int Forks.SetR × S} {e : Ending} {w' : World} (h : ReplaceOut FR w0 M r e w') :
    FR r.2 w' ∧ OnlyM M w0 w' ∧ ∃ a1 a2 a3 c1 c2 c3, e = .returned (.tuple #[.agg #[.int .i64 (repD r.1), .slice a1 (repR r.1).length c1, .slice a2 (repC r.1).length c2, .slice a3 (repF r.1).length c3], .int .i64 (repE r.1)]) ∧ RepAt w0.heap.size w' r.1 a1 a2 a3 c1 c2 c3 := by
  obtain ⟨h1, h2, h3⟩ := h
  refine ⟨h1, h2, ?_⟩
  obtain ⟨r1, r2⟩ := r
  cases r1 with
  | error k =>
    obtain ⟨rfl, -⟩ := h3
    exact ⟨none, none, none, 0, 0, 0, rfl, World.ownsRow_nil _ _ _ _, World.ownsRow_nil _ _ _ _, World.ownsRow_nil _ _ _ _⟩
  | ok s =>
    obtain ⟨rv, cv, fv, rfl, o1, o2, o3⟩ := h3
    obtain ⟨a1, c1, rfl⟩ := o1.slice
    obtain ⟨a2, c2, rfl⟩ := o2.slice
    obtain ⟨a3, c3, rfl⟩ := o3.slice
    exact ⟨a1, a2, a3, c1, c2, c3, rfl, o1, o2, o3⟩
theorem zblk_size : zblk.size = 128 := by
  unfold zblk
  simp [txt, ByteArray.size]
theorem putD_mem {x : Int × ByteArray} {B : List ByteArray} {s : ByteArray} (h : s ∈ putD x B) : s ∈ B ∨ s = x.2 := by
  unfold putD at h
  split at h
  · exact (List.mem_or_eq_of_mem_set h)
  · exact .inl h
theorem fold_putD_mem : ∀ (l : CL) (B : List ByteArray) (s : ByteArray), s ∈ l.foldl (fun B x => putD x B) B → s ∈ B ∨ ∃ x ∈ l, s = x.2
  | [], B, s, h => .inl h
  | x :: l, B, s, h => by
    rw [List.foldl_cons] at h
    rcases fold_putD_mem l _ s h with h | ⟨y, hy, rfl⟩
    · rcases putD_mem h with h | rfl
      · exact .inl h
      · exact .inr ⟨x, List.mem_cons_self .., rfl⟩
    · exact .inr ⟨y, List.mem_cons_of_mem _ hy, rfl⟩
theorem diskOf_small {l : CL} (h : greatTo l = false) : ∀ s ∈ diskOf l, s.size ≤ 1000 ∨ s = zblk := fun s hs => by
  rcases fold_putD_mem l _ s hs with h1 | ⟨x, hx, rfl⟩
  · exact .inr (List.mem_replicate.1 h1).2
  · left
    have := List.any_eq_false.1 h x hx
    simpa using this

set_option maxRecDepth 100000 in
/-- Replace, told the fresh ones of one told. -/
theorem rep_told (w : World) (O : Nat) (hO : O < w.heap.size) (afr : Option Addr) (kfr : Nat) (fr : IL) (hT : ToldAt w O (.slice afr fr.length kfr) 0) (hI : IntsBel w.heap.size O w (.slice afr fr.length kfr) fr) (hfr : fr.length ≤ 100)
    (pl pb : Nat) (dk : Forks.Disk) (depth : Int) (rv : Value) (root : EL) (hs : SmallsE root) (h : ExtsAt w rv root) (hl : root.length ≤ 1000000000) (hd : -9223372036854775808 ≤ depth ∧ depth ≤ 9223372036854775807) (hdk : DiskAt w.heap.size w (RDV pl pb) dk) (hds : ∀ b s, dk.rd b = some s → s.size ≤ 140737488351232)
    (a b : Int) (ha : -9223372036854775808 ≤ a ∧ a ≤ 9223372036854775807) (hb : -9223372036854775808 ≤ b ∧ b ≤ 9223372036854775807) (lv : Value) (l : EL) (hsl : SmallsE l) (hL : ExtsAt w lv l) (hll : l.length ≤ 100000) :
    Calls Tryz.prog 28 #[.agg #[.int .i64 depth, rv], RDV pl pb, .int .i64 a, .int .i64 b, lv, .func (.func 29) #[.pointer (some ⟨O, 0, none⟩)] #[]] w fun e w' =>
      ToldAt w' O (.slice afr fr.length kfr) (Forks.replaceT (fun v R k T => Forks.askT (fun k => (toldT fr k, k + 1)) v R k T 0) dk depth root a b l 0).2 ∧ OnlyM O w w' ∧ ∃ a1 a2 a3 c1 c2 c3, e = .returned (.tuple #[.agg #[.int .i64 (repD (Forks.replaceT (fun v R k T => Forks.askT (fun k => (toldT fr k, k + 1)) v R k T 0) dk depth root a b l 0).1), .slice a1 (repR (Forks.replaceT (fun v R k T => Forks.askT (fun k => (toldT fr k, k + 1)) v R k T 0) dk depth root a b l 0).1).length c1, .slice a2 (repC (Forks.replaceT (fun v R k T => Forks.askT (fun k => (toldT fr k, k + 1)) v R k T 0) dk depth root a b l 0).1).length c2, .slice a3 (repF (Forks.replaceT (fun v R k T => Forks.askT (fun k => (toldT fr k, k + 1)) v R k T 0) dk depth root a b l 0).1).length c3], .int .i64 (repE (Forks.replaceT (fun v R k T => Forks.askT (fun k => (toldT fr k, k + 1)) v R k T 0) dk depth root a b l 0).1)]) ∧ RepAt w.heap.size w' (Forks.replaceT (fun v R k T => Forks.askT (fun k => (toldT fr k, k + 1)) v R k T 0) dk depth root a b l 0).1 a1 a2 a3 c1 c2 c3 := by
  refine (replace_any w ((toldFn w.heap.size O (.slice afr fr.length kfr) fr hO (by omega)).ask 0 (by decide)) ⟨hT, hI⟩ (.inl ⟨_, _, rfl⟩) pl pb dk depth rv root hs h hl hd hdk hds a b ha hb lv l hsl hL hll).mono ?_
  intro e w' h
  obtain ⟨h1, h2, h3⟩ := rep_flat h
  exact ⟨h1.1, h2, h3⟩
/-- A world behind w5 in which the disk's texts stand and two told are as they were. -/
structure SBase (w w5 : World) (D O1 O2 : Nat) (L : List ByteArray) (v : Value) (k1 k2 : Nat) (wz : World) : Prop where
  row : Row wz D 9 (L.map .string)
  one : ToldAt wz O1 v k1
  two : ToldAt wz O2 v k2
  bel : Below w5.heap.size w5 wz
  old : Below w.heap.size w w5
  lo1 : w5.heap.size ≤ O1
  lo2 : w5.heap.size ≤ O2
  ne : O1 ≠ O2
  loD : D < w5.heap.size
variable {w w5 wz wy : World} {D O1 O2 k1 k2 : Nat} {L : List ByteArray} {v : Value}
theorem SBase.below (h : SBase w w5 D O1 O2 L v k1 k2 wz) (hb : Below wz.heap.size wz wy) : SBase w w5 D O1 O2 L v k1 k2 wy :=
  ⟨h.row.below hb h.row.lt, (hb.block _ (lt_of_block h.one)).trans h.one, (hb.block _ (lt_of_block h.two)).trans h.two, h.bel.trans (hb.mono h.bel.size), h.old, h.lo1, h.lo2, h.ne, h.loD⟩
theorem SBase.all (h : SBase w w5 D O1 O2 L v k1 k2 wz) : Below w.heap.size w wz := h.old.trans (h.bel.mono h.old.size)
/-- Reading it anew. -/
theorem SBase.read (h : SBase w w5 D O1 O2 L v k1 k2 wz) (hL : L.length = 4096) (bad : Int) :
    SBase w w5 D O1 O2 L v k1 k2 ((wz.alloc (.cells #[.slice (some ⟨D, 0, none⟩) 4096 4096] 40)).alloc (.cells #[.int .i64 bad] 3)) ∧ DiskAt ((wz.alloc (.cells #[.slice (some ⟨D, 0, none⟩) 4096 4096] 40)).alloc (.cells #[.int .i64 bad] 3)).heap.size ((wz.alloc (.cells #[.slice (some ⟨D, 0, none⟩) 4096 4096] 40)).alloc (.cells #[.int .i64 bad] 3)) (RDV wz.heap.size (wz.heap.size + 1)) ⟨L, bad⟩ := by
  have h0 := heap_alloc_new wz (.cells #[.slice (some ⟨D, 0, none⟩) 4096 4096] 40)
  have h1 := heap_alloc_new (wz.alloc (.cells #[.slice (some ⟨D, 0, none⟩) 4096 4096] 40)) (.cells #[.int .i64 bad] 3)
  rw [asz] at h1
  have bA : Below wz.heap.size wz ((wz.alloc (.cells #[.slice (some ⟨D, 0, none⟩) 4096 4096] 40)).alloc (.cells #[.int .i64 bad] 3)) := ((Below.refl _ _).alloc (Nat.le_refl _) _).alloc (by simp) _
  have hb := h.below bA
  refine ⟨hb, wz.heap.size, wz.heap.size + 1, D, 4096, rfl, by simp; omega, by simp, hb.row.lt, by dsimp only; omega, ?_, cell_of_row _ _ 0 _ _ _ h1, fun k s hk => hb.row.cellAt k (by rw [List.getElem?_map, hk]; rfl)⟩
  rw [cell_of_row _ _ 0 _ _ _ (heap_alloc_at h0 _)]
  dsimp only
  rw [hL]
  rfl
theorem SBase.rows (h : SBase w w5 D O1 O2 L v k1 k2 wz) {O : Nat} (hO : w5.heap.size ≤ O) (hb : OnlyM O wz wy) : Row wy D 9 (L.map .string) := by
  obtain ⟨fr, hr, hf⟩ := h.row
  have := h.loD
  exact ⟨fr, (hb.block D (lt_of_block hr) (by omega)).trans hr, hf⟩
theorem SBase.only1 (h : SBase w w5 D O1 O2 L v k1 k2 wz) (hb : OnlyM O1 wz wy) {k : Nat} (ht : ToldAt wy O1 v k) : SBase w w5 D O1 O2 L v k k2 wy :=
  ⟨h.rows h.lo1 hb, ht, (hb.block _ (lt_of_block h.two) (fun e => h.ne e.symm)).trans h.two, h.bel.trans (hb.below h.bel.size h.lo1), h.old, h.lo1, h.lo2, h.ne, h.loD⟩
theorem SBase.only2 (h : SBase w w5 D O1 O2 L v k1 k2 wz) (hb : OnlyM O2 wz wy) {k : Nat} (ht : ToldAt wy O2 v k) : SBase w w5 D O1 O2 L v k1 k wy :=
  ⟨h.rows h.lo2 hb, (hb.block _ (lt_of_block h.one) h.ne).trans h.one, ht, h.bel.trans (hb.below h.bel.size h.lo2), h.old, h.lo1, h.lo2, h.ne, h.loD⟩
set_option maxRecDepth 100000 in
theorem SBase.rep1 {afr : Option Addr} {kfr : Nat} {fr : IL} {k : Nat} (h : SBase w w5 D O1 O2 L (.slice afr fr.length kfr) 0 k wz) (hfr : fr.length ≤ 100) (hF : IntsAt w (.slice afr fr.length kfr) fr) (P : Nat) (dk : Forks.Disk) (hdk : DiskAt wz.heap.size wz (RDV P (P + 1)) dk) (hds : ∀ b s, dk.rd b = some s → s.size ≤ 140737488351232)
    (depth : Int) (rv : Value) (root : EL) (hs : SmallsE root) (hR : ExtsAt w rv root) (hl : root.length ≤ 1000000000) (hd : -9223372036854775808 ≤ depth ∧ depth ≤ 9223372036854775807)
    (a b : Int) (ha : -9223372036854775808 ≤ a ∧ a ≤ 9223372036854775807) (hb : -9223372036854775808 ≤ b ∧ b ≤ 9223372036854775807) (lv : Value) (l : EL) (hsl : SmallsE l) (hL : ExtsAt w lv l) (hll : l.length ≤ 100000)
    (r : Except Int Forks.SetR × Nat) (hr : Forks.replaceT (fun v R k T => Forks.askT (fun k => (toldT fr k, k + 1)) v R k T 0) dk depth root a b l 0 = r) :
    Calls Tryz.prog 28 #[.agg #[.int .i64 depth, rv], RDV P (P + 1), .int .i64 a, .int .i64 b, lv, .func (.func 29) #[.pointer (some ⟨O1, 0, none⟩)] #[]] wz fun e w' =>
      SBase w w5 D O1 O2 L (.slice afr fr.length kfr) r.2 k w' ∧ OnlyM O1 wz w' ∧ ∃ a1 a2 a3 c1 c2 c3, e = .returned (.tuple #[.agg #[.int .i64 (repD r.1), .slice a1 (repR r.1).length c1, .slice a2 (repC r.1).length c2, .slice a3 (repF r.1).length c3], .int .i64 (repE r.1)]) ∧ RepAt wz.heap.size w' r.1 a1 a2 a3 c1 c2 c3 := by
  subst hr
  have hz := h.all.size
  refine (rep_told wz O1 (lt_of_block h.one) afr kfr fr h.one (hF.bel h.all (Nat.le_refl _) (Nat.le_trans h.old.size h.lo1) hz) hfr P (P + 1) dk depth rv root hs (hR.below (B := 0) h.all) hl hd hdk hds a b ha hb lv l hsl (hL.below (B := 0) h.all) hll).mono ?_
  rintro e w' ⟨h1, h2, h3⟩
  exact ⟨h.only1 h2 h1, h2, h3⟩
set_option maxRecDepth 100000 in
theorem SBase.rep2 {afr : Option Addr} {kfr : Nat} {fr : IL} {k : Nat} (h : SBase w w5 D O1 O2 L (.slice afr fr.length kfr) k 0 wz) (hfr : fr.length ≤ 100) (hF : IntsAt w (.slice afr fr.length kfr) fr) (P : Nat) (dk : Forks.Disk) (hdk : DiskAt wz.heap.size wz (RDV P (P + 1)) dk) (hds : ∀ b s, dk.rd b = some s → s.size ≤ 140737488351232)
    (depth : Int) (rv : Value) (root : EL) (hs : SmallsE root) (hR : ExtsAt w rv root) (hl : root.length ≤ 1000000000) (hd : -9223372036854775808 ≤ depth ∧ depth ≤ 9223372036854775807)
    (a b : Int) (ha : -9223372036854775808 ≤ a ∧ a ≤ 9223372036854775807) (hb : -9223372036854775808 ≤ b ∧ b ≤ 9223372036854775807) (lv : Value) (l : EL) (hsl : SmallsE l) (hL : ExtsAt w lv l) (hll : l.length ≤ 100000)
    (r : Except Int Forks.SetR × Nat) (hr : Forks.replaceT (fun v R k T => Forks.askT (fun k => (toldT fr k, k + 1)) v R k T 0) dk depth root a b l 0 = r) :
    Calls Tryz.prog 28 #[.agg #[.int .i64 depth, rv], RDV P (P + 1), .int .i64 a, .int .i64 b, lv, .func (.func 29) #[.pointer (some ⟨O2, 0, none⟩)] #[]] wz fun e w' =>
      SBase w w5 D O1 O2 L (.slice afr fr.length kfr) k r.2 w' ∧ OnlyM O2 wz w' ∧ ∃ a1 a2 a3 c1 c2 c3, e = .returned (.tuple #[.agg #[.int .i64 (repD r.1), .slice a1 (repR r.1).length c1, .slice a2 (repC r.1).length c2, .slice a3 (repF r.1).length c3], .int .i64 (repE r.1)]) ∧ RepAt wz.heap.size w' r.1 a1 a2 a3 c1 c2 c3 := by
  subst hr
  have hz := h.all.size
  refine (rep_told wz O2 (lt_of_block h.two) afr kfr fr h.two (hF.bel h.all (Nat.le_refl _) (Nat.le_trans h.old.size h.lo2) hz) hfr P (P + 1) dk depth rv root hs (hR.below (B := 0) h.all) hl hd hdk hds a b ha hb lv l hsl (hL.below (B := 0) h.all) hll).mono ?_
  rintro e w' ⟨h1, h2, h3⟩
  exact ⟨h.only2 h2 h1, h2, h3⟩

end Go.Proofs.YtgjmeeiejcbjfaaGreat

namespace Go.Proofs.YtgjmeeiejcbjfaaGreat
set_option linter.unusedVariables false
open Go Go.RowKit

variable {w w5 wz wy : World} {D O1 O2 k1 k2 : Nat} {L : List ByteArray} {v : Value}
theorem RepAt.keep {B : Nat} {r : Except Int Forks.SetR} {a1 a2 a3 : Option Addr} {c1 c2 c3 : Nat} (h : RepAt B wz r a1 a2 a3 c1 c2 c3) (hk : ∀ T, T ≠ 58 → KeepT T wz wy) : RepAt B wy r a1 a2 a3 c1 c2 c3 :=
  ⟨own_keepT h.root (hk _ (by decide)), own_keepT h.chgs (hk _ (by decide)), own_keepT h.free (hk _ (by decide))⟩
theorem RepAt.below {B : Nat} {r : Except Int Forks.SetR} {a1 a2 a3 : Option Addr} {c1 c2 c3 : Nat} (h : RepAt B wz r a1 a2 a3 c1 c2 c3) (hb : Below wz.heap.size wz wy) : RepAt B wy r a1 a2 a3 c1 c2 c3 :=
  ⟨h.root.below hb, h.chgs.below hb, h.free.below hb⟩
theorem RepAt.mono {B B' : Nat} {r : Except Int Forks.SetR} {a1 a2 a3 : Option Addr} {c1 c2 c3 : Nat} (h : RepAt B wz r a1 a2 a3 c1 c2 c3) (hb : B' ≤ B) : RepAt B' wz r a1 a2 a3 c1 c2 c3 :=
  ⟨World.ownsRow.mono h.root hb, World.ownsRow.mono h.chgs hb, World.ownsRow.mono h.free hb⟩
/-- What a Set holds that Replace told. -/
def SetRow (w : World) (X : Nat) (r : Except Int Forks.SetR) (a1 a2 a3 : Option Addr) (c1 c2 c3 : Nat) : Prop := w.heap[X]? = some (.cells #[.int .i64 (repD r), .slice a1 (repR r).length c1, .slice a2 (repC r).length c2, .slice a3 (repF r).length c3] 58 (0, 0))
theorem SBase.setAt (h : SBase w w5 D O1 O2 L v k1 k2 wz) {g k : Nat} {u : Value} {cs : Array Value} {T : TypeId} {fr : Nat × Nat} (hg : wz.heap[g]? = some (.cells cs T fr)) (hlo : w5.heap.size ≤ g) (h1 : 9 ≠ T) (h2 : 68 ≠ T) : SBase w w5 D O1 O2 L v k1 k2 (wz.setCell ⟨g, k, none⟩ u) :=
  ⟨h.row.keepT (KeepT.set (a := ⟨g, k, none⟩) hg h1), KeepT.set (a := ⟨g, k, none⟩) hg h2 _ _ _ h.one, KeepT.set (a := ⟨g, k, none⟩) hg h2 _ _ _ h.two, h.bel.setCell hlo _, h.old, h.lo1, h.lo2, h.ne, h.loD⟩
/-- Cells of a block of four. -/
theorem set_cells {X : Nat} {x y z u : Value} {T : TypeId} (h : wz.heap[X]? = some (.cells #[x, y, z, u] T (0, 0))) : wz.cell? ⟨X, 0, none⟩ = some x ∧ wz.cell? ⟨X, 1, none⟩ = some y ∧ wz.cell? ⟨X, 2, none⟩ = some z ∧ wz.cell? ⟨X, 3, none⟩ = some u ∧ wz.frozen? ⟨X, 0, none⟩ = false ∧ wz.frozen? ⟨X, 1, none⟩ = false ∧ wz.frozen? ⟨X, 2, none⟩ = false ∧ wz.frozen? ⟨X, 3, none⟩ = false :=
  ⟨cell_of_row _ _ 0 _ _ _ h, cell_of_row _ _ 1 _ _ _ h, cell_of_row _ _ 2 _ _ _ h, cell_of_row _ _ 3 _ _ _ h, free_zero h 0, free_zero h 1, free_zero h 2, free_zero h 3⟩
theorem read_keep {X : Nat} {o1 o2 ob : Obj} (h : wy = (wz.alloc o1).alloc o2) (hb : wz.heap[X]? = some ob) : wy.heap[X]? = some ob := by subst h; exact heap_alloc_at (heap_alloc_at hb _) _
theorem read_size {o1 o2 : Obj} (h : wy = (wz.alloc o1).alloc o2) : wz.heap.size < wy.heap.size := by subst h; simp; omega
theorem SBase.readP (h : SBase w w5 D O1 O2 L v k1 k2 wz) (hL : L.length = 4096) (bad : Int) (P : Nat) (hP : wz.heap.size = P) (wy : World) (hw : wy = (wz.alloc (.cells #[.slice (some ⟨D, 0, none⟩) 4096 4096] 40)).alloc (.cells #[.int .i64 bad] 3)) :
    SBase w w5 D O1 O2 L v k1 k2 wy ∧ DiskAt wy.heap.size wy (RDV P (P + 1)) ⟨L, bad⟩ := by
  subst hw hP
  exact h.read hL bad
/-- The Set's block is made behind Replace. -/
theorem x5_new {B : Nat} {r : Except Int Forks.SetR} {a1 a2 a3 : Option Addr} {c1 c2 c3 : Nat} (h : SBase w w5 D O1 O2 L v k1 k2 wz) (hr : RepAt B wz r a1 a2 a3 c1 c2 c3) (hB : w5.heap.size ≤ B) (wt : World) (hwt : wz.alloc (.cells #[.int .i64 (repD r), .slice a1 (repR r).length c1, .slice a2 (repC r).length c2, .slice a3 (repF r).length c3] 58) = wt) :
    SBase w w5 D O1 O2 L v k1 k2 wt ∧ SetRow wt wz.heap.size r a1 a2 a3 c1 c2 c3 ∧ RepAt w5.heap.size wt r a1 a2 a3 c1 c2 c3 := by
  subst hwt
  have hb : Below wz.heap.size wz (wz.alloc (.cells #[.int .i64 (repD r), .slice a1 (repR r).length c1, .slice a2 (repC r).length c2, .slice a3 (repF r).length c3] 58)) := (Below.refl _ _).alloc (Nat.le_refl _) _
  exact ⟨h.below hb, heap_alloc_new _ _, (hr.mono hB).below hb⟩
/-- The Set's block was made ahead of it, at X. -/
theorem x5_put {B X : Nat} {r : Except Int Forks.SetR} {a1 a2 a3 : Option Addr} {c1 c2 c3 : Nat} {x y z u : Value} (h : SBase w w5 D O1 O2 L v k1 k2 wz) (hX : wz.heap[X]? = some (.cells #[x, y, z, u] 58 (0, 0))) (hlo : w5.heap.size ≤ X) (hr : RepAt B wz r a1 a2 a3 c1 c2 c3) (hB : w5.heap.size ≤ B)
    (wt : World) (hwt : put4 wz X (.int .i64 (repD r)) (.slice a1 (repR r).length c1) (.slice a2 (repC r).length c2) (.slice a3 (repF r).length c3) = wt) :
    SBase w w5 D O1 O2 L v k1 k2 wt ∧ SetRow wt X r a1 a2 a3 c1 c2 c3 ∧ RepAt w5.heap.size wt r a1 a2 a3 c1 c2 c3 := by
  subst hwt
  obtain ⟨h1, h2⟩ := put4_block (a := .int .i64 (repD r)) (b := .slice a1 (repR r).length c1) (c := .slice a2 (repC r).length c2) (d := .slice a3 (repF r).length c3) hX
  exact ⟨⟨h.row.keepT (h2 _ (by decide)), h2 _ (by decide) _ _ _ h.one, h2 _ (by decide) _ _ _ h.two, h.bel.trans ((put4_below wz _ _ _ _ hlo)), h.old, h.lo1, h.lo2, h.ne, h.loD⟩, h1, (hr.mono hB).keep h2⟩

/-- x's Set, its rows (whatever they hold), and the copies. -/
structure SX (w w5 : World) (D O1 O2 X M : Nat) (L : List ByteArray) (v : Value) (k1 k2 : Nat) (d : Int) (a1 a2 a3 : Option Addr) (n1 n2 n3 c1 c2 c3 : Nat) (rv cv fv : Value) (R : EL) (C : CL) (F : IL) (wz : World) : Prop where
  base : SBase w w5 D O1 O2 L v k1 k2 wz
  res : wz.heap[X]? = some (.cells #[.int .i64 d, .slice a1 n1 c1, .slice a2 n2 c2, .slice a3 n3 c3] 58 (0, 0))
  x1 : ∃ xs, wz.ownsRow w5.heap.size 31 3 (.slice a1 n1 c1) n1 xs
  x2 : ∃ xs, wz.ownsRow w5.heap.size 72 2 (.slice a2 n2 c2) n2 xs
  x3 : ∃ xs, wz.ownsRow w5.heap.size 3 1 (.slice a3 n3 c3) n3 xs
  hi1 : ∀ g, a1 = some g → g.block < M
  hi2 : ∀ g, a2 = some g → g.block < M
  hi3 : ∀ g, a3 = some g → g.block < M
  root : OwnEnts M wz rv R
  chgs : OwnChgs M wz cv C
  free : OwnInts M wz fv F
section
variable {X M n1 n2 n3 c1 c2 c3 : Nat} {d : Int} {a1 a2 a3 : Option Addr} {rv cv fv : Value} {R : EL} {C : CL} {F : IL}
theorem SX.below (h : SX w w5 D O1 O2 X M L v k1 k2 d a1 a2 a3 n1 n2 n3 c1 c2 c3 rv cv fv R C F wz) (hb : Below wz.heap.size wz wy) : SX w w5 D O1 O2 X M L v k1 k2 d a1 a2 a3 n1 n2 n3 c1 c2 c3 rv cv fv R C F wy := by
  have own : ∀ {B T sz a n xs}, wz.ownsRow B T sz a n xs → wy.ownsRow B T sz a n xs := fun h => ⟨h.1, h.2.imp id (fun ⟨g', cap, cur, hv, hg', hh, r⟩ => ⟨g', cap, cur, hv, hg', by rw [hb.block _ (lt_of_block hh)]; exact hh, r⟩)⟩
  exact ⟨h.base.below hb, (hb.block _ (lt_of_block h.res)).trans h.res, h.x1.imp fun _ => own, h.x2.imp fun _ => own, h.x3.imp fun _ => own, h.hi1, h.hi2, h.hi3, own h.root, own h.chgs, own h.free⟩
theorem SX.only2 (h : SX w w5 D O1 O2 X M L v k1 k2 d a1 a2 a3 n1 n2 n3 c1 c2 c3 rv cv fv R C F wz) (hb : OnlyM O2 wz wy) {k : Nat} (hbase : SBase w w5 D O1 O2 L v k1 k wy) : SX w w5 D O1 O2 X M L v k1 k d a1 a2 a3 n1 n2 n3 c1 c2 c3 rv cv fv R C F wy := by
  have hk : ∀ {T}, T ≠ 68 → KeepT T wz wy := fun hT => hb.keepS h.base.two hT
  exact ⟨hbase, hk (by decide) _ _ _ h.res, h.x1.imp fun _ => (own_keepT · (hk (by decide))), h.x2.imp fun _ => (own_keepT · (hk (by decide))), h.x3.imp fun _ => (own_keepT · (hk (by decide))), h.hi1, h.hi2, h.hi3, own_keepT h.root (hk (by decide)), own_keepT h.chgs (hk (by decide)), own_keepT h.free (hk (by decide))⟩
theorem SX.put2 (h : SX w w5 D O1 O2 X M L v k1 k2 d a1 a2 a3 n1 n2 n3 c1 c2 c3 rv cv fv R C F wz) {g k : Nat} (ha : a2 = some ⟨g, 0, none⟩) (hk : k < n2 * 2) (u : Value) : SX w w5 D O1 O2 X M L v k1 k2 d a1 a2 a3 n1 n2 n3 c1 c2 c3 rv cv fv R C F (wz.setCell ⟨g, k, none⟩ u) := by
  subst ha
  obtain ⟨xs, hx⟩ := h.x2
  obtain ⟨g', e, hg, cs, hc⟩ := own_form hx (by omega)
  cases e
  have hM : g < M := h.hi2 _ rfl
  have kp : ∀ {T}, T ≠ 72 → KeepT T wz (wz.setCell ⟨g, k, none⟩ u) := fun hT => KeepT.set (a := ⟨g, k, none⟩) hc hT
  exact ⟨h.base.setAt hc hg (by decide) (by decide), kp (by decide) _ _ _ h.res, h.x1.imp fun _ => (own_keepT · (kp (by decide))), ⟨_, ownsRow_set hx k hk u⟩, h.x3.imp fun _ => (own_keepT · (kp (by decide))), h.hi1, h.hi2, h.hi3, own_setAt u h.root hM, own_setAt u h.chgs hM, own_setAt u h.free hM⟩
theorem SX.put3 (h : SX w w5 D O1 O2 X M L v k1 k2 d a1 a2 a3 n1 n2 n3 c1 c2 c3 rv cv fv R C F wz) {g k : Nat} (ha : a3 = some ⟨g, 0, none⟩) (hk : k < n3 * 1) (u : Value) : SX w w5 D O1 O2 X M L v k1 k2 d a1 a2 a3 n1 n2 n3 c1 c2 c3 rv cv fv R C F (wz.setCell ⟨g, k, none⟩ u) := by
  subst ha
  obtain ⟨xs, hx⟩ := h.x3
  obtain ⟨g', e, hg, cs, hc⟩ := own_form hx (by omega)
  cases e
  have hM : g < M := h.hi3 _ rfl
  have kp : ∀ {T}, T ≠ 3 → KeepT T wz (wz.setCell ⟨g, k, none⟩ u) := fun hT => KeepT.set (a := ⟨g, k, none⟩) hc hT
  exact ⟨h.base.setAt hc hg (by decide) (by decide), kp (by decide) _ _ _ h.res, h.x1.imp fun _ => (own_keepT · (kp (by decide))), h.x2.imp fun _ => (own_keepT · (kp (by decide))), ⟨_, ownsRow_set hx k hk u⟩, h.hi1, h.hi2, h.hi3, own_setAt u h.root hM, own_setAt u h.chgs hM, own_setAt u h.free hM⟩
theorem SX.put1 (h : SX w w5 D O1 O2 X M L v k1 k2 d a1 a2 a3 n1 n2 n3 c1 c2 c3 rv cv fv R C F wz) {g k : Nat} (ha : a1 = some ⟨g, 0, none⟩) (hk : k < n1 * 3) (u : Value) : SX w w5 D O1 O2 X M L v k1 k2 d a1 a2 a3 n1 n2 n3 c1 c2 c3 rv cv fv R C F (wz.setCell ⟨g, k, none⟩ u) := by
  subst ha
  obtain ⟨xs, hx⟩ := h.x1
  obtain ⟨g', e, hg, cs, hc⟩ := own_form hx (by omega)
  cases e
  have hM : g < M := h.hi1 _ rfl
  have kp : ∀ {T}, T ≠ 31 → KeepT T wz (wz.setCell ⟨g, k, none⟩ u) := fun hT => KeepT.set (a := ⟨g, k, none⟩) hc hT
  exact ⟨h.base.setAt hc hg (by decide) (by decide), kp (by decide) _ _ _ h.res, ⟨_, ownsRow_set hx k hk u⟩, h.x2.imp fun _ => (own_keepT · (kp (by decide))), h.x3.imp fun _ => (own_keepT · (kp (by decide))), h.hi1, h.hi2, h.hi3, own_setAt u h.root hM, own_setAt u h.chgs hM, own_setAt u h.free hM⟩
/-- Ahead of the copies. -/
theorem SX.start {r : Except Int Forks.SetR} (hb : SBase w w5 D O1 O2 L v k1 k2 wz) (hs : SetRow wz X r a1 a2 a3 c1 c2 c3) (hr : RepAt w5.heap.size wz r a1 a2 a3 c1 c2 c3) : SX w w5 D O1 O2 X wz.heap.size L v k1 k2 (repD r) a1 a2 a3 (repR r).length (repC r).length (repF r).length c1 c2 c3 (.slice none 0 0) (.slice none 0 0) (.slice none 0 0) [] [] [] wz := by
  have lt : ∀ {B sz n c : Nat} {T : TypeId} {a : Option Addr} {xs : List Value}, wz.ownsRow B T sz (.slice a n c) n xs → ∀ g, a = some g → g.block < wz.heap.size := fun h g hg => by
    subst hg
    rcases h.2 with ⟨h1, _⟩ | ⟨g', cap, cur, hv, _, hh, _⟩
    · cases h1
    · cases hv
      exact lt_of_block hh
  exact ⟨hb, hs, ⟨_, hr.root⟩, ⟨_, hr.chgs⟩, ⟨_, hr.free⟩, lt hr.root, lt hr.chgs, lt hr.free, World.ownsRow_nil _ _ _ _, World.ownsRow_nil _ _ _ _, World.ownsRow_nil _ _ _ _⟩
theorem SX.setC (h : SX w w5 D O1 O2 X M L v k1 k2 d a1 a2 a3 n1 n2 n3 c1 c2 c3 rv cv fv R C F wz) (hb : Below wz.heap.size wz wy) (hM : M ≤ wz.heap.size) {cv' : Value} {C' : CL} (ho : OwnChgs wz.heap.size wy cv' C') : SX w w5 D O1 O2 X M L v k1 k2 d a1 a2 a3 n1 n2 n3 c1 c2 c3 rv cv' fv R C' F wy :=
  { h.below hb with chgs := World.ownsRow.mono ho hM }
theorem SX.setF (h : SX w w5 D O1 O2 X M L v k1 k2 d a1 a2 a3 n1 n2 n3 c1 c2 c3 rv cv fv R C F wz) (hb : Below wz.heap.size wz wy) (hM : M ≤ wz.heap.size) {fv' : Value} {F' : IL} (ho : OwnInts wz.heap.size wy fv' F') : SX w w5 D O1 O2 X M L v k1 k2 d a1 a2 a3 n1 n2 n3 c1 c2 c3 rv cv fv' R C F' wy :=
  { h.below hb with free := World.ownsRow.mono ho hM }
theorem SX.setE (h : SX w w5 D O1 O2 X M L v k1 k2 d a1 a2 a3 n1 n2 n3 c1 c2 c3 rv cv fv R C F wz) (hb : Below wz.heap.size wz wy) (hM : M ≤ wz.heap.size) {rv' : Value} {R' : EL} (ho : OwnEnts wz.heap.size wy rv' R') : SX w w5 D O1 O2 X M L v k1 k2 d a1 a2 a3 n1 n2 n3 c1 c2 c3 rv' cv fv R' C F wy :=
  { h.below hb with root := World.ownsRow.mono ho hM }
/-- Reading it anew, with all that. -/
theorem SX.readP (h : SX w w5 D O1 O2 X M L v k1 k2 d a1 a2 a3 n1 n2 n3 c1 c2 c3 rv cv fv R C F wz) (hL : L.length = 4096) (bad : Int) (P : Nat) (hP : wz.heap.size = P) (wy : World) (hw : wy = (wz.alloc (.cells #[.slice (some ⟨D, 0, none⟩) 4096 4096] 40)).alloc (.cells #[.int .i64 bad] 3)) :
    SX w w5 D O1 O2 X M L v k1 k2 d a1 a2 a3 n1 n2 n3 c1 c2 c3 rv cv fv R C F wy ∧ DiskAt wy.heap.size wy (RDV P (P + 1)) ⟨L, bad⟩ := by
  obtain ⟨h1, h2⟩ := h.base.readP hL bad P hP wy hw
  subst hw
  exact ⟨h.below (((Below.refl _ _).alloc (Nat.le_refl _) _).alloc (by simp) _), h2⟩
theorem y5_new {B : Nat} {r : Except Int Forks.SetR} {e1 e2 e3 : Option Addr} {f1 f2 f3 : Nat} (h : SX w w5 D O1 O2 X M L v k1 k2 d a1 a2 a3 n1 n2 n3 c1 c2 c3 rv cv fv R C F wz) (hr : RepAt B wz r e1 e2 e3 f1 f2 f3) (hB : w5.heap.size ≤ B) (wt : World) (hwt : wz.alloc (.cells #[.int .i64 (repD r), .slice e1 (repR r).length f1, .slice e2 (repC r).length f2, .slice e3 (repF r).length f3] 58) = wt) :
    SX w w5 D O1 O2 X M L v k1 k2 d a1 a2 a3 n1 n2 n3 c1 c2 c3 rv cv fv R C F wt ∧ SetRow wt wz.heap.size r e1 e2 e3 f1 f2 f3 ∧ RepAt w5.heap.size wt r e1 e2 e3 f1 f2 f3 := by
  subst hwt
  have hb : Below wz.heap.size wz (wz.alloc (.cells #[.int .i64 (repD r), .slice e1 (repR r).length f1, .slice e2 (repC r).length f2, .slice e3 (repF r).length f3] 58)) := (Below.refl _ _).alloc (Nat.le_refl _) _
  exact ⟨h.below hb, heap_alloc_new _ _, (hr.mono hB).below hb⟩
theorem put4_other {Y b : Nat} {x y z u : Value} (hb : b ≠ Y) : (put4 wz Y x y z u).heap[b]? = wz.heap[b]? := by
  unfold put4
  rw [Below.heap_setCell _ _ _ _ hb, Below.heap_setCell _ _ _ _ hb, Below.heap_setCell _ _ _ _ hb, Below.heap_setCell _ _ _ _ hb]
theorem y5_put {B Y : Nat} {r : Except Int Forks.SetR} {e1 e2 e3 : Option Addr} {f1 f2 f3 : Nat} {x y z u : Value} (h : SX w w5 D O1 O2 X M L v k1 k2 d a1 a2 a3 n1 n2 n3 c1 c2 c3 rv cv fv R C F wz) (hY : wz.heap[Y]? = some (.cells #[x, y, z, u] 58 (0, 0))) (hlo : w5.heap.size ≤ Y) (hXY : X ≠ Y) (hr : RepAt B wz r e1 e2 e3 f1 f2 f3) (hB : w5.heap.size ≤ B)
    (wt : World) (hwt : put4 wz Y (.int .i64 (repD r)) (.slice e1 (repR r).length f1) (.slice e2 (repC r).length f2) (.slice e3 (repF r).length f3) = wt) :
    SX w w5 D O1 O2 X M L v k1 k2 d a1 a2 a3 n1 n2 n3 c1 c2 c3 rv cv fv R C F wt ∧ SetRow wt Y r e1 e2 e3 f1 f2 f3 ∧ RepAt w5.heap.size wt r e1 e2 e3 f1 f2 f3 := by
  obtain ⟨h1, h2, h3⟩ := x5_put h.base hY hlo hr hB wt hwt
  subst hwt
  obtain ⟨-, hk⟩ := put4_block (a := .int .i64 (repD r)) (b := .slice e1 (repR r).length f1) (c := .slice e2 (repC r).length f2) (d := .slice e3 (repF r).length f3) hY
  exact ⟨⟨h1, (put4_other hXY).trans h.res, h.x1.imp fun _ => (own_keepT · (hk _ (by decide))), h.x2.imp fun _ => (own_keepT · (hk _ (by decide))), h.x3.imp fun _ => (own_keepT · (hk _ (by decide))), h.hi1, h.hi2, h.hi3, own_keepT h.root (hk _ (by decide)), own_keepT h.chgs (hk _ (by decide)), own_keepT h.free (hk _ (by decide))⟩, h2, h3⟩
end

end Go.Proofs.YtgjmeeiejcbjfaaGreat

namespace Go.Proofs.YtgjmeeiejcbjfaaGreat.Forks
set_option linter.unusedVariables false
open Go.Proofs.YtgjmeeiejcbjfaaGreat

/-- Entries that lead to nodes. -/
def LeadsIn (l : EL) : Prop := ∀ x ∈ l, 1 ≤ x.2.1 ∧ x.2.1 ≤ 4095
theorem row_leadsIn {l : EL} (h : Ents.Row false l) : LeadsIn l := fun x hx => by
  have := h.may x hx
  unfold Ents.may at this
  have := of_decide_eq_true this
  unfold Ents.mayN at this
  omega
theorem nodeW_ok' {d : Disk} {child : EL → V → Except Int V} {h : Nat} {x : E} {v v' : V} (he : nodeW d child h x v = .ok v') :
    has v x.2.1.toNat = false ∧ ∃ s l leaf, d.rd x.2.1.toNat = some s ∧ Ents.dec s.data.toList = some (l, leaf) ∧ leaf = (h == 1) ∧ (l.getD 0 (0, 0, 0)).1 = x.1 ∧ (if leaf = true then .ok (v ++ [⟨x.2.1.toNat, h, l, s⟩]) else child l (v ++ [⟨x.2.1.toNat, h, l, s⟩])) = Except.ok v' := by
  unfold nodeW at he
  split at he
  · cases he
  · rename_i hh
    refine ⟨by simpa using hh, ?_⟩
    split at he
    · cases he
    · rename_i s hs
      split at he
      · cases he
      · rename_i l leaf hd
        split at he
        · cases he
        · rename_i hn
          have h1 : leaf = (h == 1) := Decidable.byContradiction fun h => hn (.inl h)
          have h2 : (l.getD 0 (0, 0, 0)).1 = x.1 := Decidable.byContradiction fun h => hn (.inr h)
          exact ⟨s, l, leaf, hs, hd, h1, h2, he⟩
theorem foldW_ok {f : E → V → Except Int V} {P : V → Prop} {Q : E → Prop} (hf : ∀ x v v', Q x → P v → f x v = .ok v' → P v') : ∀ (l : EL) (v v' : V), (∀ x ∈ l, Q x) → P v → foldW f l v = .ok v' → P v'
  | [], v, v', _, hp, he => by unfold foldW at he; cases he; exact hp
  | x :: l, v, v', hq, hp, he => by
    unfold foldW at he
    split at he
    · cases he
    · rename_i u hu
      exact foldW_ok hf l u v' (fun y hy => hq y (by simp [hy])) (hf x v u (hq x (by simp)) hp hu) he
theorem allW_good (d : Disk) : ∀ (h : Nat) (l : EL) (v v' : V), LeadsIn l → Good v → allW d h l v = .ok v' → Good v'
  | 0, l, v, v', _, hg, he => by unfold allW at he; cases he; exact hg
  | h + 1, l, v, v', hl, hg, he => by
    unfold allW at he
    refine foldW_ok (P := Good) (Q := fun x => 1 ≤ x.2.1 ∧ x.2.1 ≤ 4095) (fun x v v' hx hg he => ?_) l v v' hl hg he
    obtain ⟨hh, s, m, leaf, hs, hd, h1, h2, h3⟩ := nodeW_ok' he
    have hg' : Good (v ++ [⟨x.2.1.toNat, h + 1, m, s⟩]) := hg.snoc (by dsimp only; omega) (by dsimp only; omega) (by dsimp only; rw [hd, h1]) hh
    split at h3
    · cases h3; exact hg'
    · rename_i hlf
      have hr := (Ents.dec_some hd).1.2.2
      rw [show leaf = false by simpa using hlf] at hr
      exact allW_good d h m _ v' (row_leadsIn hr) hg' h3
theorem walkT_good {d : Disk} {depth : Int} {root : EL} {v : V} {R : EL} (h : walkT d depth root = .ok (v, R)) : Good v := by
  obtain ⟨hok, -, -⟩ := walkT_okr h
  by_cases h0 : depth = 0
  · subst h0
    rw [walkT_zero d root hok] at h
    split at h
    · cases h; exact Good.nil
    · cases h
  · obtain ⟨n, rfl⟩ : ∃ n : Nat, depth = (n : Int) := ⟨depth.toNat, by have := hok.1; omega⟩
    have hr := hok.2.2.2.2
    rw [show (((n : Nat) : Int) == 0) = false by simpa using h0] at hr
    rw [walkT_pos d n root hok (by omega)] at h
    split at h
    · cases h
    · rename_i u hu
      split at h
      · cases h; exact allW_good d _ _ _ _ (row_leadsIn hr) Good.nil hu
      · cases h
set_option maxRecDepth 100000 in
theorem setT_len {v : V} {LV : List (List Node)} {root : EL} {T : IL} {s : SetR} (h : setT v LV root T = .ok s) : s.changes.length ≤ 4096 ∧ s.freed.length ≤ 4096 ∧ s.root.length = root.length := by
  unfold setT at h
  split at h
  · cases h
  · cases h
    refine ⟨chT_len _ _ _, frT_len _ _ _, ?_⟩
    dsimp only
    unfold knownT
    split <;> simp
theorem replaceT_len {S : Type} (ak : V → EL → Nat → IL → (Int × IL) × S) (dk : Disk) (depth : Int) (root : EL) (a b : Int) (l : EL) (s : S) : (repC (replaceT ak dk depth root a b l s).1).length ≤ 4096 ∧ (repF (replaceT ak dk depth root a b l s).1).length ≤ 4096 ∧ (repR (replaceT ak dk depth root a b l s).1).length ≤ 1000000 := by
  unfold replaceT
  split
  · exact ⟨by simp [repC], by simp [repF], by simp [repR]⟩
  · rename_i hf
    split
    · exact ⟨by simp [repC], by simp [repF], by simp [repR]⟩
    · rename_i x hx
      split
      · exact ⟨by simp [repC], by simp [repF], by simp [repR]⟩
      · obtain ⟨hok, hrow, -⟩ := walkT_okr (v := x.1) (R := x.2) hx
        have hg := walkT_good (v := x.1) (R := x.2) hx
        have hrr := repl_row hrow (by simpa using hf)
        have hlen := row_len hrr
        have hd : depth.toNat ≤ 4 := by have := hok.2.1; omega
        unfold replaceV
        dsimp only
        split
        · rename_i hak
          generalize (ak x.1 (replT x.2 a b l) ((pick (lvls x.1 depth.toNat) (replT x.2 a b l)).2 + 1 - ((known x.1 (lvls x.1 depth.toNat) (replT x.2 a b l)).length + 1)) (0 :: known x.1 (lvls x.1 depth.toNat) (replT x.2 a b l))) = rr
          dsimp only
          have hpl : (pick (lvls x.1 depth.toNat) (replT x.2 a b l)).1.2.length ≤ 1000000 := by
            unfold pick
            split
            · have hc := shape_chain [] (replT x.2 a b l) 0
              have hb := shape_bounds [] ⟨by simp, (fun L hL => by cases hL), (fun L hL => by cases hL)⟩ (replT x.2 a b l) (by omega)
              exact chain_root_len hc (by omega) hb.2.2
            · have hc := shape_chain (lvls x.1 depth.toNat) (replT x.2 a b l) 0
              have hb := shape_bounds (lvls x.1 depth.toNat) (lvls_ok hg _ hd).1 (replT x.2 a b l) (by omega)
              exact chain_root_len hc (by omega) hb.2.2
          cases hs : setT x.1 (pick (lvls x.1 depth.toNat) (replT x.2 a b l)).1.1 (pick (lvls x.1 depth.toNat) (replT x.2 a b l)).1.2 rr.1.2 with
          | error k => exact ⟨by simp [repC], by simp [repF], by simp [repR]⟩
          | ok t =>
            have := setT_len hs
            exact ⟨this.1, this.2.1, by show t.root.length ≤ _; rw [this.2.2]; exact hpl⟩
        · exact ⟨by simp [repC], by simp [repF], by simp [repR]⟩

end Go.Proofs.YtgjmeeiejcbjfaaGreat.Forks
