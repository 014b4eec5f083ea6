/- ForksSame: what Replace answers, failed or not, said in one form. -/
import Derived.Test.YtgjmeeiejcbjfaaGreatF32
import Derived.Test.YtgjmeeiejcbjfaaGreatF40
import Derived.Test.YtgjmeeiejcbjfaaGreatF37
set_option linter.unusedSimpArgs false
set_option linter.unusedVariables false
namespace Go.Proofs.YtgjmeeiejcbjfaaGreat
open Go Go.RowKit
def repD (r : Except Int Forks.SetR) : Int := match r with | .ok s => s.depth | .error _ => 0
def repR (r : Except Int Forks.SetR) : EL := match r with | .ok s => s.root | .error _ => []
def repC (r : Except Int Forks.SetR) : CL := match r with | .ok s => s.changes | .error _ => []
def repF (r : Except Int Forks.SetR) : IL := match r with | .ok s => s.freed | .error _ => []
def repE (r : Except Int Forks.SetR) : Int := match r with | .ok _ => 0 | .error k => k
structure RepAt (B : Nat) (w : World) (r : Except Int Forks.SetR) (a1 a2 a3 : Option Addr) (c1 c2 c3 : Nat) : Prop where
 root : OwnEnts B w (.slice a1 (repR r).length c1) (repR r)
 chgs : OwnChgs B w (.slice a2 (repC r).length c2) (repC r)
 free : OwnInts B w (.slice a3 (repF r).length c3) (repF r)
theorem rep_flat {S : Type} {FR : S → World → Prop} {w0 : World} {M : Nat} {r : Except Int Forks.SetR × S} {e : Ending} {w' : World} (h : ReplaceOut FR w0 M r e w') :
  FR r.2 w' ∧ OnlyM M w0 w' ∧ ∃ a1 a2 a3 c1 c2 c3, e = .returned (.tuple #[.agg #[.int .i64 (repD r.1), .slice a1 (repR r.1).length c1, .slice a2 (repC r.1).length c2, .slice a3 (repF r.1).length c3], .int .i64 (repE r.1)]) ∧ RepAt w0.heap.size w' r.1 a1 a2 a3 c1 c2 c3 := by
 obtain ⟨h1, h2, h3⟩ := h
 refine ⟨h1, h2, ?_⟩
 obtain ⟨r1, r2⟩ := r
 cases r1 with
 | error k =>
  obtain ⟨rfl, -⟩ := h3
  exact ⟨none, none, none, 0, 0, 0, rfl, World.ownsRow_nil _ _ _ _, World.ownsRow_nil _ _ _ _, World.ownsRow_nil _ _ _ _⟩
 | ok s =>
  obtain ⟨rv, cv, fv, rfl, o1, o2, o3⟩ := h3
  obtain ⟨a1, c1, rfl⟩ := o1.slice
  obtain ⟨a2, c2, rfl⟩ := o2.slice
  obtain ⟨a3, c3, rfl⟩ := o3.slice
  exact ⟨a1, a2, a3, c1, c2, c3, rfl, o1, o2, o3⟩
theorem zblk_size : zblk.size = 128 := by
 unfold zblk
 simp [txt, ByteArray.size]
theorem putD_mem {x : Int × ByteArray} {B : List ByteArray} {s : ByteArray} (h : s ∈ putD x B) : s ∈ B ∨ s = x.2 := by
 unfold putD at h
 split at h
 ·exact (List.mem_or_eq_of_mem_set h)
 ·exact .inl h
theorem fold_putD_mem : ∀ (l : CL) (B : List ByteArray) (s : ByteArray), s ∈ l.foldl (fun B x => putD x B) B → s ∈ B ∨ ∃ x ∈ l, s = x.2
 | [], B, s, h => .inl h
 | x :: l, B, s, h => by
  rw [List.foldl_cons] at h
  rcases fold_putD_mem l _ s h with h | ⟨y, hy, rfl⟩
  ·rcases putD_mem h with h | rfl
   ·exact .inl h
   ·exact .inr ⟨x, List.mem_cons_self .., rfl⟩
  ·exact .inr ⟨y, List.mem_cons_of_mem _ hy, rfl⟩
theorem diskOf_small {l : CL} (h : greatTo l = false) : ∀ s ∈ diskOf l, s.size ≤ 1000 ∨ s = zblk := fun s hs => by
 rcases fold_putD_mem l _ s hs with h1 | ⟨x, hx, rfl⟩
 ·exact .inr (List.mem_replicate.1 h1).2
 ·left
  have := List.any_eq_false.1 h x hx
  simpa using this
structure SBase (w w5 : World) (D O1 O2 : Nat) (L : List ByteArray) (v : Value) (k1 k2 : Nat) (wz : World) : Prop where
 row : Row wz D 9 (L.map .string)
 one : ToldAt wz O1 v k1
 two : ToldAt wz O2 v k2
 bel : Below w5.heap.size w5 wz
 old : Below w.heap.size w w5
 lo1 : w5.heap.size ≤ O1
 lo2 : w5.heap.size ≤ O2
 ne : O1 ≠ O2
 loD : D < w5.heap.size
variable {w w5 wz wy : World} {D O1 O2 k1 k2 : Nat} {L : List ByteArray} {v : Value}
theorem SBase.below (h : SBase w w5 D O1 O2 L v k1 k2 wz) (hb : Below wz.heap.size wz wy) : SBase w w5 D O1 O2 L v k1 k2 wy :=
 ⟨h.row.below hb h.row.lt, (hb.block _ (lt_of_block h.one)).trans h.one, (hb.block _ (lt_of_block h.two)).trans h.two, h.bel.trans (hb.mono h.bel.size), h.old, h.lo1, h.lo2, h.ne, h.loD⟩
theorem SBase.all (h : SBase w w5 D O1 O2 L v k1 k2 wz) : Below w.heap.size w wz := h.old.trans (h.bel.mono h.old.size)
theorem SBase.read (h : SBase w w5 D O1 O2 L v k1 k2 wz) (hL : L.length = 4096) (bad : Int) :
  SBase w w5 D O1 O2 L v k1 k2 ((wz.alloc (.cells #[.slice (some ⟨D, 0, none⟩) 4096 4096] 40)).alloc (.cells #[.int .i64 bad] 3)) ∧ DiskAt ((wz.alloc (.cells #[.slice (some ⟨D, 0, none⟩) 4096 4096] 40)).alloc (.cells #[.int .i64 bad] 3)).heap.size ((wz.alloc (.cells #[.slice (some ⟨D, 0, none⟩) 4096 4096] 40)).alloc (.cells #[.int .i64 bad] 3)) (RDV wz.heap.size (wz.heap.size + 1)) ⟨L, bad⟩ := by
 have h0 := heap_alloc_new wz (.cells #[.slice (some ⟨D, 0, none⟩) 4096 4096] 40)
 have h1 := heap_alloc_new (wz.alloc (.cells #[.slice (some ⟨D, 0, none⟩) 4096 4096] 40)) (.cells #[.int .i64 bad] 3)
 rw [asz] at h1
 have bA : Below wz.heap.size wz ((wz.alloc (.cells #[.slice (some ⟨D, 0, none⟩) 4096 4096] 40)).alloc (.cells #[.int .i64 bad] 3)) := ((Below.refl _ _).alloc (Nat.le_refl _) _).alloc (by simp) _
 have hb := h.below bA
 refine ⟨hb, wz.heap.size, wz.heap.size + 1, D, 4096, rfl, by simp; omega, by simp, hb.row.lt, by dsimp only; omega, ?_, cell_of_row _ _ 0 _ _ _ h1, fun k s hk => hb.row.cellAt k (by rw [List.getElem?_map, hk]; rfl)⟩
 rw [cell_of_row _ _ 0 _ _ _ (heap_alloc_at h0 _)]
 dsimp only
 rw [hL]
 rfl
end Go.Proofs.YtgjmeeiejcbjfaaGreat
namespace Go.Proofs.YtgjmeeiejcbjfaaGreat
open Go Go.RowKit
variable {w w5 wz wy : World} {D O1 O2 k1 k2 : Nat} {L : List ByteArray} {v : Value}
theorem RepAt.keep {B : Nat} {r : Except Int Forks.SetR} {a1 a2 a3 : Option Addr} {c1 c2 c3 : Nat} (h : RepAt B wz r a1 a2 a3 c1 c2 c3) (hk : ∀ T, T ≠ 58 → KeepT T wz wy) : RepAt B wy r a1 a2 a3 c1 c2 c3 :=
 ⟨own_keepT h.root (hk _ (by decide)), own_keepT h.chgs (hk _ (by decide)), own_keepT h.free (hk _ (by decide))⟩
theorem RepAt.below {B : Nat} {r : Except Int Forks.SetR} {a1 a2 a3 : Option Addr} {c1 c2 c3 : Nat} (h : RepAt B wz r a1 a2 a3 c1 c2 c3) (hb : Below wz.heap.size wz wy) : RepAt B wy r a1 a2 a3 c1 c2 c3 :=
 ⟨h.root.below hb, h.chgs.below hb, h.free.below hb⟩
theorem RepAt.mono {B B' : Nat} {r : Except Int Forks.SetR} {a1 a2 a3 : Option Addr} {c1 c2 c3 : Nat} (h : RepAt B wz r a1 a2 a3 c1 c2 c3) (hb : B' ≤ B) : RepAt B' wz r a1 a2 a3 c1 c2 c3 :=
 ⟨World.ownsRow.mono h.root hb, World.ownsRow.mono h.chgs hb, World.ownsRow.mono h.free hb⟩
def SetRow (w : World) (X : Nat) (r : Except Int Forks.SetR) (a1 a2 a3 : Option Addr) (c1 c2 c3 : Nat) : Prop := w.heap[X]? = some (.cells #[.int .i64 (repD r), .slice a1 (repR r).length c1, .slice a2 (repC r).length c2, .slice a3 (repF r).length c3] 58 (0, 0))
theorem SBase.setAt (h : SBase w w5 D O1 O2 L v k1 k2 wz) {g k : Nat} {u : Value} {cs : Array Value} {T : TypeId} {fr : Nat × Nat} (hg : wz.heap[g]? = some (.cells cs T fr)) (hlo : w5.heap.size ≤ g) (h1 : 9 ≠ T) (h2 : 68 ≠ T) : SBase w w5 D O1 O2 L v k1 k2 (wz.setCell ⟨g, k, none⟩ u) :=
 ⟨h.row.keepT (KeepT.set (a := ⟨g, k, none⟩) hg h1), KeepT.set (a := ⟨g, k, none⟩) hg h2 _ _ _ h.one, KeepT.set (a := ⟨g, k, none⟩) hg h2 _ _ _ h.two, h.bel.setCell hlo _, h.old, h.lo1, h.lo2, h.ne, h.loD⟩
theorem set_cells {X : Nat} {x y z u : Value} {T : TypeId} (h : wz.heap[X]? = some (.cells #[x, y, z, u] T (0, 0))) : wz.cell? ⟨X, 0, none⟩ = some x ∧ wz.cell? ⟨X, 1, none⟩ = some y ∧ wz.cell? ⟨X, 2, none⟩ = some z ∧ wz.cell? ⟨X, 3, none⟩ = some u ∧ wz.frozen? ⟨X, 0, none⟩ = false ∧ wz.frozen? ⟨X, 1, none⟩ = false ∧ wz.frozen? ⟨X, 2, none⟩ = false ∧ wz.frozen? ⟨X, 3, none⟩ = false :=
 ⟨cell_of_row _ _ 0 _ _ _ h, cell_of_row _ _ 1 _ _ _ h, cell_of_row _ _ 2 _ _ _ h, cell_of_row _ _ 3 _ _ _ h, free_zero h 0, free_zero h 1, free_zero h 2, free_zero h 3⟩
theorem read_keep {X : Nat} {o1 o2 ob : Obj} (h : wy = (wz.alloc o1).alloc o2) (hb : wz.heap[X]? = some ob) : wy.heap[X]? = some ob := by subst h; exact heap_alloc_at (heap_alloc_at hb _) _
theorem SBase.readP (h : SBase w w5 D O1 O2 L v k1 k2 wz) (hL : L.length = 4096) (bad : Int) (P : Nat) (hP : wz.heap.size = P) (wy : World) (hw : wy = (wz.alloc (.cells #[.slice (some ⟨D, 0, none⟩) 4096 4096] 40)).alloc (.cells #[.int .i64 bad] 3)) :
  SBase w w5 D O1 O2 L v k1 k2 wy ∧ DiskAt wy.heap.size wy (RDV P (P + 1)) ⟨L, bad⟩ := by
 subst hw hP
 exact h.read hL bad
structure SX (w w5 : World) (D O1 O2 X M : Nat) (L : List ByteArray) (v : Value) (k1 k2 : Nat) (d : Int) (a1 a2 a3 : Option Addr) (n1 n2 n3 c1 c2 c3 : Nat) (rv cv fv : Value) (R : EL) (C : CL) (F : IL) (wz : World) : Prop where
 base : SBase w w5 D O1 O2 L v k1 k2 wz
 res : wz.heap[X]? = some (.cells #[.int .i64 d, .slice a1 n1 c1, .slice a2 n2 c2, .slice a3 n3 c3] 58 (0, 0))
 x1 : ∃ xs, wz.ownsRow w5.heap.size 31 3 (.slice a1 n1 c1) n1 xs
 x2 : ∃ xs, wz.ownsRow w5.heap.size 72 2 (.slice a2 n2 c2) n2 xs
 x3 : ∃ xs, wz.ownsRow w5.heap.size 3 1 (.slice a3 n3 c3) n3 xs
 hi1 : ∀ g, a1 = some g → g.block < M
 hi2 : ∀ g, a2 = some g → g.block < M
 hi3 : ∀ g, a3 = some g → g.block < M
 root : OwnEnts M wz rv R
 chgs : OwnChgs M wz cv C
 free : OwnInts M wz fv F
section
variable {X M n1 n2 n3 c1 c2 c3 : Nat} {d : Int} {a1 a2 a3 : Option Addr} {rv cv fv : Value} {R : EL} {C : CL} {F : IL}
theorem SX.below (h : SX w w5 D O1 O2 X M L v k1 k2 d a1 a2 a3 n1 n2 n3 c1 c2 c3 rv cv fv R C F wz) (hb : Below wz.heap.size wz wy) : SX w w5 D O1 O2 X M L v k1 k2 d a1 a2 a3 n1 n2 n3 c1 c2 c3 rv cv fv R C F wy := by
 have own : ∀ {B T sz a n xs}, wz.ownsRow B T sz a n xs → wy.ownsRow B T sz a n xs := fun h => ⟨h.1, h.2.imp id (fun ⟨g', cap, cur, hv, hg', hh, r⟩ => ⟨g', cap, cur, hv, hg', by rw [hb.block _ (lt_of_block hh)]; exact hh, r⟩)⟩
 exact ⟨h.base.below hb, (hb.block _ (lt_of_block h.res)).trans h.res, h.x1.imp fun _ => own, h.x2.imp fun _ => own, h.x3.imp fun _ => own, h.hi1, h.hi2, h.hi3, own h.root, own h.chgs, own h.free⟩
theorem SX.put2 (h : SX w w5 D O1 O2 X M L v k1 k2 d a1 a2 a3 n1 n2 n3 c1 c2 c3 rv cv fv R C F wz) {g k : Nat} (ha : a2 = some ⟨g, 0, none⟩) (hk : k < n2 * 2) (u : Value) : SX w w5 D O1 O2 X M L v k1 k2 d a1 a2 a3 n1 n2 n3 c1 c2 c3 rv cv fv R C F (wz.setCell ⟨g, k, none⟩ u) := by
 subst ha
 obtain ⟨xs, hx⟩ := h.x2
 obtain ⟨g', e, hg, cs, hc⟩ := own_form hx (by omega)
 cases e
 have hM : g < M := h.hi2 _ rfl
 have kp : ∀ {T}, T ≠ 72 → KeepT T wz (wz.setCell ⟨g, k, none⟩ u) := fun hT => KeepT.set (a := ⟨g, k, none⟩) hc hT
 exact ⟨h.base.setAt hc hg (by decide) (by decide), kp (by decide) _ _ _ h.res, h.x1.imp fun _ => (own_keepT · (kp (by decide))), ⟨_, ownsRow_set hx k hk u⟩, h.x3.imp fun _ => (own_keepT · (kp (by decide))), h.hi1, h.hi2, h.hi3, own_setAt u h.root hM, own_setAt u h.chgs hM, own_setAt u h.free hM⟩
theorem SX.start {r : Except Int Forks.SetR} (hb : SBase w w5 D O1 O2 L v k1 k2 wz) (hs : SetRow wz X r a1 a2 a3 c1 c2 c3) (hr : RepAt w5.heap.size wz r a1 a2 a3 c1 c2 c3) : SX w w5 D O1 O2 X wz.heap.size L v k1 k2 (repD r) a1 a2 a3 (repR r).length (repC r).length (repF r).length c1 c2 c3 (.slice none 0 0) (.slice none 0 0) (.slice none 0 0) [] [] [] wz := by
 have lt : ∀ {B sz n c : Nat} {T : TypeId} {a : Option Addr} {xs : List Value}, wz.ownsRow B T sz (.slice a n c) n xs → ∀ g, a = some g → g.block < wz.heap.size := fun h g hg => by
  subst hg
  rcases h.2 with ⟨h1, _⟩ | ⟨g', cap, cur, hv, _, hh, _⟩
  ·cases h1
  ·cases hv
   exact lt_of_block hh
 exact ⟨hb, hs, ⟨_, hr.root⟩, ⟨_, hr.chgs⟩, ⟨_, hr.free⟩, lt hr.root, lt hr.chgs, lt hr.free, World.ownsRow_nil _ _ _ _, World.ownsRow_nil _ _ _ _, World.ownsRow_nil _ _ _ _⟩
theorem SX.readP (h : SX w w5 D O1 O2 X M L v k1 k2 d a1 a2 a3 n1 n2 n3 c1 c2 c3 rv cv fv R C F wz) (hL : L.length = 4096) (bad : Int) (P : Nat) (hP : wz.heap.size = P) (wy : World) (hw : wy = (wz.alloc (.cells #[.slice (some ⟨D, 0, none⟩) 4096 4096] 40)).alloc (.cells #[.int .i64 bad] 3)) :
  SX w w5 D O1 O2 X M L v k1 k2 d a1 a2 a3 n1 n2 n3 c1 c2 c3 rv cv fv R C F wy ∧ DiskAt wy.heap.size wy (RDV P (P + 1)) ⟨L, bad⟩ := by
 obtain ⟨h1, h2⟩ := h.base.readP hL bad P hP wy hw
 subst hw
 exact ⟨h.below (((Below.refl _ _).alloc (Nat.le_refl _) _).alloc (by simp) _), h2⟩
end
end Go.Proofs.YtgjmeeiejcbjfaaGreat
namespace Go.Proofs.YtgjmeeiejcbjfaaGreat.Forks
open Go.Proofs.YtgjmeeiejcbjfaaGreat
def LeadsIn (l : EL) : Prop := ∀ x ∈ l, 1 ≤ x.2.1 ∧ x.2.1 ≤ 4095
theorem row_leadsIn {l : EL} (h : Ents.Row false l) : LeadsIn l := fun x hx => by
 have := h.may x hx
 unfold Ents.may at this
 have := of_decide_eq_true this
 unfold Ents.mayN at this
 omega
theorem nodeW_ok' {d : Disk} {child : EL → V → Except Int V} {h : Nat} {x : E} {v v' : V} (he : nodeW d child h x v = .ok v') :
  has v x.2.1.toNat = false ∧ ∃ s l leaf, d.rd x.2.1.toNat = some s ∧ Ents.dec s.data.toList = some (l, leaf) ∧ leaf = (h == 1) ∧ (l.getD 0 (0, 0, 0)).1 = x.1 ∧ (if leaf = true then .ok (v ++ [⟨x.2.1.toNat, h, l, s⟩]) else child l (v ++ [⟨x.2.1.toNat, h, l, s⟩])) = Except.ok v' := by
 unfold nodeW at he
 split at he
 ·cases he
 ·rename_i hh
  refine ⟨by simpa using hh, ?_⟩
  split at he
  ·cases he
  ·rename_i s hs
   split at he
   ·cases he
   ·rename_i l leaf hd
    split at he
    ·cases he
    ·rename_i hn
     have h1 : leaf = (h == 1) := Decidable.byContradiction fun h => hn (.inl h)
     have h2 : (l.getD 0 (0, 0, 0)).1 = x.1 := Decidable.byContradiction fun h => hn (.inr h)
     exact ⟨s, l, leaf, hs, hd, h1, h2, he⟩
theorem foldW_ok {f : E → V → Except Int V} {P : V → Prop} {Q : E → Prop} (hf : ∀ x v v', Q x → P v → f x v = .ok v' → P v') : ∀ (l : EL) (v v' : V), (∀ x ∈ l, Q x) → P v → foldW f l v = .ok v' → P v'
 | [], v, v', _, hp, he => by unfold foldW at he; cases he; exact hp
 | x :: l, v, v', hq, hp, he => by
  unfold foldW at he
  split at he
  ·cases he
  ·rename_i u hu
   exact foldW_ok hf l u v' (fun y hy => hq y (by simp [hy])) (hf x v u (hq x (by simp)) hp hu) he
theorem allW_good (d : Disk) : ∀ (h : Nat) (l : EL) (v v' : V), LeadsIn l → Good v → allW d h l v = .ok v' → Good v'
 | 0, l, v, v', _, hg, he => by unfold allW at he; cases he; exact hg
 | h + 1, l, v, v', hl, hg, he => by
  unfold allW at he
  refine foldW_ok (P := Good) (Q := fun x => 1 ≤ x.2.1 ∧ x.2.1 ≤ 4095) (fun x v v' hx hg he => ?_) l v v' hl hg he
  obtain ⟨hh, s, m, leaf, hs, hd, h1, h2, h3⟩ := nodeW_ok' he
  have hg' : Good (v ++ [⟨x.2.1.toNat, h + 1, m, s⟩]) := hg.snoc (by dsimp only; omega) (by dsimp only; omega) (by dsimp only; rw [hd, h1]) hh
  split at h3
  ·cases h3; exact hg'
  ·rename_i hlf
   have hr := (Ents.dec_some hd).1.2.2
   rw [show leaf = false by simpa using hlf] at hr
   exact allW_good d h m _ v' (row_leadsIn hr) hg' h3
theorem walkT_good {d : Disk} {depth : Int} {root : EL} {v : V} {R : EL} (h : walkT d depth root = .ok (v, R)) : Good v := by
 obtain ⟨hok, -, -⟩ := walkT_okr h
 by_cases h0 : depth = 0
 ·subst h0
  rw [walkT_zero d root hok] at h
  split at h
  ·cases h; exact Good.nil
  ·cases h
 ·obtain ⟨n, rfl⟩ : ∃ n : Nat, depth = (n : Int) := ⟨depth.toNat, by have := hok.1; omega⟩
  have hr := hok.2.2.2.2
  rw [show (((n : Nat) : Int) == 0) = false by simpa using h0] at hr
  rw [walkT_pos d n root hok (by omega)] at h
  split at h
  ·cases h
  ·rename_i u hu
   split at h
   ·cases h; exact allW_good d _ _ _ _ (row_leadsIn hr) Good.nil hu
   ·cases h
set_option maxRecDepth 100000 in
theorem setT_len {v : V} {LV : List (List Node)} {root : EL} {T : IL} {s : SetR} (h : setT v LV root T = .ok s) : s.changes.length ≤ 4096 ∧ s.freed.length ≤ 4096 ∧ s.root.length = root.length := by
 unfold setT at h
 split at h
 ·cases h
 ·cases h
  refine ⟨chT_len _ _ _, frT_len _ _ _, ?_⟩
  dsimp only
  unfold knownT
  split <;> simp
end Go.Proofs.YtgjmeeiejcbjfaaGreat.Forks
