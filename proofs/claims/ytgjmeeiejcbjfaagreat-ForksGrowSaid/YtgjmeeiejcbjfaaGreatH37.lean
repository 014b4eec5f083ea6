/- ForksSame: what Replace answers, failed or not, said in one form. -/
import Derived.Test.YtgjmeeiejcbjfaaGreatH36
import Derived.Test.YtgjmeeiejcbjfaaGreatH27
import Derived.Test.YtgjmeeiejcbjfaaGreatH34
import Derived.Test.YtgjmeeiejcbjfaaGreatH29
set_option linter.unusedSimpArgs false
set_option linter.unusedVariables false
namespace Go.Proofs.YtgjmeeiejcbjfaaGreat
open Go Go.RowKit
def repD (r : Except Int Forks.SetR) : Int := match r with | .ok s => s.depth | .error _ => 0
def repR (r : Except Int Forks.SetR) : EL := match r with | .ok s => s.root | .error _ => []
def repC (r : Except Int Forks.SetR) : CL := match r with | .ok s => s.changes | .error _ => []
def repF (r : Except Int Forks.SetR) : IL := match r with | .ok s => s.freed | .error _ => []
def repE (r : Except Int Forks.SetR) : Int := match r with | .ok _ => 0 | .error k => k
structure RepAt (B : Nat) (w : World) (r : Except Int Forks.SetR) (a1 a2 a3 : Option Addr) (c1 c2 c3 : Nat) : Prop where
 root : OwnEnts B w (.slice a1 (repR r).length c1) (repR r)
 chgs : OwnChgs B w (.slice a2 (repC r).length c2) (repC r)
 free : OwnInts B w (.slice a3 (repF r).length c3) (repF r)
theorem rep_flat {S : Type} {FR : S → World → Prop} {w0 : World} {M : Nat} {r : Except Int Forks.SetR × S} {e : Ending} {w' : World} (h : ReplaceOut FR w0 M r e w') :
  FR r.2 w' ∧ OnlyM M w0 w' ∧ ∃ a1 a2 a3 c1 c2 c3, e = .returned (.tuple #[.agg #[.int .i64 (repD r.1), .slice a1 (repR r.1).length c1, .slice a2 (repC r.1).length c2, .slice a3 (repF r.1).length c3], .int .i64 (repE r.1)]) ∧ RepAt w0.heap.size w' r.1 a1 a2 a3 c1 c2 c3 := by
 obtain ⟨h1, h2, h3⟩ := h
 refine ⟨h1, h2, ?_⟩
 obtain ⟨r1, r2⟩ := r
 cases r1 with
 | error k =>
  obtain ⟨rfl, -⟩ := h3
  exact ⟨none, none, none, 0, 0, 0, rfl, World.ownsRow_nil _ _ _ _, World.ownsRow_nil _ _ _ _, World.ownsRow_nil _ _ _ _⟩
 | ok s =>
  obtain ⟨rv, cv, fv, rfl, o1, o2, o3⟩ := h3
  obtain ⟨a1, c1, rfl⟩ := o1.slice
  obtain ⟨a2, c2, rfl⟩ := o2.slice
  obtain ⟨a3, c3, rfl⟩ := o3.slice
  exact ⟨a1, a2, a3, c1, c2, c3, rfl, o1, o2, o3⟩
theorem zblk_size : zblk.size = 128 := by
 unfold zblk
 simp [txt, ByteArray.size]
theorem putD_mem {x : Int × ByteArray} {B : List ByteArray} {s : ByteArray} (h : s ∈ putD x B) : s ∈ B ∨ s = x.2 := by
 unfold putD at h
 split at h
 ·exact (List.mem_or_eq_of_mem_set h)
 ·exact .inl h
theorem fold_putD_mem : ∀ (l : CL) (B : List ByteArray) (s : ByteArray), s ∈ l.foldl (fun B x => putD x B) B → s ∈ B ∨ ∃ x ∈ l, s = x.2
 | [], B, s, h => .inl h
 | x :: l, B, s, h => by
  rw [List.foldl_cons] at h
  rcases fold_putD_mem l _ s h with h | ⟨y, hy, rfl⟩
  ·rcases putD_mem h with h | rfl
   ·exact .inl h
   ·exact .inr ⟨x, List.mem_cons_self .., rfl⟩
  ·exact .inr ⟨y, List.mem_cons_of_mem _ hy, rfl⟩
theorem diskOf_small {l : CL} (h : greatTo l = false) : ∀ s ∈ diskOf l, s.size ≤ 1000 ∨ s = zblk := fun s hs => by
 rcases fold_putD_mem l _ s hs with h1 | ⟨x, hx, rfl⟩
 ·exact .inr (List.mem_replicate.1 h1).2
 ·left
  have := List.any_eq_false.1 h x hx
  simpa using this
structure SBase (w w5 : World) (D O1 O2 : Nat) (L : List ByteArray) (v : Value) (k1 k2 : Nat) (wz : World) : Prop where
 row : Row wz D 9 (L.map .string)
 one : ToldAt wz O1 v k1
 two : ToldAt wz O2 v k2
 bel : Below w5.heap.size w5 wz
 old : Below w.heap.size w w5
 lo1 : w5.heap.size ≤ O1
 lo2 : w5.heap.size ≤ O2
 ne : O1 ≠ O2
 loD : D < w5.heap.size
variable {w w5 wz wy : World} {D O1 O2 k1 k2 : Nat} {L : List ByteArray} {v : Value}
theorem SBase.below (h : SBase w w5 D O1 O2 L v k1 k2 wz) (hb : Below wz.heap.size wz wy) : SBase w w5 D O1 O2 L v k1 k2 wy :=
 ⟨h.row.below hb h.row.lt, (hb.block _ (lt_of_block h.one)).trans h.one, (hb.block _ (lt_of_block h.two)).trans h.two, h.bel.trans (hb.mono h.bel.size), h.old, h.lo1, h.lo2, h.ne, h.loD⟩
theorem SBase.all (h : SBase w w5 D O1 O2 L v k1 k2 wz) : Below w.heap.size w wz := h.old.trans (h.bel.mono h.old.size)
theorem SBase.read (h : SBase w w5 D O1 O2 L v k1 k2 wz) (hL : L.length = 4096) (bad : Int) :
  SBase w w5 D O1 O2 L v k1 k2 ((wz.alloc (.cells #[.slice (some ⟨D, 0, none⟩) 4096 4096] 40)).alloc (.cells #[.int .i64 bad] 3)) ∧ DiskAt ((wz.alloc (.cells #[.slice (some ⟨D, 0, none⟩) 4096 4096] 40)).alloc (.cells #[.int .i64 bad] 3)).heap.size ((wz.alloc (.cells #[.slice (some ⟨D, 0, none⟩) 4096 4096] 40)).alloc (.cells #[.int .i64 bad] 3)) (RDV wz.heap.size (wz.heap.size + 1)) ⟨L, bad⟩ := by
 have h0 := heap_alloc_new wz (.cells #[.slice (some ⟨D, 0, none⟩) 4096 4096] 40)
 have h1 := heap_alloc_new (wz.alloc (.cells #[.slice (some ⟨D, 0, none⟩) 4096 4096] 40)) (.cells #[.int .i64 bad] 3)
 rw [asz] at h1
 have bA : Below wz.heap.size wz ((wz.alloc (.cells #[.slice (some ⟨D, 0, none⟩) 4096 4096] 40)).alloc (.cells #[.int .i64 bad] 3)) := ((Below.refl _ _).alloc (Nat.le_refl _) _).alloc (by simp) _
 have hb := h.below bA
 refine ⟨hb, wz.heap.size, wz.heap.size + 1, D, 4096, rfl, by simp; omega, by simp, hb.row.lt, by dsimp only; omega, ?_, cell_of_row _ _ 0 _ _ _ h1, fun k s hk => hb.row.cellAt k (by rw [List.getElem?_map, hk]; rfl)⟩
 rw [cell_of_row _ _ 0 _ _ _ (heap_alloc_at h0 _)]
 dsimp only
 rw [hL]
 rfl
end Go.Proofs.YtgjmeeiejcbjfaaGreat
namespace Go.Proofs.YtgjmeeiejcbjfaaGreat.Forks
open Go.Proofs.YtgjmeeiejcbjfaaGreat
def LeadsIn (l : EL) : Prop := ∀ x ∈ l, 1 ≤ x.2.1 ∧ x.2.1 ≤ 4095
theorem row_leadsIn {l : EL} (h : Ents.Row false l) : LeadsIn l := fun x hx => by
 have := h.may x hx
 unfold Ents.may at this
 have := of_decide_eq_true this
 unfold Ents.mayN at this
 omega
theorem nodeW_ok' {d : Disk} {child : EL → V → Except Int V} {h : Nat} {x : E} {v v' : V} (he : nodeW d child h x v = .ok v') :
  has v x.2.1.toNat = false ∧ ∃ s l leaf, d.rd x.2.1.toNat = some s ∧ Ents.dec s.data.toList = some (l, leaf) ∧ leaf = (h == 1) ∧ (l.getD 0 (0, 0, 0)).1 = x.1 ∧ (if leaf = true then .ok (v ++ [⟨x.2.1.toNat, h, l, s⟩]) else child l (v ++ [⟨x.2.1.toNat, h, l, s⟩])) = Except.ok v' := by
 unfold nodeW at he
 split at he
 ·cases he
 ·rename_i hh
  refine ⟨by simpa using hh, ?_⟩
  split at he
  ·cases he
  ·rename_i s hs
   split at he
   ·cases he
   ·rename_i l leaf hd
    split at he
    ·cases he
    ·rename_i hn
     have h1 : leaf = (h == 1) := Decidable.byContradiction fun h => hn (.inl h)
     have h2 : (l.getD 0 (0, 0, 0)).1 = x.1 := Decidable.byContradiction fun h => hn (.inr h)
     exact ⟨s, l, leaf, hs, hd, h1, h2, he⟩
theorem foldW_ok {f : E → V → Except Int V} {P : V → Prop} {Q : E → Prop} (hf : ∀ x v v', Q x → P v → f x v = .ok v' → P v') : ∀ (l : EL) (v v' : V), (∀ x ∈ l, Q x) → P v → foldW f l v = .ok v' → P v'
 | [], v, v', _, hp, he => by unfold foldW at he; cases he; exact hp
 | x :: l, v, v', hq, hp, he => by
  unfold foldW at he
  split at he
  ·cases he
  ·rename_i u hu
   exact foldW_ok hf l u v' (fun y hy => hq y (by simp [hy])) (hf x v u (hq x (by simp)) hp hu) he
theorem allW_good (d : Disk) : ∀ (h : Nat) (l : EL) (v v' : V), LeadsIn l → Good v → allW d h l v = .ok v' → Good v'
 | 0, l, v, v', _, hg, he => by unfold allW at he; cases he; exact hg
 | h + 1, l, v, v', hl, hg, he => by
  unfold allW at he
  refine foldW_ok (P := Good) (Q := fun x => 1 ≤ x.2.1 ∧ x.2.1 ≤ 4095) (fun x v v' hx hg he => ?_) l v v' hl hg he
  obtain ⟨hh, s, m, leaf, hs, hd, h1, h2, h3⟩ := nodeW_ok' he
  have hg' : Good (v ++ [⟨x.2.1.toNat, h + 1, m, s⟩]) := hg.snoc (by dsimp only; omega) (by dsimp only; omega) (by dsimp only; rw [hd, h1]) hh
  split at h3
  ·cases h3; exact hg'
  ·rename_i hlf
   have hr := (Ents.dec_some hd).1.2.2
   rw [show leaf = false by simpa using hlf] at hr
   exact allW_good d h m _ v' (row_leadsIn hr) hg' h3
theorem walkT_good {d : Disk} {depth : Int} {root : EL} {v : V} {R : EL} (h : walkT d depth root = .ok (v, R)) : Good v := by
 obtain ⟨hok, -, -⟩ := walkT_okr h
 by_cases h0 : depth = 0
 ·subst h0
  rw [walkT_zero d root hok] at h
  split at h
  ·cases h; exact Good.nil
  ·cases h
 ·obtain ⟨n, rfl⟩ : ∃ n : Nat, depth = (n : Int) := ⟨depth.toNat, by have := hok.1; omega⟩
  have hr := hok.2.2.2.2
  rw [show (((n : Nat) : Int) == 0) = false by simpa using h0] at hr
  rw [walkT_pos d n root hok (by omega)] at h
  split at h
  ·cases h
  ·rename_i u hu
   split at h
   ·cases h; exact allW_good d _ _ _ _ (row_leadsIn hr) Good.nil hu
   ·cases h
set_option maxRecDepth 100000 in
theorem setT_len {v : V} {LV : List (List Node)} {root : EL} {T : IL} {s : SetR} (h : setT v LV root T = .ok s) : s.changes.length ≤ 4096 ∧ s.freed.length ≤ 4096 ∧ s.root.length = root.length := by
 unfold setT at h
 split at h
 ·cases h
 ·cases h
  refine ⟨chT_len _ _ _, frT_len _ _ _, ?_⟩
  dsimp only
  unfold knownT
  split <;> simp
theorem leads_append (a b : List Node) : leads (a ++ b) = leads a ++ leads b := by simp [leads]
theorem lvl_append (u v : V) (h : Nat) : lvl (u ++ v) h = lvl u h ++ lvl v h := by simp [lvl]
theorem lvl_none {u : V} {h : Nat} (hu : ∀ x ∈ u, x.h ≠ h) : lvl u h = [] := by
 unfold lvl
 rw [List.filter_eq_nil_iff.2 (fun x hx => by simpa using hu x hx)]
 rfl
theorem lvl_mem {u : V} {h : Nat} {n : Node} : n ∈ lvl u h ↔ ∃ x ∈ u, x.h = h ∧ n = ((x.b : Int), x.l) := by
 unfold lvl
 rw [List.mem_map]
 constructor
 ·rintro ⟨x, hx, rfl⟩
  have := List.mem_filter.1 hx
  exact ⟨x, this.1, by simpa using this.2, rfl⟩
 ·rintro ⟨x, hx, h1, rfl⟩
  exact ⟨x, List.mem_filter.2 ⟨hx, by simpa using h1⟩, rfl⟩
theorem rowV_ents (v : V) : rowV v = ents (lvl v 1) := by
 unfold rowV lvl
 induction v.filter fun x => x.h == 1 with
 | nil => rfl
 | cons x l ih => simp only [List.flatMap_cons, List.map_cons, ents, ih]
def LeadE (x : E) : Prop := 1 ≤ x.2.1 ∧ x.2.1 ≤ 4095 ∧ x.2.2 = 0
theorem may_lead {x : E} (h : Ents.may false x = true) : LeadE x := by
 unfold Ents.may at h
 have := of_decide_eq_true h
 unfold Ents.mayN at this
 unfold LeadE
 omega
theorem row_leadE {l : EL} (h : Ents.Row false l) : ∀ x ∈ l, LeadE x := fun x hx => may_lead (h.may x hx)
structure Met (k : Nat) (l : EL) (u : V) : Prop where
 hs : ∀ x ∈ u, 1 ≤ x.h ∧ x.h ≤ k
 top : k ≠ 0 → leads (lvl u k) = l
 down : ∀ j, 1 ≤ j → j < k → leads (lvl u j) = ents (lvl u (j + 1))
theorem fold_met (d : Disk) (k : Nat) (hrec : ∀ l v0 v, (∀ x ∈ l, LeadE x) → allW d k l v0 = .ok v → ∃ u, v = v0 ++ u ∧ Met k l u) :
  ∀ (l : EL) (v0 v : V), (∀ x ∈ l, LeadE x) → foldW (nodeW d (allW d k) (k + 1)) l v0 = .ok v → ∃ u, v = v0 ++ u ∧ Met (k + 1) l u
 | [], v0, v, _, h => by
  unfold foldW at h
  cases h
  exact ⟨[], by simp, (fun x hx => by cases hx), fun _ => by simp [lvl, leads], fun j _ _ => by simp [lvl, leads, ents]⟩
 | x :: l, v0, v, hl, h => by
  unfold foldW at h
  split at h
  ·cases h
  ·rename_i v1 h1
   obtain ⟨u2, e2, m2⟩ := fold_met d k hrec l v1 v (fun y hy => hl y (by simp [hy])) h
   obtain ⟨hh, s, p, leaf, hs, hd, hlf, hlg, hc⟩ := nodeW_ok' h1
   have hx := hl x (by simp)
   obtain ⟨x1, x2, x3⟩ := x
   unfold LeadE at hx
   dsimp only at *
   obtain ⟨b, rfl⟩ : ∃ b : Nat, x2 = (b : Int) := ⟨x2.toNat, by omega⟩
   obtain rfl : x3 = 0 := hx.2.2
   rw [Int.toNat_natCast] at *
   have hnode : ∃ u1, v1 = v0 ++ u1 ∧ Met (k + 1) [(x1, (b : Int), 0)] u1 := by
    by_cases hl2 : leaf = true
    ·rw [if_pos hl2] at hc
     cases hc
     have hk : k = 0 := by rw [hl2] at hlf; simpa using hlf.symm
     subst hk
     refine ⟨[⟨b, 1, p, s⟩], rfl, fun y hy => ?_, fun _ => ?_, fun j h1 h2 => by omega⟩
     ·obtain rfl := List.mem_singleton.1 hy
      exact ⟨Nat.le_refl _, Nat.le_refl _⟩
     ·show leads (lvl [⟨b, 1, p, s⟩] 1) = _
      simp [lvl, leads]
      simpa using hlg
    ·rw [if_neg hl2] at hc
     have hk : k ≠ 0 := by
      rintro rfl
      exact hl2 (by rw [hlf]; rfl)
     have hr := (Ents.dec_some hd).1.2.2
     rw [show leaf = false by simpa using hl2] at hr
     obtain ⟨u, e, m⟩ := hrec p _ _ (row_leadE hr) hc
     refine ⟨⟨b, k + 1, p, s⟩ :: u, by rw [e]; simp, fun y hy => ?_, fun _ => ?_, fun j h1 h2 => ?_⟩
     ·rcases List.mem_cons.1 hy with rfl | hy
      ·exact ⟨by dsimp only; omega, Nat.le_refl _⟩
      ·have := m.hs y hy; omega
     ·rw [show (⟨b, k + 1, p, s⟩ :: u : V) = [⟨b, k + 1, p, s⟩] ++ u from rfl, lvl_append, lvl_none (u := u) (fun y hy => by have := m.hs y hy; omega)]
      simp [lvl, leads]
      simpa using hlg
     ·rw [show (⟨b, k + 1, p, s⟩ :: u : V) = [⟨b, k + 1, p, s⟩] ++ u from rfl, lvl_append, lvl_append, lvl_none (u := [⟨b, k + 1, p, s⟩]) (h := j) (fun y hy => by obtain rfl := List.mem_singleton.1 hy; dsimp only; omega), List.nil_append]
      by_cases hj : j = k
      ·subst hj
       rw [m.top hk, lvl_none (u := u) (fun y hy => by have := m.hs y hy; omega), List.append_nil]
       simp [lvl, ents]
      ·rw [lvl_none (u := [⟨b, k + 1, p, s⟩]) (h := j + 1) (fun y hy => by obtain rfl := List.mem_singleton.1 hy; dsimp only; omega), List.nil_append]
       exact m.down j h1 (by omega)
   obtain ⟨u1, e1, m1⟩ := hnode
   refine ⟨u1 ++ u2, by rw [e2, e1, List.append_assoc], fun y hy => ?_, fun hk => ?_, fun j h1 h2 => ?_⟩
   ·rcases List.mem_append.1 hy with h | h
    ·exact m1.hs y h
    ·exact m2.hs y h
   ·rw [lvl_append, leads_append, m1.top hk, m2.top hk]
    rfl
   ·rw [lvl_append, leads_append, lvl_append, ents_append, m1.down j h1 h2, m2.down j h1 h2]
theorem allW_met (d : Disk) : ∀ (k : Nat) (l : EL) (v0 v : V), (∀ x ∈ l, LeadE x) → allW d k l v0 = .ok v → ∃ u, v = v0 ++ u ∧ Met k l u
 | 0, l, v0, v, _, h => by
  unfold allW at h
  cases h
  exact ⟨[], by simp, (fun x hx => by cases hx), fun h => absurd rfl h, fun j _ h => by omega⟩
 | k + 1, l, v0, v, hl, h => by
  unfold allW at h
  exact fold_met d k (fun l v0 v => allW_met d k l v0 v) l v0 v hl h
theorem chain_of : ∀ (n : Nat) (f : Nat → List Node) (row root : EL), (n = 0 → root = row) → (n ≠ 0 → ents (f 1) = row ∧ leads (f n) = root) → (∀ j, 1 ≤ j → j < n → leads (f j) = ents (f (j + 1))) → Chain row ((List.range n).map fun i => f (i + 1)) root
 | 0, f, row, root, h0, _, _ => h0 rfl
 | n + 1, f, row, root, _, h1, h2 => by
  rw [List.range_succ_eq_map, List.map_cons, List.map_map]
  obtain ⟨e1, e2⟩ := h1 (by omega)
  refine ⟨e1, ?_⟩
  have := chain_of n (fun j => f (j + 1)) (leads (f 1)) root (fun h => by subst h; exact e2.symm) (fun h => ⟨(h2 1 (by omega) (by omega)).symm, e2⟩) (fun j hj hj2 => h2 (j + 1) (by omega) (by omega))
  exact this
theorem chain_to : ∀ (LV : List (List Node)) (row root : EL), Chain row LV root → (LV = [] → root = row) ∧ (LV ≠ [] → ents (LV.getD 0 []) = row ∧ leads (LV.getD (LV.length - 1) []) = root) ∧ ∀ j, j + 1 < LV.length → leads (LV.getD j []) = ents (LV.getD (j + 1) [])
 | [], row, root, h => ⟨fun _ => h, fun h => absurd rfl h, fun j hj => by simp at hj⟩
 | L :: LV, row, root, h => by
  obtain ⟨h1, h2⟩ := h
  obtain ⟨a, b, c⟩ := chain_to LV (leads L) root h2
  refine ⟨(fun h => by cases h), fun _ => ⟨h1, ?_⟩, fun j hj => ?_⟩
  ·cases LV with
   | nil => exact (a rfl).symm
   | cons M LV => exact (b (by simp)).2
  ·cases j with
   | zero =>
    cases LV with
    | nil => simp at hj
    | cons M LV => exact (b (by simp)).1.symm
   | succ j => exact c j (by simpa using hj)
theorem walk_chain {d : Disk} {n : Nat} {root : EL} {v : V} {R : EL} (h : walkT d n root = .ok (v, R)) : Chain R (lvls v n) root ∧ (∀ x ∈ v, 1 ≤ x.h ∧ x.h ≤ n) := by
 obtain ⟨hok, -, -⟩ := walkT_okr h
 by_cases h0 : n = 0
 ·subst h0
  rw [show ((0 : Nat) : Int) = 0 from rfl] at h hok
  rw [walkT_zero d root hok] at h
  split at h
  ·cases h; exact ⟨rfl, (fun x hx => by cases hx)⟩
  ·cases h
 ·have hr := hok.2.2.2.2
  rw [show (((n : Nat) : Int) == 0) = false by simpa using h0] at hr
  rw [walkT_pos d n root hok (by omega)] at h
  split at h
  ·cases h
  ·rename_i u hu
   split at h
   ·obtain ⟨rfl, rfl⟩ : u = v ∧ rowV u = R := by injection h with h; injection h with h1 h2; exact ⟨h1, h2⟩
    obtain ⟨u', e, m⟩ := allW_met d n root [] u (row_leadE hr) hu
    rw [List.nil_append] at e
    subst e
    refine ⟨chain_of n (fun j => lvl u j) _ root (fun h => absurd h h0) (fun _ => ⟨(rowV_ents u).symm, m.top h0⟩) m.down, m.hs⟩
   ·cases h
theorem split_levels : ∀ (k : Nat) (f : Nat → List Node) (p q : EL), 1 ≤ k → (∀ j, 1 ≤ j → j < k → leads (f j) = ents (f (j + 1))) → leads (f k) = p ++ q →
    ∃ A B : Nat → List Node, (∀ j, 1 ≤ j → j ≤ k → f j = A j ++ B j) ∧ leads (A k) = p ∧ leads (B k) = q ∧ (∀ j, 1 ≤ j → j < k → leads (A j) = ents (A (j + 1))) ∧ ∀ j, 1 ≤ j → j < k → leads (B j) = ents (B (j + 1))
  | 0, f, p, q, h, _, _ => by omega
  | k + 1, f, p, q, _, hd, ht => by
    have hA : leads ((f (k + 1)).take p.length) = p := by
      unfold leads at *
      rw [List.map_take, ht, List.take_left]
    have hB : leads ((f (k + 1)).drop p.length) = q := by
      unfold leads at *
      rw [List.map_drop, ht, List.drop_left]
    by_cases hk : k = 0
    · subst hk
      exact ⟨fun _ => (f 1).take p.length, fun _ => (f 1).drop p.length, fun j h1 h2 => by obtain rfl : j = 1 := by omega
                                                                                           rw [List.take_append_drop], hA, hB, fun j h1 h2 => by omega, fun j h1 h2 => by omega⟩
    · have h1 := hd k (by omega) (by omega)
      rw [← List.take_append_drop p.length (f (k + 1)), ents_append] at h1
      obtain ⟨A, B, e, a, b, ca, cb⟩ := split_levels k f _ _ (by omega) (fun j g1 g2 => hd j g1 (by omega)) h1
      refine ⟨fun j => if j = k + 1 then (f (k + 1)).take p.length else A j, fun j => if j = k + 1 then (f (k + 1)).drop p.length else B j, fun j g1 g2 => ?_, ?_, ?_, fun j g1 g2 => ?_, fun j g1 g2 => ?_⟩
      all_goals dsimp only
      · by_cases hj : j = k + 1
        · subst hj
          rw [if_pos rfl, if_pos rfl, List.take_append_drop]
        · rw [if_neg hj, if_neg hj]
          exact e j g1 (by omega)
      · rw [if_pos rfl]; exact hA
      · rw [if_pos rfl]; exact hB
      · rw [if_neg (by omega)]
        by_cases hj : j = k
        · subst hj; rw [if_pos rfl]; exact a
        · rw [if_neg (by omega)]; exact ca j g1 (by omega)
      · rw [if_neg (by omega)]
        by_cases hj : j = k
        · subst hj; rw [if_pos rfl]; exact b
        · rw [if_neg (by omega)]; exact cb j g1 (by omega)
structure Stands (d : Disk) (h : Nat) (n : Node) : Prop where
 lo : 1 ≤ n.1
 hi : n.1 ≤ 4095
 enc : Ents.EncOk n.2 (h == 1)
 rd : d.rd n.1.toNat = some (txt (Ents.nodeB n.2 (h == 1)))
structure Fam (d : Disk) (k : Nat) (f : Nat → List Node) (v0 : V) : Prop where
 st : ∀ j, 1 ≤ j → j ≤ k → ∀ n ∈ f j, Stands d j n
 new : ∀ j, 1 ≤ j → j ≤ k → ∀ n ∈ f j, has v0 n.1.toNat = false
 same : ∀ j, 1 ≤ j → j ≤ k → ((f j).map fun n => n.1).Nodup
 apart : ∀ i j, 1 ≤ i → i < j → j ≤ k → ∀ n ∈ f i, ∀ m ∈ f j, n.1 ≠ m.1
structure MetAs (k : Nat) (f : Nat → List Node) (u : V) : Prop where
 hs : ∀ x ∈ u, 1 ≤ x.h ∧ x.h ≤ k
 lv : ∀ j, 1 ≤ j → j ≤ k → lvl u j = f j
 tx : ∀ x ∈ u, x.s = txt (Ents.nodeB x.l (x.h == 1))
theorem MetAs.nil (f : Nat → List Node) : MetAs 0 f [] := ⟨(fun x hx => by cases hx), fun j h1 h2 => by omega, (fun x hx => by cases hx)⟩
theorem has_append (u v : V) (b : Nat) : has (u ++ v) b = (has u b || has v b) := by simp [has]
theorem MetAs.has {k : Nat} {f : Nat → List Node} {u : V} (h : MetAs k f u) {b : Nat} (hb : Forks.has u b = true) : ∃ j, 1 ≤ j ∧ j ≤ k ∧ ∃ n ∈ f j, n.1 = (b : Int) := by
 obtain ⟨x, hx, e⟩ := List.any_eq_true.1 hb
 obtain ⟨h1, h2⟩ := h.hs x hx
 refine ⟨x.h, h1, h2, ((x.b : Int), x.l), ?_, ?_⟩
 ·rw [← h.lv x.h h1 h2]
  exact lvl_mem.2 ⟨x, hx, rfl, rfl⟩
 ·simp at e
  dsimp only
  omega
theorem Fam.left {d : Disk} {k : Nat} {f A B : Nat → List Node} {v0 : V} (h : Fam d k f v0) {k' : Nat} (hk : k' ≤ k) (e : ∀ j, 1 ≤ j → j ≤ k' → f j = A j ++ B j) : Fam d k' A v0 :=
 ⟨fun j h1 h2 n hn => h.st j h1 (by omega) n (by rw [e j h1 h2]; exact List.mem_append_left _ hn), fun j h1 h2 n hn => h.new j h1 (by omega) n (by rw [e j h1 h2]; exact List.mem_append_left _ hn), fun j h1 h2 => by
  have := h.same j h1 (by omega)
  rw [e j h1 h2, List.map_append] at this
  exact (List.nodup_append.1 this).1, fun i j h1 h2 h3 n hn m hm => h.apart i j h1 h2 (by omega) n (by rw [e i h1 (by omega)]; exact List.mem_append_left _ hn) m (by rw [e j (by omega) h3]; exact List.mem_append_left _ hm)⟩
theorem Fam.right {d : Disk} {k : Nat} {f A B : Nat → List Node} {v0 : V} (h : Fam d k f v0) {k' : Nat} (hk : k' ≤ k) (e : ∀ j, 1 ≤ j → j ≤ k' → f j = A j ++ B j) {u : V} (hu : MetAs k' A u) : Fam d k' B (v0 ++ u) := by
 refine ⟨fun j h1 h2 n hn => h.st j h1 (by omega) n (by rw [e j h1 h2]; exact List.mem_append_right _ hn), fun j h1 h2 n hn => ?_, fun j h1 h2 => ?_, fun i j h1 h2 h3 n hn m hm => h.apart i j h1 h2 (by omega) n (by rw [e i h1 (by omega)]; exact List.mem_append_right _ hn) m (by rw [e j (by omega) h3]; exact List.mem_append_right _ hm)⟩
 ·have hnf : n ∈ f j := by rw [e j h1 h2]; exact List.mem_append_right _ hn
  rw [has_append, h.new j h1 (by omega) n hnf, Bool.false_or]
  rw [Bool.eq_false_iff]
  intro hb
  obtain ⟨i, g1, g2, m, hm, em⟩ := hu.has hb
  have hst := h.st j h1 (by omega) n hnf
  have hmf : m ∈ f i := by rw [e i g1 g2]; exact List.mem_append_left _ hm
  have en : m.1 = n.1 := by have := hst.lo; omega
  rcases Nat.lt_trichotomy i j with hij | hij | hij
  ·exact h.apart i j g1 hij (by omega) m hmf n hnf en
  ·subst hij
   have := h.same i g1 (by omega)
   rw [e i g1 g2, List.map_append] at this
   exact (List.nodup_append.1 this).2.2 _ (List.mem_map.2 ⟨m, hm, rfl⟩) _ (List.mem_map.2 ⟨n, hn, rfl⟩) en
  ·exact h.apart j i h1 hij (by omega) n hnf m hmf en.symm
 ·have := h.same j h1 (by omega)
  rw [e j h1 h2, List.map_append] at this
  exact (List.nodup_append.1 this).2.1
theorem dec_txt {l : EL} {leaf : Bool} (h : Ents.EncOk l leaf) : Ents.dec (txt (Ents.nodeB l leaf)).data.toList = some (l, leaf) := by rw [txt_list]; exact Ents.dec_node h
theorem fold_stand (d : Disk) (k : Nat) (hrec : ∀ (f : Nat → List Node) (v0 : V), Fam d k f v0 → (∀ j, 1 ≤ j → j < k → leads (f j) = ents (f (j + 1))) → ∃ u, allW d k (leads (f k)) v0 = .ok (v0 ++ u) ∧ MetAs k f u) :
  ∀ (L : List Node) (f : Nat → List Node) (v0 : V), f (k + 1) = L → Fam d (k + 1) f v0 → (∀ j, 1 ≤ j → j < k + 1 → leads (f j) = ents (f (j + 1))) → ∃ u, foldW (nodeW d (allW d k) (k + 1)) (leads L) v0 = .ok (v0 ++ u) ∧ MetAs (k + 1) f u
 | [], f, v0, hL, hf, hc => by
  have hnil : ∀ j, 1 ≤ j → j ≤ k + 1 → f j = [] := by
   intro j h1 h2
   obtain ⟨i, rfl⟩ : ∃ i, j = k + 1 - i := ⟨k + 1 - j, by omega⟩
   induction i with
   | zero => exact hL
   | succ i ih =>
    have h3 := ih (by omega) (by omega)
    have h4 := hc (k + 1 - (i + 1)) h1 (by omega)
    rw [show k + 1 - (i + 1) + 1 = k + 1 - i by omega, h3] at h4
    exact List.map_eq_nil_iff.1 h4
  refine ⟨[], by simp [leads, foldW], (fun x hx => by cases hx), fun j h1 h2 => by rw [hnil j h1 h2]; rfl, (fun x hx => by cases hx)⟩
 | n :: L, f, v0, hL, hf, hc => by
  have hnf : n ∈ f (k + 1) := by rw [hL]; simp
  have hst := hf.st (k + 1) (by omega) (Nat.le_refl _) n hnf
  have hnew := hf.new (k + 1) (by omega) (Nat.le_refl _) n hnf
  have hnd := hf.same (k + 1) (by omega) (Nat.le_refl _)
  rw [hL, List.map_cons, List.nodup_cons] at hnd
  obtain ⟨nb, nl⟩ := n
  obtain ⟨b, rfl⟩ : ∃ b : Nat, nb = (b : Int) := ⟨nb.toNat, by have := hst.lo; dsimp only at this; omega⟩
  have hrd := hst.rd
  have henc := hst.enc
  dsimp only at hrd henc hnew hnd
  rw [Int.toNat_natCast] at hrd hnew
  obtain ⟨A, B, e, hA, hB, cA, cB⟩ : ∃ A B : Nat → List Node, (∀ j, 1 ≤ j → j ≤ k → f j = A j ++ B j) ∧ (k ≠ 0 → leads (A k) = nl) ∧ (k ≠ 0 → leads (B k) = ents L) ∧ (∀ j, 1 ≤ j → j < k → leads (A j) = ents (A (j + 1))) ∧ ∀ j, 1 ≤ j → j < k → leads (B j) = ents (B (j + 1)) := by
   by_cases hk : k = 0
   ·subst hk
    exact ⟨fun _ => [], fun _ => [], fun j h1 h2 => by omega, fun h => absurd rfl h, fun h => absurd rfl h, fun j h1 h2 => by omega, fun j h1 h2 => by omega⟩
   ·have h1 := hc k (by omega) (by omega)
    rw [hL] at h1
    obtain ⟨A, B, e, a, b', ca, cb⟩ := split_levels k f nl (ents L) (by omega) (fun j g1 g2 => hc j g1 (by omega)) h1
    exact ⟨A, B, e, fun _ => a, fun _ => b', ca, cb⟩
  have hnode : ∃ u1, nodeW d (allW d k) (k + 1) ((nl.getD 0 (0, 0, 0)).1, (b : Int), 0) v0 = .ok (v0 ++ u1) ∧ MetAs (k + 1) (fun j => if j = k + 1 then [((b : Int), nl)] else A j) u1 := by
   rw [nodeW_ok hnew hrd (dec_txt henc) rfl rfl]
   by_cases hk : k = 0
   ·subst hk
    refine ⟨[⟨b, 1, nl, txt (Ents.nodeB nl true)⟩], rfl, fun x hx => ?_, fun j h1 h2 => ?_, fun x hx => ?_⟩
    ·obtain rfl := List.mem_singleton.1 hx; exact ⟨Nat.le_refl _, Nat.le_refl _⟩
    ·obtain rfl : j = 1 := by omega
     simp [lvl]
    ·obtain rfl := List.mem_singleton.1 hx; rfl
   ·have hlf : (k + 1 == 1) = false := by rw [beq_eq_false_iff_ne]; omega
    rw [hlf, if_neg (by decide)]
    have hfam : Fam d k A (v0 ++ [⟨b, k + 1, nl, txt (Ents.nodeB nl false)⟩]) := by
     have h0 : Fam d k A v0 := hf.left (by omega) (fun j h1 h2 => e j h1 h2)
     refine ⟨h0.st, fun j h1 h2 m hm => ?_, h0.same, h0.apart⟩
     rw [has_append, h0.new j h1 h2 m hm, Bool.false_or, Bool.eq_false_iff]
     intro hb
     simp [Forks.has] at hb
     have hmf : m ∈ f j := by rw [e j h1 h2]; exact List.mem_append_left _ hm
     have := (hf.st j h1 (by omega) m hmf).lo
     exact hf.apart j (k + 1) h1 (by omega) (Nat.le_refl _) m hmf _ hnf (by dsimp only; omega)
    obtain ⟨u, e1, m1⟩ := hrec A _ hfam cA
    rw [hA hk] at e1
    refine ⟨⟨b, k + 1, nl, txt (Ents.nodeB nl false)⟩ :: u, by rw [e1]; simp, fun x hx => ?_, fun j h1 h2 => ?_, fun x hx => ?_⟩
    all_goals (try dsimp only)
    ·rcases List.mem_cons.1 hx with rfl | hx
     ·exact ⟨by dsimp only; omega, Nat.le_refl _⟩
     ·have := m1.hs x hx; omega
    ·rw [show (⟨b, k + 1, nl, txt (Ents.nodeB nl false)⟩ :: u : V) = [⟨b, k + 1, nl, txt (Ents.nodeB nl false)⟩] ++ u from rfl, lvl_append]
     by_cases hj : j = k + 1
     ·subst hj
      rw [if_pos rfl, lvl_none (u := u) (fun y hy => by have := m1.hs y hy; omega), List.append_nil]
      simp [lvl]
     ·rw [if_neg hj, lvl_none (u := [⟨b, k + 1, nl, txt (Ents.nodeB nl false)⟩]) (fun y hy => by obtain rfl := List.mem_singleton.1 hy; dsimp only; omega), List.nil_append]
      exact m1.lv j h1 (by omega)
    ·rcases List.mem_cons.1 hx with rfl | hx
     ·dsimp only; rw [hlf]
     ·exact m1.tx x hx
  obtain ⟨u1, e1, m1⟩ := hnode
  have hfB : Fam d (k + 1) (fun j => if j = k + 1 then L else B j) (v0 ++ u1) := hf.right (Nat.le_refl _) (A := fun j => if j = k + 1 then [((b : Int), nl)] else A j) (fun j h1 h2 => by
   by_cases hj : j = k + 1
   ·subst hj; rw [if_pos rfl, if_pos rfl, hL]; rfl
   ·rw [if_neg hj, if_neg hj]; exact e j h1 (by omega)) m1
  obtain ⟨u2, e2, m2⟩ := fold_stand d k hrec L (fun j => if j = k + 1 then L else B j) (v0 ++ u1) (by rw [if_pos rfl]) hfB (fun j h1 h2 => by
   rw [if_neg (by omega)]
   by_cases hj : j = k
   ·subst hj; rw [if_pos rfl]; exact hB (by omega)
   ·rw [if_neg (by omega)]; exact cB j h1 (by omega))
  refine ⟨u1 ++ u2, ?_, fun x hx => ?_, fun j h1 h2 => ?_, fun x hx => ?_⟩
  ·show foldW _ (((nl.getD 0 (0, 0, 0)).1, (b : Int), 0) :: leads L) v0 = _
   unfold foldW
   rw [e1]
   dsimp only
   rw [e2, List.append_assoc]
  ·rcases List.mem_append.1 hx with h | h
   ·exact m1.hs x h
   ·exact m2.hs x h
  ·rw [lvl_append, m1.lv j h1 h2, m2.lv j h1 h2]
   by_cases hj : j = k + 1
   ·subst hj; rw [if_pos rfl, if_pos rfl, hL]; rfl
   ·rw [if_neg hj, if_neg hj, ← e j h1 (by omega)]
  ·rcases List.mem_append.1 hx with h | h
   ·exact m1.tx x h
   ·exact m2.tx x h
theorem allW_stand (d : Disk) : ∀ (k : Nat) (f : Nat → List Node) (v0 : V), Fam d k f v0 → (∀ j, 1 ≤ j → j < k → leads (f j) = ents (f (j + 1))) → ∃ u, allW d k (leads (f k)) v0 = .ok (v0 ++ u) ∧ MetAs k f u
 | 0, f, v0, _, _ => ⟨[], by simp [allW], .nil f⟩
 | k + 1, f, v0, hf, hc => by
  unfold allW
  exact fold_stand d k (fun f v0 hf hc => allW_stand d k f v0 hf hc) _ f v0 rfl hf hc
def Seen (d : Disk) (v : V) : Prop := ∀ x ∈ v, d.rd x.b = some x.s
theorem allW_seen (d : Disk) : ∀ (h : Nat) (l : EL) (v v' : V), Seen d v → allW d h l v = .ok v' → Seen d v'
 | 0, l, v, v', hg, he => by unfold allW at he; cases he; exact hg
 | h + 1, l, v, v', hg, he => by
  unfold allW at he
  refine foldW_ok (P := Seen d) (Q := fun _ => True) (fun x v v' _ hg he => ?_) l v v' (fun _ _ => trivial) hg he
  obtain ⟨hh, s, m, leaf, hs, hd, h1, h2, h3⟩ := nodeW_ok' he
  have hg' : Seen d (v ++ [⟨x.2.1.toNat, h + 1, m, s⟩]) := fun y hy => by
   rcases List.mem_append.1 hy with hy | hy
   ·exact hg y hy
   ·obtain rfl := List.mem_singleton.1 hy; exact hs
  split at h3
  ·cases h3; exact hg'
  ·exact allW_seen d h m _ v' hg' h3
theorem walkT_seen {d : Disk} {n : Nat} {root : EL} {v : V} {R : EL} (h : walkT d n root = .ok (v, R)) : Seen d v := by
 obtain ⟨hok, -, -⟩ := walkT_okr h
 by_cases h0 : n = 0
 ·subst h0
  rw [show ((0 : Nat) : Int) = 0 from rfl] at h hok
  rw [walkT_zero d root hok] at h
  split at h
  ·cases h; exact (fun x hx => by cases hx)
  ·cases h
 ·rw [walkT_pos d n root hok (by omega)] at h
  split at h
  ·cases h
  ·rename_i u hu
   split at h
   ·obtain ⟨rfl, rfl⟩ : u = v ∧ rowV u = R := by injection h with h; injection h with h1 h2; exact ⟨h1, h2⟩
    exact allW_seen d n root [] u (fun x hx => by cases hx) hu
   ·cases h
theorem good_uniq {v : V} (hg : Good v) {x y : Vis} (hx : x ∈ v) (hy : y ∈ v) (e : x.b = y.b) : x = y := by
 obtain ⟨i, hi, rfl⟩ := List.mem_iff_getElem.1 hx
 obtain ⟨j, hj, rfl⟩ := List.mem_iff_getElem.1 hy
 have h1 : (v.map fun x => x.b)[i]'(by simpa using hi) = (v.map fun x => x.b)[j]'(by simpa using hj) := by simpa using e
 have := (List.getElem_inj hg.ne).1 h1
 subst this
 rfl
theorem stands_old {d : Disk} {v : V} (hg : Good v) {x : Vis} (hx : x ∈ v) (hrd : d.rd x.b = some x.s) : Stands d x.h ((x.b : Int), x.l) := by
 have hb := hg.blk x hx
 obtain ⟨h1, h2⟩ := Ents.dec_some (hg.ok x hx)
 refine ⟨by dsimp only; omega, by dsimp only; omega, h1, ?_⟩
 dsimp only
 rw [Int.toNat_natCast, hrd, ← h2, txt_of]
theorem lvl_same' {v : V} (hg : Good v) (j : Nat) : ((lvl v j).map fun n => n.1).Nodup := by
 unfold lvl
 rw [List.map_map]
 have h1 : ((v.filter fun x => x.h == j).map fun x => x.b).Nodup := hg.ne.sublist (List.Sublist.map _ List.filter_sublist)
 rw [show ((fun n : Node => n.1) ∘ fun x : Vis => (((x.b : Nat) : Int), x.l)) = (fun n : Nat => (n : Int)) ∘ fun x : Vis => x.b from rfl, ← List.map_map]
 exact List.Pairwise.map _ (fun a b hab e => hab (by omega)) h1
theorem lvl_apart {v : V} (hg : Good v) {i j : Nat} (hij : i ≠ j) : ∀ n ∈ lvl v i, ∀ m ∈ lvl v j, n.1 ≠ m.1 := fun n hn m hm e => by
 obtain ⟨x, hx, rfl, rfl⟩ := lvl_mem.1 hn
 obtain ⟨y, hy, rfl, rfl⟩ := lvl_mem.1 hm
 have := good_uniq hg hx hy (by dsimp only at e; omega)
 subst this
 exact hij rfl
theorem fam_lvls {d : Disk} {v : V} (hg : Good v) (hs : Seen d v) (k : Nat) : Fam d k (fun j => lvl v j) [] :=
 ⟨fun j h1 h2 n hn => by
  obtain ⟨x, hx, rfl, rfl⟩ := lvl_mem.1 hn
  exact stands_old hg hx (hs x hx), fun j h1 h2 n hn => rfl, fun j h1 h2 => lvl_same' hg j, fun i j h1 h2 h3 => lvl_apart hg (by omega)⟩
theorem walk_stands {d : Disk} {n : Nat} {root row : EL} {f : Nat → List Node} (h0 : n = 0 → root = row) (h1 : n ≠ 0 → ents (f 1) = row ∧ leads (f n) = root) (hc : ∀ j, 1 ≤ j → j < n → leads (f j) = ents (f (j + 1))) (hok : RootOk n root) (hf : Fam d n f []) :
  ∃ v, MetAs n f v ∧ walkT d n root = if Ents.Row true row ∧ meets v row = false then .ok (v, row) else .error 80 := by
 by_cases hn : n = 0
 ·subst hn
  refine ⟨[], .nil f, ?_⟩
  rw [show ((0 : Nat) : Int) = 0 from rfl] at hok ⊢
  rw [walkT_zero d root hok, h0 rfl]
 ·obtain ⟨u, e, m⟩ := allW_stand d n f [] hf hc
  obtain ⟨g1, g2⟩ := h1 hn
  rw [g2, List.nil_append] at e
  refine ⟨u, m, ?_⟩
  rw [walkT_pos d n root hok hn, e]
  dsimp only
  rw [rowV_ents, m.lv 1 (Nat.le_refl _) (by omega), g1]
theorem MetAs.has_iff {k : Nat} {f : Nat → List Node} {u : V} (h : MetAs k f u) (b : Nat) : Forks.has u b = true ↔ ∃ j, 1 ≤ j ∧ j ≤ k ∧ ∃ n ∈ f j, n.1 = (b : Int) := by
 refine ⟨h.has, ?_⟩
 rintro ⟨j, h1, h2, n, hn, e⟩
 rw [← h.lv j h1 h2] at hn
 obtain ⟨x, hx, -, rfl⟩ := lvl_mem.1 hn
 exact List.any_eq_true.2 ⟨x, hx, by dsimp only at e; rw [beq_iff_eq]; omega⟩
open Go Go.RowKit
def gT (p : E → Bool) (tt : Int) (x : E) : E := if p x = true then (x.1, tt, x.2.2) else x
theorem gT_1 (p : E → Bool) (tt : Int) (x : E) : (gT p tt x).1 = x.1 := by unfold gT; split <;> rfl
theorem gT_3 (p : E → Bool) (tt : Int) (x : E) : (gT p tt x).2.2 = x.2.2 := by unfold gT; split <;> rfl
theorem gT_no {p : E → Bool} {tt : Int} {l : EL} (h : l.filter p = []) : l.map (gT p tt) = l := by
 rw [List.filter_eq_nil_iff] at h
 conv => rhs; rw [← List.map_id l]
 exact List.map_congr_left (fun x hx => by unfold gT; rw [if_neg (h x hx)]; rfl)
theorem gT_first (p : E → Bool) (tt : Int) (l : EL) : ((l.map (gT p tt)).getD 0 (0, 0, 0)).1 = (l.getD 0 (0, 0, 0)).1 := by
 cases l with
 | nil => rfl
 | cons x l => exact gT_1 p tt x
theorem turn_map {p : E → Bool} {tt : Int} {l : EL} (h : (l.filter p).length ≤ 1) : (if 0 ≤ idxOf p l then turnAt l (idxOf p l).toNat tt else l) = l.map (gT p tt) := by
 rcases idxOf_cases p l with hI | ⟨j, hj, hI⟩
 ·rw [hI, if_neg (by decide)]
  have ha := idxOf_any p l
  rw [hI, decide_eq_false (by decide)] at ha
  refine (gT_no (List.filter_eq_nil_iff.2 fun x hx hp => ?_)).symm
  have := List.any_eq_false.1 ha.symm x hx
  exact this hp
 ·obtain ⟨hj', hp, hb⟩ := idxOf_spec p l hI
  rw [hI, if_pos (by omega), Int.toNat_natCast]
  have e : l = l.take j ++ l[j] :: l.drop (j + 1) := by rw [← List.drop_eq_getElem_cons hj, List.take_append_drop]
  have h1 : (l.take j).filter p = [] := List.filter_eq_nil_iff.2 fun x hx hp => by
   obtain ⟨k, hk, rfl⟩ := List.mem_iff_getElem.1 hx
   rw [List.length_take] at hk
   have := hb k (by omega)
   rw [List.getElem_take] at hp
   rw [this] at hp
   cases hp
  have h2 : (l.drop (j + 1)).filter p = [] := by
   rw [e, List.filter_append, h1, List.nil_append, List.filter_cons, if_pos hp, List.length_cons] at h
   exact List.eq_nil_of_length_eq_zero (by omega)
  unfold turnAt
  rw [show l.getD j (0, 0, 0) = l[j] by simp [List.getD, hj]]
  rw [List.set_eq_take_append_cons_drop, if_pos hj]
  conv => rhs; rw [e]
  rw [List.map_append, List.map_cons, gT_no h1, gT_no h2]
  congr 2
  unfold gT
  rw [if_pos hp]
theorem okTo_map {leaf : Bool} {g : E → E} {l : EL} (h1 : ∀ x, (g x).1 = x.1) (h3 : ∀ x, (g x).2.2 = x.2.2) (hm : ∀ x ∈ l, Ents.may leaf (g x) = true) : ∀ i, i ≤ l.length → Ents.okTo leaf l i = true → Ents.okTo leaf (l.map g) i = true
 | 0, _, _ => rfl
 | i + 1, hi, h => by
  unfold Ents.okTo at h ⊢
  simp only [Bool.and_eq_true, Bool.or_eq_true] at h ⊢
  have ge : ∀ k, k < l.length → (l.map g).getD k (0, 0, 0) = g (l.getD k (0, 0, 0)) := fun k hk => by simp [List.getD, hk]
  have gm : l.getD i (0, 0, 0) ∈ l := by rw [show l.getD i (0, 0, 0) = l[i]'(by omega) by simp [List.getD, show i < l.length by omega]]; exact List.getElem_mem _
  refine ⟨⟨okTo_map h1 h3 hm i (by omega) h.1.1, by rw [ge i (by omega)]; exact hm _ gm⟩, h.2.imp id fun h2 => ?_⟩
  rw [ge i (by omega), ge (i - 1) (by omega)]
  unfold Ents.step at h2 ⊢
  rw [h1, h1, h3]
  exact h2
theorem row_map {leaf : Bool} {g : E → E} {l : EL} (h1 : ∀ x, (g x).1 = x.1) (h3 : ∀ x, (g x).2.2 = x.2.2) (hm : ∀ x ∈ l, Ents.may leaf (g x) = true) (h : Ents.Row leaf l) : Ents.Row leaf (l.map g) := by
 unfold Ents.Row
 rw [List.length_map]
 exact okTo_map h1 h3 hm _ (Nat.le_refl _) h
theorem enc_map {leaf : Bool} {g : E → E} {l : EL} (h1 : ∀ x, (g x).1 = x.1) (h3 : ∀ x, (g x).2.2 = x.2.2) (hm : ∀ x ∈ l, Ents.may leaf (g x) = true) (h : Ents.EncOk l leaf) : Ents.EncOk (l.map g) leaf :=
 ⟨by rw [List.length_map]; exact h.1, by rw [List.length_map]; exact h.2.1, row_map h1 h3 hm h.2.2⟩
theorem ents_filter_append {p : E → Bool} (A : List Node) (n : Node) (B : List Node) : (ents (A ++ n :: B)).filter p = (ents A).filter p ++ (n.2.filter p ++ (ents B).filter p) := by
 rw [ents_append, List.filter_append]
 show _ ++ List.filter p (n.2 ++ ents B) = _
 rw [List.filter_append]
theorem fold_no {v : V} {leaf : Bool} {p : E → Bool} {tt : Int} : ∀ (L : List Node) (c : CL), (ents L).filter p = [] → L.foldl (turnN v leaf p tt) c = c
 | [], c, _ => rfl
 | n :: L, c, h => by
  have h' : n.2.filter p ++ (ents L).filter p = [] := by rw [← List.filter_append]; exact h
  obtain ⟨h1, h2⟩ := List.append_eq_nil_iff.1 h'
  rw [List.foldl_cons]
  have : turnN v leaf p tt c n = c := by
   unfold turnN
   rw [if_neg]
   intro hI
   have ha := idxOf_any p n.2
   rw [decide_eq_true hI] at ha
   obtain ⟨x, hx, hp⟩ := List.any_eq_true.1 ha.symm
   exact (List.filter_eq_nil_iff.1 h1 x hx) hp
  rw [this]
  exact fold_no L c h2
def newT (leaf : Bool) (p : E → Bool) (tt : Int) (n : Node) : ByteArray := txt (Ents.nodeB (n.2.map (gT p tt)) leaf)
theorem turn_level {v : V} {leaf : Bool} {p : E → Bool} {tt : Int} (L : List Node) (h : ((ents L).filter p).length ≤ 1) (henc : ∀ n ∈ L, Ents.EncOk (n.2.map (gT p tt)) leaf) :
  (L.foldl (turnN v leaf p tt) [] = [] ∧ ∀ n ∈ L, newT leaf p tt n = textOf v n.1.toNat ∨ n.2.map (gT p tt) = n.2) ∨
  ∃ n ∈ L, L.foldl (turnN v leaf p tt) [] = [(n.1, newT leaf p tt n)] ∧ newT leaf p tt n ≠ textOf v n.1.toNat ∧ ∀ m ∈ L, m = n ∨ m.2.map (gT p tt) = m.2 := by
 by_cases h0 : (ents L).filter p = []
 ·left
  refine ⟨fold_no L [] h0, fun n hn => .inr (gT_no (List.filter_eq_nil_iff.2 fun x hx hp => ?_))⟩
  exact List.filter_eq_nil_iff.1 h0 x (mem_ents.2 ⟨n, hn, hx⟩) hp
 ·obtain ⟨x, hx⟩ := List.exists_mem_of_ne_nil _ h0
  obtain ⟨hx1, hp⟩ := List.mem_filter.1 hx
  obtain ⟨n, hn, hxn⟩ := mem_ents.1 hx1
  obtain ⟨A, B, rfl⟩ := List.append_of_mem hn
  rw [ents_filter_append] at h
  simp only [List.length_append] at h
  have hn1 : 1 ≤ (n.2.filter p).length := List.length_pos_iff.2 (List.ne_nil_of_mem (List.mem_filter.2 ⟨hxn, hp⟩))
  have hA : (ents A).filter p = [] := List.eq_nil_of_length_eq_zero (by omega)
  have hB : (ents B).filter p = [] := List.eq_nil_of_length_eq_zero (by omega)
  have hI : 0 ≤ idxOf p n.2 := by
   have ha := idxOf_any p n.2
   rw [show n.2.any p = true from List.any_eq_true.2 ⟨x, hxn, hp⟩] at ha
   exact of_decide_eq_true ha
  have htm := turn_map (tt := tt) (p := p) (l := n.2) (by omega)
  rw [if_pos hI] at htm
  have hid : ∀ m ∈ A ++ n :: B, m = n ∨ m.2.map (gT p tt) = m.2 := fun m hm => by
   rcases List.mem_append.1 hm with hm | hm
   ·exact .inr (gT_no (List.filter_eq_nil_iff.2 fun y hy hq => List.filter_eq_nil_iff.1 hA y (mem_ents.2 ⟨m, hm, hy⟩) hq))
   ·rcases List.mem_cons.1 hm with rfl | hm
    ·exact .inl rfl
    ·exact .inr (gT_no (List.filter_eq_nil_iff.2 fun y hy hq => List.filter_eq_nil_iff.1 hB y (mem_ents.2 ⟨m, hm, hy⟩) hq))
  have hER : Ents.encR (n.2.map (gT p tt)) leaf = (Ents.nodeB (n.2.map (gT p tt)) leaf, 0) := if_pos (henc n hn)
  have hf : (A ++ n :: B).foldl (turnN v leaf p tt) [] = turnN v leaf p tt [] n := by
   rw [List.foldl_append, fold_no A [] hA, List.foldl_cons, fold_no B _ hB]
  have ht : turnN v leaf p tt [] n = if newT leaf p tt n ≠ textOf v n.1.toNat then [(n.1, newT leaf p tt n)] else [] := by
   unfold turnN
   rw [if_pos hI, htm, hER]
   dsimp only
   by_cases hne : newT leaf p tt n ≠ textOf v n.1.toNat
   ·rw [if_pos hne, if_pos ⟨rfl, str_ne hne⟩]; rfl
   ·rw [if_neg hne, if_neg]
    rintro ⟨-, h2⟩
    rw [str_eq (Decidable.not_not.1 hne : txt (Ents.nodeB (n.2.map (gT p tt)) leaf) = _)] at h2
    cases h2
  by_cases hne : newT leaf p tt n ≠ textOf v n.1.toNat
  ·right
   exact ⟨n, hn, by rw [hf, ht, if_pos hne], hne, hid⟩
  ·left
   refine ⟨by rw [hf, ht, if_neg hne], fun m hm => ?_⟩
   rcases hid m hm with rfl | h
   ·exact .inl (Decidable.not_not.1 hne)
   ·exact .inr h
def putC (C : CL) (L : List ByteArray) : List ByteArray := C.foldl (fun B x => putD x B) L
theorem putC_len (C : CL) (L : List ByteArray) : (putC C L).length = L.length := fold_putD_len C L
theorem putD_at {x : Int × ByteArray} {L : List ByteArray} (hL : L.length = 4096) (h1 : 0 ≤ x.1) (h2 : x.1 < 4096) (b : Nat) : (putD x L)[b]? = if (b : Int) = x.1 then some x.2 else L[b]? := by
 unfold putD
 rw [if_pos ⟨h1, h2⟩, List.getElem?_set]
 by_cases h : (b : Int) = x.1
 ·rw [if_pos h, if_pos (by omega), if_pos (by omega)]
 ·rw [if_neg h, if_neg (by omega)]
theorem rd_old {L : List ByteArray} {bad : Int} {b : Nat} {s : ByteArray} (h : (⟨L, bad⟩ : Disk).rd b = some s) : L[b]? = some s := by
 unfold Disk.rd at h
 split at h
 ·cases h
 ·exact h
theorem rd_new (L : List ByteArray) (b : Nat) : (⟨L, -1⟩ : Disk).rd b = L[b]? := by
 unfold Disk.rd
 rw [if_neg (by dsimp only; omega)]
theorem textOf_at {v : V} (hg : Good v) {x : Vis} (hx : x ∈ v) : textOf v x.b = x.s := by
 unfold textOf
 cases h : v.find? fun y => y.b == x.b with
 | none =>
  have := List.find?_eq_none.1 h x hx
  simp at this
 | some y =>
  have h1 := List.mem_of_find?_eq_some h
  have h2 := List.find?_some h
  have := good_uniq hg h1 hx (by simpa using h2)
  rw [this]
theorem exts_one (lg n : Int) : ∀ (l : EL), Exts.Row l → (l.filter (isM lg n)).length ≤ 1
 | [], _ => by simp
 | x :: l, h => by
  rw [List.filter_cons]
  split
  ·rename_i hx
   have : l.filter (isM lg n) = [] := List.filter_eq_nil_iff.2 fun y hy hp => by
    have h1 := h.2.1 y hy
    have h2 := h.1
    unfold Exts.may at h2
    unfold isM at hx hp
    simp at hx hp
    have : Exts.fin x = x.1 + x.2.2 := rfl
    omega
   rw [this]
   simp
  ·exact exts_one lg n l h.2.2
theorem ents_map (g : EL → EL) (hg : ∀ a b, g (a ++ b) = g a ++ g b) (h0 : g [] = []) (bl : Int → Int) : ∀ L : List Node, ents (L.map fun m => (bl m.1, g m.2)) = g (ents L)
 | [] => h0.symm
 | n :: L => by
  rw [List.map_cons]
  show g n.2 ++ ents (L.map _) = _
  rw [ents_map g hg h0 bl L, ← hg]
  rfl
theorem meets_no {v : V} {R : EL} (hg : Good v) (h : meets v R = false) {b : Nat} (hb : has v b = true) : taken R (b : Int) = false := by
 unfold meets nodes at h
 have := List.any_eq_false.1 h b (List.mem_filter.2 ⟨List.mem_range.2 (by
  obtain ⟨x, hx, e⟩ := List.any_eq_true.1 hb
  have := hg.blk x hx
  simp at e
  omega), hb⟩)
 simpa using this
theorem meets_mk {v : V} {R : EL} (h : ∀ b : Nat, has v b = true → taken R (b : Int) = false) : meets v R = false := by
 unfold meets nodes
 rw [List.any_eq_false]
 intro b hb
 rw [h b (List.mem_filter.1 hb).2]
 decide
set_option maxRecDepth 100000 in
set_option maxHeartbeats 1000000 in
theorem move_standsL {L : List ByteArray} {bad : Int} {d : Nat} {root : EL} {v : V} {R : EL} {lg n tt : Int} {s : SetR} (hL : L.length = 4096) (hw : walkT ⟨L, bad⟩ d root = .ok (v, R)) (hm : moveV v d root R lg n tt = .ok s) :
  s.depth = d ∧ s.freed = [] ∧ s.changes.length ≤ 1 ∧ (∀ x ∈ s.changes, 0 ≤ x.1 ∧ x.1 < 4096 ∧ has v x.1.toNat = true ∧ L[x.1.toNat]? ≠ some x.2) ∧ s.root.length = root.length ∧ (d ≠ 0 → s.root = root) ∧
  ∃ v', walkT ⟨putC s.changes L, -1⟩ d s.root = .ok (v', R.map (gT (isM lg n) tt)) ∧ (∀ b, has v' b = has v b) ∧ ∀ j, 1 ≤ j → j ≤ d → (lvl v' j).map (fun n => n.2.length) = (lvl v j).map (fun n => n.2.length) := by
 obtain ⟨hok, hrow, hme⟩ := walkT_okr hw
 obtain ⟨hch, hhs⟩ := walk_chain hw
 have hg := walkT_good hw
 have hseen := walkT_seen hw
 unfold moveV at hm
 split at hm
 ·cases hm
 rename_i q1
 split at hm
 ·cases hm
 rename_i q2
 split at hm
 ·cases hm
 rename_i q3
 split at hm
 ·cases hm
 rename_i q4
 injection hm with hm
 have hone := exts_one lg n R hrow
 have hmay : ∀ x ∈ R, Exts.may (gT (isM lg n) tt x) := fun x hx => by
  have := hrow.may x hx
  unfold gT
  split
  ·rename_i hp
   unfold isM at hp
   simp at hp
   unfold Exts.may at this ⊢
   dsimp only
   omega
  ·exact this
 have hmayE : ∀ x ∈ R, Ents.may true (gT (isM lg n) tt x) = true := fun x hx => decide_eq_true (hmay x hx)
 have hrow' : Ents.Row true (R.map (gT (isM lg n) tt)) := row_map (gT_1 _ _) (gT_3 _ _) hmayE (Ents.row_leaf.2 hrow)
 have htk : ∀ b : Nat, has v b = true → taken (R.map (gT (isM lg n) tt)) (b : Int) = false := fun b hb => by
  have h1 := meets_no hg hme hb
  unfold taken at h1 ⊢
  rw [List.any_map, List.any_eq_false]
  intro x hx
  have h2 := List.any_eq_false.1 h1 x hx
  show ¬ inX (b : Int) (gT (isM lg n) tt x) = true
  unfold gT
  split
  ·rename_i hp
   unfold isM at hp
   simp at hp
   have h3 := List.any_eq_false.1 (by simpa using q4) ((b : Int)) (by
    unfold natI
    exact List.mem_map.2 ⟨b, List.mem_filter.2 ⟨List.mem_range.2 (by
     obtain ⟨y, hy, e⟩ := List.any_eq_true.1 hb
     have := hg.blk y hy
     simp at e
     omega), hb⟩, rfl⟩)
   unfold inM at h3
   unfold inX
   simp at h3 ⊢
   omega
  ·exact h2
 by_cases hd : d = 0
 ·-- the root is the row
  subst hd
  have hR : root = R := by
   rw [lvls] at hch
   exact hch
  have hv : v = [] := by
   cases v with
   | nil => rfl
   | cons x v => have := hhs x (by simp); omega
  subst hR hv
  have hs : s = ⟨0, root.map (gT (isM lg n) tt), [], []⟩ := by
   rw [← hm]
   unfold turnedT
   rw [if_pos rfl, turn_map hone]
   rfl
  subst hs
  refine ⟨rfl, rfl, by simp, (fun x hx => by cases hx), by simp, fun h => absurd rfl h, [], ?_, fun b => rfl, fun j h1 h2 => by omega⟩
  have hok' : RootOk 0 (root.map (gT (isM lg n) tt)) := ⟨by omega, by omega, by rw [List.length_map]; exact hok.2.2.1, fun h => by omega, hrow'⟩
  rw [show ((0 : Nat) : Int) = 0 from rfl, walkT_zero _ _ hok', if_pos ⟨hrow', rfl⟩]
 ·have hs : s = ⟨d, root, (lvl v 1).foldl (turnN v true (isM lg n) tt) [], []⟩ := by
   rw [← hm]
   unfold turnedT
   rw [if_neg hd]
   rfl
  have hent : ents (lvl v 1) = R := by
   have h1 := hch.first (by rw [lvls_len]; omega)
   rw [lvls_at v d 0 (by omega)] at h1
   exact h1
  have henc : ∀ m ∈ lvl v 1, Ents.EncOk (m.2.map (gT (isM lg n) tt)) true := fun m hm => by
   obtain ⟨x, hx, hxh, rfl⟩ := lvl_mem.1 hm
   have h1 := hg.enc x hx
   rw [hxh] at h1
   refine enc_map (gT_1 _ _) (gT_3 _ _) (fun y hy => ?_) h1
   exact hmayE y (by rw [← hent]; exact mem_ents.2 ⟨_, hm, hy⟩)
  have htl := turn_level (v := v) (leaf := true) (p := isM lg n) (tt := tt) (lvl v 1) (by rw [hent]; exact hone) henc
  have hC : s.changes = (lvl v 1).foldl (turnN v true (isM lg n) tt) [] := by rw [hs]
  have key : s.changes.length ≤ 1 ∧ (∀ x ∈ s.changes, 0 ≤ x.1 ∧ x.1 < 4096 ∧ has v x.1.toNat = true ∧ L[x.1.toNat]? ≠ some x.2) ∧ (∀ m ∈ lvl v 1, (putC s.changes L)[m.1.toNat]? = some (newT true (isM lg n) tt m)) ∧ ∀ x ∈ v, x.h ≠ 1 → (putC s.changes L)[x.b]? = some x.s := by
   rw [hC]
   have hold : ∀ x ∈ v, L[x.b]? = some x.s := fun x hx => rd_old (hseen x hx)
   have hself : ∀ m ∈ lvl v 1, m.2.map (gT (isM lg n) tt) = m.2 → newT true (isM lg n) tt m = textOf v m.1.toNat := fun m hm e => by
    obtain ⟨x, hx, hxh, rfl⟩ := lvl_mem.1 hm
    unfold newT
    dsimp only at e ⊢
    rw [e, Int.toNat_natCast, textOf_at hg hx]
    have h1 := (Ents.dec_some (hg.ok x hx)).2
    rw [hxh] at h1
    rw [show txt (Ents.nodeB x.l true) = txt x.s.data.toList by rw [h1]; rfl, txt_of]
   have htx : ∀ m ∈ lvl v 1, L[m.1.toNat]? = some (textOf v m.1.toNat) := fun m hm => by
    obtain ⟨x, hx, hxh, rfl⟩ := lvl_mem.1 hm
    dsimp only
    rw [Int.toNat_natCast, textOf_at hg hx]
    exact hold x hx
   rcases htl with ⟨e, h⟩ | ⟨m, hm, e, hne, h⟩
   ·rw [e]
    refine ⟨by simp, (fun x hx => by cases hx), fun m hm => ?_, fun x hx _ => hold x hx⟩
    show L[m.1.toNat]? = _
    rw [htx m hm]
    rcases h m hm with h | h
    ·rw [h]
    ·rw [hself m hm h]
   ·rw [e]
    obtain ⟨x, hx, hxh, hmx⟩ := lvl_mem.1 hm
    have hb := hg.blk x hx
    have hm1 : m.1 = (x.b : Int) := by rw [hmx]
    have hput : ∀ b : Nat, (putC [(m.1, newT true (isM lg n) tt m)] L)[b]? = if (b : Int) = m.1 then some (newT true (isM lg n) tt m) else L[b]? := fun b => putD_at hL (by dsimp only; omega) (by dsimp only; omega) b
    refine ⟨by simp, fun y hy => ?_, fun m2 hm2 => ?_, fun y hy hy1 => ?_⟩
    ·obtain rfl := List.mem_singleton.1 hy
     dsimp only
     refine ⟨by omega, by omega, ?_, ?_⟩
     ·rw [hm1, Int.toNat_natCast]
      exact List.any_eq_true.2 ⟨x, hx, by simp⟩
     ·rw [htx m hm]
      intro e2
      injection e2 with e2
      exact hne e2.symm
    ·obtain ⟨x2, hx2, hxh2, hmx2⟩ := lvl_mem.1 hm2
     rw [hput]
     have hm21 : m2.1 = (x2.b : Int) := by rw [hmx2]
     by_cases he : ((m2.1.toNat : Nat) : Int) = m.1
     ·have : x2 = x := good_uniq hg hx2 hx (by omega)
      subst this
      rw [if_pos he, hmx, ← hmx2]
     ·rw [if_neg he, htx m2 hm2]
      rcases h m2 hm2 with rfl | h
      ·exact absurd (by omega) he
      ·rw [hself m2 hm2 h]
    ·rw [hput, if_neg]
     ·exact hold y hy
     ·intro he
      have : y = x := good_uniq hg hy hx (by omega)
      subst this
      exact hy1 hxh
  obtain ⟨k1, k2, k3, k4⟩ := key
  have hsr : s.root = root := by rw [hs]
  refine ⟨by rw [hs], by rw [hs], k1, k2, by rw [hsr], fun _ => hsr, ?_⟩
  rw [hsr]
  have hfam0 := fam_lvls hg hseen d
  obtain ⟨-, hc1, hc2⟩ := chain_to _ _ _ hch
  have hlv : lvls v d ≠ [] := fun h => hd (by have := lvls_len v d; rw [h] at this; simpa using this.symm)
  have hleads : ∀ j, leads ((lvl v j).map fun m => (m.1, m.2.map (gT (isM lg n) tt))) = leads (lvl v j) := fun j => by
   unfold leads
   rw [List.map_map]
   refine List.map_congr_left (fun m _ => ?_)
   show ((((m.2.map (gT (isM lg n) tt)).getD 0 (0, 0, 0)).1, m.1, 0) : E) = _
   rw [gT_first]
  have hfam : Fam ⟨putC s.changes L, -1⟩ d (fun j => if j = 1 then (lvl v 1).map fun m => (m.1, m.2.map (gT (isM lg n) tt)) else lvl v j) [] := by
   refine ⟨fun j h1 h2 m hm => ?_, fun j h1 h2 m hm => rfl, fun j h1 h2 => ?_, fun i j h1 h2 h3 m hm m' hm' => ?_⟩
   all_goals (try dsimp only at *)
   ·by_cases hj : j = 1
    ·subst hj
     rw [if_pos rfl] at hm
     obtain ⟨m', hm', rfl⟩ := List.mem_map.1 hm
     have hst := hfam0.st 1 (Nat.le_refl _) h2 m' hm'
     refine ⟨hst.lo, hst.hi, henc m' hm', ?_⟩
     rw [rd_new]
     exact k3 m' hm'
    ·rw [if_neg hj] at hm
     obtain ⟨x, hx, rfl, rfl⟩ := lvl_mem.1 hm
     exact stands_old hg hx (by rw [rd_new]; exact k4 x hx hj)
   ·by_cases hj : j = 1
    ·subst hj
     rw [if_pos rfl, List.map_map]
     exact lvl_same' hg 1
    ·rw [if_neg hj]
     exact lvl_same' hg j
   ·have hm1 : ∃ m1 ∈ lvl v i, m1.1 = m.1 := by
     by_cases hj : i = 1
     ·subst hj
      rw [if_pos rfl] at hm
      obtain ⟨m', hm', rfl⟩ := List.mem_map.1 hm
      exact ⟨m', hm', rfl⟩
     ·rw [if_neg hj] at hm
      exact ⟨m, hm, rfl⟩
    rw [if_neg (by omega)] at hm'
    obtain ⟨m1, hm1, e⟩ := hm1
    rw [← e]
    exact lvl_apart hg (by omega) m1 hm1 m' hm'
  obtain ⟨u, hu, hwu⟩ := walk_stands (d := ⟨putC s.changes L, -1⟩) (n := d) (root := root) (row := R.map (gT (isM lg n) tt)) (f := fun j => if j = 1 then (lvl v 1).map fun m => (m.1, m.2.map (gT (isM lg n) tt)) else lvl v j) (fun h => absurd h hd) (fun _ => by
   refine ⟨?_, ?_⟩
   ·rw [if_pos rfl]
    have := ents_map (List.map (gT (isM lg n) tt)) (fun a b => List.map_append) rfl id (lvl v 1)
    rw [hent] at this
    exact this
   ·have h2 := (hc1 hlv).2
    rw [lvls_len, lvls_at v d (d - 1) (by omega), show d - 1 + 1 = d by omega] at h2
    by_cases hd1 : d = 1
    ·subst hd1; rw [if_pos rfl, hleads]; exact h2
    ·rw [if_neg hd1]; exact h2) (fun j h1 h2 => by
   have h3 := hc2 (j - 1) (by rw [lvls_len]; omega)
   rw [lvls_at v d (j - 1) (by omega), lvls_at v d (j - 1 + 1) (by omega), show j - 1 + 1 = j by omega] at h3
   rw [if_neg (show ¬ j + 1 = 1 by omega)]
   by_cases hj : j = 1
   ·subst hj; rw [if_pos rfl, hleads]; exact h3
   ·rw [if_neg hj]; exact h3) hok hfam
  ·refine ⟨u, ?_, fun b => ?_, fun j h1 h2 => ?_⟩
   case refine_3 =>
    rw [hu.lv j h1 h2]
    by_cases hj : j = 1
    ·subst hj
     rw [if_pos rfl, List.map_map]
     refine List.map_congr_left (fun m _ => ?_)
     show (m.2.map (gT (isM lg n) tt)).length = m.2.length
     rw [List.length_map]
    ·rw [if_neg hj]
   ·have hhas : ∀ b, has u b = has v b := fun b => by
     rw [Bool.eq_iff_iff, hu.has_iff]
     constructor
     ·rintro ⟨j, h1, h2, m, hm, e⟩
      have hm' : ∃ m' ∈ lvl v j, m'.1 = (b : Int) := by
       by_cases hj : j = 1
       ·subst hj
        rw [if_pos rfl] at hm
        obtain ⟨m', hm', rfl⟩ := List.mem_map.1 hm
        exact ⟨m', hm', e⟩
       ·rw [if_neg hj] at hm
        exact ⟨m, hm, e⟩
      obtain ⟨m', hm', e'⟩ := hm'
      obtain ⟨x, hx, -, rfl⟩ := lvl_mem.1 hm'
      exact List.any_eq_true.2 ⟨x, hx, by dsimp only at e'; rw [beq_iff_eq]; omega⟩
     ·intro hb
      obtain ⟨x, hx, e⟩ := List.any_eq_true.1 hb
      rw [beq_iff_eq] at e
      obtain ⟨h1, h2⟩ := hhs x hx
      refine ⟨x.h, h1, h2, ?_⟩
      by_cases hj : x.h = 1
      ·rw [if_pos hj]
       exact ⟨_, List.mem_map.2 ⟨_, lvl_mem.2 ⟨x, hx, hj, rfl⟩, rfl⟩, by dsimp only; omega⟩
      ·rw [if_neg hj]
       exact ⟨_, lvl_mem.2 ⟨x, hx, rfl, rfl⟩, by dsimp only; omega⟩
    rw [hwu, if_pos ⟨hrow', meets_mk (fun b hb => htk b (by rw [← hhas b]; exact hb))⟩]
   ·rw [Bool.eq_iff_iff, hu.has_iff]
    constructor
    ·rintro ⟨j, h1, h2, m, hm, e⟩
     have hm' : ∃ m' ∈ lvl v j, m'.1 = (b : Int) := by
      by_cases hj : j = 1
      ·subst hj
       rw [if_pos rfl] at hm
       obtain ⟨m', hm', rfl⟩ := List.mem_map.1 hm
       exact ⟨m', hm', e⟩
      ·rw [if_neg hj] at hm
       exact ⟨m, hm, e⟩
     obtain ⟨m', hm', e'⟩ := hm'
     obtain ⟨x, hx, -, rfl⟩ := lvl_mem.1 hm'
     exact List.any_eq_true.2 ⟨x, hx, by dsimp only at e'; rw [beq_iff_eq]; omega⟩
    ·intro hb
     obtain ⟨x, hx, e⟩ := List.any_eq_true.1 hb
     rw [beq_iff_eq] at e
     obtain ⟨h1, h2⟩ := hhs x hx
     refine ⟨x.h, h1, h2, ?_⟩
     by_cases hj : x.h = 1
     ·rw [if_pos hj]
      exact ⟨_, List.mem_map.2 ⟨_, lvl_mem.2 ⟨x, hx, hj, rfl⟩, rfl⟩, by dsimp only; omega⟩
     ·rw [if_neg hj]
      exact ⟨_, lvl_mem.2 ⟨x, hx, rfl, rfl⟩, by dsimp only; omega⟩
end Go.Proofs.YtgjmeeiejcbjfaaGreat.Forks
namespace Go.Proofs.YtgjmeeiejcbjfaaGreat.Forks
open Go Go.RowKit
def Rise (l : EL) : Prop := l.Pairwise fun x y => x.1 < y.1
theorem rise_row : ∀ {l : EL}, Exts.Row l → Rise l
 | [], _ => List.Pairwise.nil
 | x :: l, h => by
  refine List.pairwise_cons.2 ⟨fun y hy => ?_, rise_row h.2.2⟩
  have h1 := h.2.1 y hy
  have h2 := h.1
  unfold Exts.may at h2
  have : Exts.fin x = x.1 + x.2.2 := rfl
  omega
theorem first_mem {l : EL} (h : 1 ≤ l.length) : l.getD 0 (0, 0, 0) ∈ l := by
 rw [show l.getD 0 (0, 0, 0) = l[0] by simp [List.getD, show 0 < l.length by omega]]
 exact List.getElem_mem _
theorem rise_leads : ∀ {L : List Node}, Rise (ents L) → Fed L → Rise (leads L)
 | [], _, _ => List.Pairwise.nil
 | n :: L, h, hf => by
  obtain ⟨h1, h2, h3⟩ := List.pairwise_append.1 (show Rise (n.2 ++ ents L) from h)
  refine List.pairwise_cons.2 ⟨fun y hy => ?_, rise_leads h2 (fun m hm => hf m (by simp [hm]))⟩
  obtain ⟨m, hm, rfl⟩ := List.mem_map.1 hy
  exact h3 (n.2.getD 0 (0, 0, 0)) (first_mem (hf n (by simp)).1) (m.2.getD 0 (0, 0, 0)) (mem_ents.2 ⟨m, hm, first_mem (hf m (by simp [hm])).1⟩)
theorem rise_node : ∀ {L : List Node}, Rise (ents L) → ∀ n ∈ L, Rise n.2
 | [], _, n, hn => by cases hn
 | m :: L, h, n, hn => by
  obtain ⟨h1, h2, -⟩ := List.pairwise_append.1 (show Rise (m.2 ++ ents L) from h)
  rcases List.mem_cons.1 hn with rfl | hn
  ·exact h1
  ·exact rise_node h2 n hn
theorem row_node : ∀ {L : List Node}, Exts.Row (ents L) → ∀ n ∈ L, Exts.Row n.2
 | [], _, n, hn => by cases hn
 | m :: L, h, n, hn => by
  obtain ⟨h1, h2, -⟩ := Exts.row_append_iff.1 (show Exts.Row (m.2 ++ ents L) from h)
  rcases List.mem_cons.1 hn with rfl | hn
  ·exact h1
  ·exact row_node h2 n hn
theorem chain_rise : ∀ (LV : List (List Node)) (row root : EL), Rise row → Chain row LV root → (∀ L ∈ LV, Fed L) → (∀ h, Rise (ents (LV.getD h []))) ∧ Rise root
 | [], row, root, hr, h, _ => ⟨fun h => List.Pairwise.nil, by rw [show root = row from h]; exact hr⟩
 | L :: LV, row, root, hr, h, hf => by
  obtain ⟨h1, h2⟩ := h
  have hL : Rise (ents L) := by rw [h1]; exact hr
  obtain ⟨a, b⟩ := chain_rise LV (leads L) root (rise_leads hL (hf L (by simp))) h2 (fun X hX => hf X (by simp [hX]))
  refine ⟨fun h => ?_, b⟩
  cases h with
  | zero => exact hL
  | succ h => exact a h
theorem rise_okTo {l : EL} (hr : Rise l) (hm : ∀ x ∈ l, Ents.mayN x) : ∀ i, i ≤ l.length → Ents.okTo false l i = true
 | 0, _ => rfl
 | i + 1, hi => by
  have hi' : i < l.length := by omega
  have e : l.getD i (0, 0, 0) = l[i] := by simp [List.getD, hi']
  have h1 := hm _ (List.getElem_mem hi')
  unfold Ents.okTo
  rw [rise_okTo hr hm i (by omega), e]
  simp only [Bool.true_and, Bool.and_eq_true, Bool.or_eq_true]
  refine ⟨by simp [Ents.may, h1], ?_⟩
  by_cases h0 : i = 0
  ·left; simp [h0]
  ·right
   rw [show l.getD (i - 1) (0, 0, 0) = l[i - 1]'(by omega) by simp [List.getD, show i - 1 < l.length by omega]]
   have h2 := (List.pairwise_iff_getElem.1 hr) (i - 1) i (by omega) hi' (by omega)
   have h3 := hm _ (List.getElem_mem (show i - 1 < l.length by omega))
   unfold Ents.mayN at h3
   unfold Ents.step
   simp only [Bool.and_eq_true, decide_eq_true_eq]
   omega
theorem knownT_false (T : IL) (l : EL) : knownT T false l = l.map fun x => (x.1, blockT T x.2.1, x.2.2) := rfl
theorem rise_known {T : IL} {l : EL} (h : Rise l) : Rise (knownT T false l) := List.Pairwise.map _ (fun a b hab => hab) h
section
variable {row root : EL} {LV : List (List Node)} {m : Nat} {T : IL}
theorem lead_may (hr : Exts.Row row) (hm : m ≤ 1000000) (hT : ToldOk m T) {x : E} (h : ∃ y ∈ row, x.1 = y.1) (hn : Named m x.2.1 ∧ x.2.2 = 0) : Ents.mayN (x.1, blockT T x.2.1, x.2.2) := by
 obtain ⟨y, hy, e⟩ := h
 have h1 := row_small hr y hy
 have h2 := hT.ask hm hn.1
 unfold Ents.mayN
 dsimp only
 omega
theorem enc_shape (hr : Exts.Row row) (hc : Chain row LV root) (hf : ∀ L ∈ LV, Fed L) (hn : ∀ L ∈ LV, NamedL m L) (hm : m ≤ 1000000) (hT : ToldOk m T) :
  (∀ h, ∀ n ∈ LV.getD h [], Ents.EncOk (knownT T (h == 0) n.2) (h == 0)) ∧ Ents.Row (LV.length == 0) (knownT T (LV.length == 0) root) := by
 obtain ⟨l1, l2⟩ := hc.logical hf
 obtain ⟨r1, r2⟩ := chain_rise LV row root (rise_row hr) hc hf
 have hget : ∀ h, h < LV.length → LV.getD h [] ∈ LV := fun h hh => by rw [show LV.getD h [] = LV[h] by simp [List.getD, hh]]; exact List.getElem_mem hh
 have hnone : ∀ h, ¬ h < LV.length → LV.getD h [] = [] := fun h hh => by simp [List.getD, Nat.le_of_not_lt hh]
 constructor
 ·intro h n hn'
  by_cases hh : h < LV.length
  ·have hF := hf _ (hget h hh) n hn'
   cases h with
   | zero => exact ⟨hF.1, hF.2, Ents.row_leaf.2 (row_node (by rw [hc.first hh]; exact hr) n hn')⟩
   | succ k =>
    rw [show (k + 1 == 0) = false from rfl, knownT_false]
    refine ⟨by rw [List.length_map]; exact hF.1, by rw [List.length_map]; exact hF.2, ?_⟩
    unfold Ents.Row
    refine rise_okTo (rise_known (rise_node (r1 (k + 1)) n hn')) (fun x hx => ?_) _ (Nat.le_refl _)
    obtain ⟨y, hy, rfl⟩ := List.mem_map.1 hx
    refine lead_may hr hm hT (l1 _ (hget _ hh) n hn' y hy) ?_
    have : y ∈ leads (LV.getD k []) := by rw [← hc.next k hh]; exact mem_ents.2 ⟨n, hn', hy⟩
    exact leads_ok (hn _ (hget k (by omega))) y this
  ·rw [hnone h hh] at hn'; cases hn'
 ·cases hl : LV.length with
  | zero =>
   have e : LV = [] := List.eq_nil_of_length_eq_zero hl
   subst e
   rw [show root = row from hc]
   exact Ents.row_leaf.2 hr
  | succ k =>
   rw [show (k + 1 == 0) = false from rfl, knownT_false]
   unfold Ents.Row
   refine rise_okTo (rise_known r2) (fun x hx => ?_) _ (Nat.le_refl _)
   obtain ⟨y, hy, rfl⟩ := List.mem_map.1 hx
   refine lead_may hr hm hT (l2 y hy) ?_
   rw [hc.root k hl] at hy
   exact leads_ok (hn _ (hget k (by omega))) y hy
end
def keyT (T : IL) (n : Node) : Nat := (blockT T n.1).toNat
theorem putL_get (T : IL) (leaf : Bool) : ∀ (L : List Node) (TX : List ByteArray), (∀ n ∈ L, Ents.EncOk (knownT T leaf n.2) leaf) → (∀ n ∈ L, keyT T n < TX.length) → (L.map (keyT T)).Nodup →
  ∃ TX', putL T leaf L TX = .ok TX' ∧ TX'.length = TX.length ∧ (∀ n ∈ L, TX'[keyT T n]? = some (nodeTxt T leaf n)) ∧ ∀ b, (∀ n ∈ L, keyT T n ≠ b) → TX'[b]? = TX[b]?
 | [], TX, _, _, _ => ⟨TX, rfl, rfl, (fun n h => by cases h), fun b _ => rfl⟩
 | n :: L, TX, h1, h2, h3 => by
  rw [List.map_cons] at h3
  obtain ⟨h4, h5⟩ := List.nodup_cons.1 h3
  obtain ⟨TX', e1, e2, e3, e4⟩ := putL_get T leaf L (TX.set (keyT T n) (nodeTxt T leaf n)) (fun m hm => h1 m (by simp [hm])) (fun m hm => by rw [List.length_set]; exact h2 m (by simp [hm])) h5
  refine ⟨TX', by rw [putL, if_pos (h1 n (by simp))]; exact e1, by rw [e2, List.length_set], fun m hm => ?_, fun b hb => ?_⟩
  ·rcases List.mem_cons.1 hm with rfl | hm
   ·rw [e4 _ (fun k hk e => h4 (List.mem_map.2 ⟨k, hk, e⟩)), List.getElem?_set, if_pos rfl, if_pos (h2 m (by simp))]
   ·exact e3 m hm
  ·rw [e4 b (fun m hm => hb m (by simp [hm])), List.getElem?_set, if_neg (hb n (by simp))]
theorem putLs_get (T : IL) : ∀ (LV : List (List Node)) (h : Nat) (TX : List ByteArray), (∀ i, ∀ n ∈ LV.getD i [], Ents.EncOk (knownT T (h + i == 0) n.2) (h + i == 0)) → (∀ i, ∀ n ∈ LV.getD i [], keyT T n < TX.length) → (∀ i, ((LV.getD i []).map (keyT T)).Nodup) →
  (∀ i j, i < j → ∀ n ∈ LV.getD i [], ∀ k ∈ LV.getD j [], keyT T n ≠ keyT T k) →
  ∃ TX', putLs T h LV TX = .ok TX' ∧ TX'.length = TX.length ∧ (∀ i, ∀ n ∈ LV.getD i [], TX'[keyT T n]? = some (nodeTxt T (h + i == 0) n)) ∧ ∀ b, (∀ i, ∀ n ∈ LV.getD i [], keyT T n ≠ b) → TX'[b]? = TX[b]?
 | [], h, TX, _, _, _, _ => ⟨TX, rfl, rfl, (fun i n hn => by cases hn), fun b _ => rfl⟩
 | L :: LV, h, TX, h1, h2, h3, h4 => by
  obtain ⟨TX1, e1, e2, e3, e4⟩ := putL_get T (h == 0) L TX (fun n hn => h1 0 n hn) (fun n hn => h2 0 n hn) (h3 0)
  obtain ⟨TX2, g1, g2, g3, g4⟩ := putLs_get T LV (h + 1) TX1 (fun i n hn => by have := h1 (i + 1) n hn; rwa [show h + (i + 1) = h + 1 + i by omega] at this) (fun i n hn => by rw [e2]; exact h2 (i + 1) n hn) (fun i => h3 (i + 1)) (fun i j hij => h4 (i + 1) (j + 1) (by omega))
  refine ⟨TX2, by rw [putLs, e1]; exact g1, by rw [g2, e2], fun i n hn => ?_, fun b hb => ?_⟩
  ·cases i with
   | zero =>
    rw [g4 _ (fun j k hk e => h4 0 (j + 1) (by omega) n hn k hk e.symm)]
    exact e3 n hn
   | succ i =>
    have := g3 i n hn
    rwa [show h + 1 + i = h + (i + 1) by omega] at this
  ·rw [g4 b (fun i n hn => hb (i + 1) n hn), e4 b (fun n hn => hb 0 n hn)]
theorem isEmpty_size (s : ByteArray) : s.toList.isEmpty = (s.size == 0) := by
 rw [ByteArray.toList_eq]
 obtain ⟨⟨l⟩⟩ := s
 cases l <;> rfl
theorem toList_beq (a b : ByteArray) : (a.toList == b.toList) = true ↔ a = b := by
 rw [beq_iff_eq, ByteArray.toList_eq, ByteArray.toList_eq]
 constructor
 ·intro h
  rw [← txt_of a, ← txt_of b, h]
 ·rintro rfl
  rfl
theorem nodeTxt_size {T : IL} {leaf : Bool} {n : Node} (h : Ents.EncOk (knownT T leaf n.2) leaf) : (nodeTxt T leaf n).size = 128 := by
 unfold nodeTxt
 rw [txt_size, Ents.nodeB_length _ _ h.2.1]
theorem putC_append (A B : CL) (L : List ByteArray) : putC (A ++ B) L = putC B (putC A L) := by unfold putC; rw [List.foldl_append]
theorem putC_chT (v : V) (TX : List ByteArray) {L : List ByteArray} (hL : L.length = 4096) : ∀ n, n ≤ 4096 → ∀ b, (putC (chT v TX n) L)[b]? = if b < n ∧ chB v TX b = true then some (tx TX b) else L[b]?
 | 0, _, b => by rw [if_neg (by omega)]; rfl
 | n + 1, hn, b => by
  have ih := putC_chT v TX hL n (by omega) b
  have hlen : (putC (chT v TX n) L).length = 4096 := by rw [putC_len, hL]
  rw [chT_succ, putC_append]
  cases hc : chB v TX n
  ·rw [if_neg (by decide)]
   show (putC (chT v TX n) L)[b]? = _
   rw [ih]
   by_cases hb : b = n
   ·subst hb; rw [hc, if_neg (by omega), if_neg (by simp)]
   ·by_cases h : b < n ∧ chB v TX b = true
    ·rw [if_pos h, if_pos ⟨by omega, h.2⟩]
    ·rw [if_neg h, if_neg (fun h' => h ⟨by omega, h'.2⟩)]
  ·rw [if_pos rfl]
   generalize putC (chT v TX n) L = X at *
   have e : ∀ x : Int × ByteArray, putC [x] X = putD x X := fun x => rfl
   rw [e, putD_at hlen (by dsimp only; omega) (by dsimp only; omega)]
   dsimp only
   by_cases hb : b = n
   ·subst hb; rw [if_pos rfl, hc, if_pos ⟨by omega, rfl⟩]
   ·rw [if_neg (by omega), ih]
    by_cases h : b < n ∧ chB v TX b = true
    ·rw [if_pos h, if_pos ⟨by omega, h.2⟩]
    ·rw [if_neg h, if_neg (fun h' => h ⟨by omega, h'.2⟩)]
theorem knownT_append (T : IL) (leaf : Bool) (a b : EL) : knownT T leaf (a ++ b) = knownT T leaf a ++ knownT T leaf b := by
 cases leaf
 ·rw [knownT_false, knownT_false, knownT_false, List.map_append]
 ·rfl
theorem knownT_nil (T : IL) (leaf : Bool) : knownT T leaf [] = [] := by cases leaf <;> rfl
theorem knownT_first (T : IL) (leaf : Bool) (l : EL) : ((knownT T leaf l).getD 0 (0, 0, 0)).1 = (l.getD 0 (0, 0, 0)).1 := by cases leaf <;> cases l <;> rfl
theorem knownT_len (T : IL) (leaf : Bool) (l : EL) : (knownT T leaf l).length = l.length := by
 cases leaf
 ·rw [knownT_false, List.length_map]
 ·rfl
def levelK (T : IL) (leaf : Bool) (L : List Node) : List Node := L.map fun n => (blockT T n.1, knownT T leaf n.2)
theorem ents_levelK (T : IL) (leaf : Bool) (L : List Node) : ents (levelK T leaf L) = knownT T leaf (ents L) := ents_map (knownT T leaf) (knownT_append T leaf) (knownT_nil T leaf) (blockT T) L
theorem leads_levelK (T : IL) (leaf : Bool) (L : List Node) : leads (levelK T leaf L) = knownT T false (leads L) := by
 rw [knownT_false]
 unfold leads levelK
 rw [List.map_map, List.map_map]
 refine List.map_congr_left (fun n _ => ?_)
 show ((((knownT T leaf n.2).getD 0 (0, 0, 0)).1, blockT T n.1, 0) : E) = ((n.2.getD 0 (0, 0, 0)).1, blockT T n.1, 0)
 rw [knownT_first]
structure SetHyp (L : List ByteArray) (v : V) (row : EL) (LV : List (List Node)) (root : EL) (m : Nat) (T : IL) : Prop where
 len : L.length = 4096
 good : Good v
 seen : ∀ x ∈ v, L[x.b]? = some x.s
 rowOk : Exts.Row row
 ch : Chain row LV root
 fed : ∀ X ∈ LV, Fed X
 named : ∀ X ∈ LV, NamedL m X
 few : m ≤ 1000000
 told : ToldOk m T
 many : LV.length ≤ 4
 rl : root.length ≤ 4
 ne : LV ≠ [] → root ≠ []
 nd : ∀ h, ((LV.getD h []).map (keyT T)).Nodup
 apart : ∀ i j, i < j → ∀ n ∈ LV.getD i [], ∀ k ∈ LV.getD j [], keyT T n ≠ keyT T k
 free : ∀ h, ∀ n ∈ LV.getD h [], taken row (blockT T n.1) = false
structure SetStands (L : List ByteArray) (v : V) (row : EL) (LV : List (List Node)) (root : EL) (T : IL) (s : SetR) (v' : V) : Prop where
 set : setT v LV root T = .ok s
 depth : s.depth = LV.length
 root : s.root = knownT T (LV.length == 0) root
 walk : walkT ⟨putC s.changes L, -1⟩ (LV.length : Nat) s.root = .ok (v', row)
 met : MetAs LV.length (fun j => levelK T (j - 1 == 0) (LV.getD (j - 1) [])) v'
 nds : ∀ b : Nat, has v' b = true ↔ ∃ h, ∃ n ∈ LV.getD h [], keyT T n = b
 freed : s.freed = natI ((nodes v).filter fun b => !has v' b)
 chg : ∀ x ∈ s.changes, ∃ h, ∃ n ∈ LV.getD h [], x.1 = (keyT T n : Int) ∧ (has v (keyT T n) = true → ∀ y ∈ v, y.b = keyT T n → (y.l, y.h == 1) ≠ (knownT T (h == 0) n.2, h == 0))
 blk : ∀ x ∈ s.changes, 0 ≤ x.1 ∧ x.1 < 4096
 size : ∀ x ∈ s.changes, x.2.size = 128
 nd : (s.changes.map fun x => x.1).Nodup
set_option maxRecDepth 100000 in
set_option maxHeartbeats 1000000 in
theorem set_stands {L : List ByteArray} {v : V} {row : EL} {LV : List (List Node)} {root : EL} {m : Nat} {T : IL} (H : SetHyp L v row LV root m T) : ∃ s v', SetStands L v row LV root T s v' := by
 obtain ⟨henc, hroot⟩ := enc_shape H.rowOk H.ch H.fed H.named H.few H.told
 have hget : ∀ h, h < LV.length → LV.getD h [] ∈ LV := fun h hh => by rw [show LV.getD h [] = LV[h] by simp [List.getD, hh]]; exact List.getElem_mem hh
 have hnone : ∀ h, ¬ h < LV.length → LV.getD h [] = [] := fun h hh => by simp [List.getD, Nat.le_of_not_lt hh]
 have hlt : ∀ h, ∀ n ∈ LV.getD h [], h < LV.length := fun h n hn => by
  by_cases hh : h < LV.length
  ·exact hh
  ·rw [hnone h hh] at hn; cases hn
 have hblk : ∀ h, ∀ n ∈ LV.getD h [], 1 ≤ blockT T n.1 ∧ blockT T n.1 < 4096 := fun h n hn => by
  have := H.told.ask H.few (H.named _ (hget h (hlt h n hn)) n hn)
  exact ⟨this.2.1, this.2.2⟩
 have hkey : ∀ h, ∀ n ∈ LV.getD h [], ((keyT T n : Nat) : Int) = blockT T n.1 := fun h n hn => by
  have := hblk h n hn
  unfold keyT
  omega
 obtain ⟨TX, e1, e2, e3, e4⟩ := putLs_get T LV 0 noTexts (fun i n hn => by rw [Nat.zero_add]; exact henc i n hn) (fun i n hn => by
  have := hblk i n hn
  have := hkey i n hn
  rw [noTexts_len]; omega) H.nd H.apart
 have htx : ∀ h, ∀ n ∈ LV.getD h [], tx TX (keyT T n) = nodeTxt T (h == 0) n := fun h n hn => by
  have := e3 h n hn
  rw [Nat.zero_add] at this
  unfold tx
  rw [List.getD_eq_getElem?_getD, this]
  rfl
 have htx0 : ∀ b, (∀ h, ∀ n ∈ LV.getD h [], keyT T n ≠ b) → (tx TX b).size = 0 := fun b hb => by
  have := e4 b hb
  unfold tx
  rw [List.getD_eq_getElem?_getD, this]
  unfold noTexts
  rw [List.getElem?_replicate]
  split <;> rfl
 have hold : ∀ b, has v b = true → L[b]? = some (textOf v b) := fun b hb => by
  obtain ⟨x, hx, e⟩ := List.any_eq_true.1 hb
  rw [beq_iff_eq] at e
  subst e
  rw [textOf_at H.good hx]
  exact H.seen x hx
 have hrd : ∀ h, ∀ n ∈ LV.getD h [], (putC (chT v TX 4096) L)[keyT T n]? = some (nodeTxt T (h == 0) n) := fun h n hn => by
  have hk := hkey h n hn
  have hb := hblk h n hn
  rw [putC_chT v TX H.len 4096 (Nat.le_refl _)]
  have hsz := nodeTxt_size (henc h n hn)
  by_cases hc : chB v TX (keyT T n) = true
  ·rw [if_pos ⟨by omega, hc⟩, htx h n hn]
  ·rw [if_neg (fun h' => hc h'.2)]
   unfold chB at hc
   rw [htx h n hn, isEmpty_size, hsz] at hc
   have hc' : ((nodeTxt T (h == 0) n).toList == (textOf v (keyT T n)).toList) = true := by
    cases hq : ((nodeTxt T (h == 0) n).toList == (textOf v (keyT T n)).toList)
    ·rw [hq] at hc; exact absurd rfl hc
    ·rfl
   rw [toList_beq] at hc'
   have hh : has v (keyT T n) = true := by
    cases hq : has v (keyT T n)
    ·have := textOf_has H.good (keyT T n)
     rw [hq] at this
     have h0 : (textOf v (keyT T n)).size = 0 := this.mpr rfl
     rw [← hc', hsz] at h0
     omega
    ·rfl
   rw [hold _ hh, hc']
 have hmet : Fam ⟨putC (chT v TX 4096) L, -1⟩ LV.length (fun j => levelK T (j - 1 == 0) (LV.getD (j - 1) [])) [] := by
  refine ⟨fun j h1 h2 x hx => ?_, fun j h1 h2 x hx => rfl, fun j h1 h2 => ?_, fun i j h1 h2 h3 x hx y hy => ?_⟩
  ·obtain ⟨n, hn, rfl⟩ := List.mem_map.1 hx
   have hk := hkey _ n hn
   have hb := hblk _ n hn
   have hj : (j == 1) = (j - 1 == 0) := by
    rw [Bool.eq_iff_iff]
    simp
    omega
   refine ⟨hb.1, by dsimp only; omega, by rw [hj]; exact henc _ n hn, ?_⟩
   dsimp only
   rw [rd_new, hj]
   exact hrd _ n hn
  ·show ((levelK T (j - 1 == 0) (LV.getD (j - 1) [])).map fun n => n.1).Nodup
   unfold levelK
   rw [List.map_map]
   have h3 := H.nd (j - 1)
   have e : ((LV.getD (j - 1) []).map ((fun n : Node => n.1) ∘ fun n : Node => (blockT T n.1, knownT T (j - 1 == 0) n.2))) = ((LV.getD (j - 1) []).map (keyT T)).map fun (k : Nat) => (k : Int) := by
    rw [List.map_map]
    exact List.map_congr_left (fun n hn => (hkey _ n hn).symm)
   rw [e]
   exact List.Pairwise.map _ (fun a b hab e => hab (by omega)) h3
  ·obtain ⟨n, hn, rfl⟩ := List.mem_map.1 hx
   obtain ⟨k, hk, rfl⟩ := List.mem_map.1 hy
   intro e
   have e' : blockT T n.1 = blockT T k.1 := e
   have h4 := hkey _ n hn
   have h5 := hkey _ k hk
   exact H.apart (i - 1) (j - 1) (by omega) n hn k hk (by omega)
 have hrl : (knownT T (LV.length == 0) root).length = root.length := knownT_len _ _ _
 have hok : RootOk (LV.length : Nat) (knownT T (LV.length == 0) root) := by
  refine ⟨by omega, by have := H.many; omega, by rw [hrl]; exact H.rl, fun h => ?_, ?_⟩
  ·rw [hrl]
   intro e
   exact H.ne (fun e' => by rw [e'] at h; simp at h) (List.eq_nil_of_length_eq_zero e)
  ·rw [show (((LV.length : Nat) : Int) == 0) = (LV.length == 0) by rw [Bool.eq_iff_iff]; simp]
   exact hroot
 obtain ⟨v', hm', hw⟩ := walk_stands (d := ⟨putC (chT v TX 4096) L, -1⟩) (n := LV.length) (root := knownT T (LV.length == 0) root) (row := row) (f := fun j => levelK T (j - 1 == 0) (LV.getD (j - 1) []))
  (fun h => by
   have e : LV = [] := List.eq_nil_of_length_eq_zero h
   have hc := H.ch
   rw [e] at hc ⊢
   exact hc)
  (fun h => by
   obtain ⟨k, hk⟩ : ∃ k, LV.length = k + 1 := ⟨LV.length - 1, by omega⟩
   refine ⟨?_, ?_⟩
   ·rw [ents_levelK]
    exact H.ch.first (by omega)
   ·rw [leads_levelK, hk, show (k + 1 == 0) = false from rfl, H.ch.root k hk, Nat.add_sub_cancel])
  (fun j h1 h2 => by
   obtain ⟨k, rfl⟩ : ∃ k, j = k + 1 := ⟨j - 1, by omega⟩
   rw [leads_levelK, ents_levelK, Nat.add_sub_cancel, Nat.add_sub_cancel, show (k + 1 == 0) = false from rfl, H.ch.next k h2])
  hok hmet
 have hnodes : ∀ b : Nat, has v' b = true ↔ ∃ h, ∃ n ∈ LV.getD h [], keyT T n = b := fun b => by
  rw [hm'.has_iff]
  constructor
  ·rintro ⟨j, h1, h2, x, hx, e⟩
   obtain ⟨n, hn, rfl⟩ := List.mem_map.1 hx
   have := hkey _ n hn
   exact ⟨j - 1, n, hn, by dsimp only at e; omega⟩
  ·rintro ⟨h, n, hn, e⟩
   have := hkey _ n hn
   refine ⟨h + 1, by omega, hlt h n hn, (blockT T n.1, knownT T (h == 0) n.2), ?_, by dsimp only; omega⟩
   exact List.mem_map.2 ⟨n, hn, rfl⟩
 have hmeets : meets v' row = false := meets_mk (fun b hb => by
  obtain ⟨h, n, hn, rfl⟩ := (hnodes b).1 hb
  rw [hkey h n hn]
  exact H.free h n hn)
 rw [if_pos ⟨Ents.row_leaf.2 H.rowOk, hmeets⟩] at hw
 refine ⟨⟨(LV.length : Nat), knownT T (LV.length == 0) root, chT v TX 4096, frT v TX 4096⟩, v', ⟨?_, rfl, rfl, hw, hm', hnodes, ?_, ?_, ?_, ?_, ?_⟩⟩
 ·unfold setT
  rw [e1]
 ·show frT v TX 4096 = natI ((nodes v).filter fun b => !has v' b)
  unfold frT natI nodes
  rw [List.filter_filter]
  refine congrArg _ (List.filter_congr (fun b hb => ?_))
  unfold frB
  rw [isEmpty_size, isEmpty_size, Bool.eq_iff_iff]
  have h1 := textOf_has H.good b
  simp only [Bool.and_eq_true, beq_iff_eq, Bool.not_eq_true', beq_eq_false_iff_ne]
  constructor
  ·rintro ⟨h2, h3⟩
   refine ⟨?_, ?_⟩
   ·rw [← Bool.not_eq_true]
    intro h4
    obtain ⟨h, n, hn, rfl⟩ := (hnodes b).1 h4
    rw [htx h n hn, nodeTxt_size (henc h n hn)] at h2
    omega
   ·rw [← Bool.not_eq_false]
    intro h4
    exact h3 (h1.mpr h4)
  ·rintro ⟨h2, h3⟩
   refine ⟨htx0 b (fun h n hn e => ?_), fun h4 => ?_⟩
   ·have := (hnodes b).2 ⟨h, n, hn, e⟩
    rw [this] at h2
    cases h2
   ·rw [h1.mp h4] at h3
    cases h3
 ·intro x hx
  obtain ⟨b, hb, rfl⟩ := List.mem_map.1 hx
  obtain ⟨hb1, hb2⟩ := List.mem_filter.1 hb
  unfold chB at hb2
  rw [isEmpty_size] at hb2
  simp only [Bool.and_eq_true, Bool.not_eq_true', beq_eq_false_iff_ne] at hb2
  have hex : ∃ h, ∃ n ∈ LV.getD h [], keyT T n = b := by
   by_cases hq : ∃ h, ∃ n ∈ LV.getD h [], keyT T n = b
   ·exact hq
   ·exact absurd (htx0 b (fun h n hn e => hq ⟨h, n, hn, e⟩)) hb2.1
  obtain ⟨h, n, hn, rfl⟩ := hex
  refine ⟨h, n, hn, rfl, fun hh y hy he e => ?_⟩
  have h1 := (Ents.dec_some (H.good.ok y hy)).2
  have h2 : textOf v (keyT T n) = y.s := by rw [← he]; exact textOf_at H.good hy
  injection e with e3 e4
  have h3 : nodeTxt T (h == 0) n = y.s := by
   unfold nodeTxt
   rw [← e3, ← e4, ← h1, txt_of]
  have h4 := hb2.2
  rw [htx h n hn, h3, h2] at h4
  exact absurd rfl h4
 ·intro x hx
  obtain ⟨b, hb, rfl⟩ := List.mem_map.1 hx
  have := List.mem_range.1 (List.mem_filter.1 hb).1
  dsimp only
  omega
 ·intro x hx
  obtain ⟨b, hb, rfl⟩ := List.mem_map.1 hx
  obtain ⟨hb1, hb2⟩ := List.mem_filter.1 hb
  unfold chB at hb2
  rw [isEmpty_size] at hb2
  simp only [Bool.and_eq_true, Bool.not_eq_true', beq_eq_false_iff_ne] at hb2
  have hex : ∃ h, ∃ n ∈ LV.getD h [], keyT T n = b := by
   by_cases hq : ∃ h, ∃ n ∈ LV.getD h [], keyT T n = b
   ·exact hq
   ·exact absurd (htx0 b (fun h n hn e => hq ⟨h, n, hn, e⟩)) hb2.1
  obtain ⟨h, n, hn, rfl⟩ := hex
  dsimp only
  rw [htx h n hn]
  exact nodeTxt_size (henc h n hn)
 ·show ((chT v TX 4096).map fun x => x.1).Nodup
  unfold chT
  rw [List.map_map]
  exact List.Pairwise.map _ (fun a b hab e => hab (by
   have e' : (a : Int) = (b : Int) := e
   omega)) (List.nodup_range.sublist List.filter_sublist)
end Go.Proofs.YtgjmeeiejcbjfaaGreat.Forks
namespace Go.Proofs.YtgjmeeiejcbjfaaGreat.Forks
open Go Go.RowKit
def nextW (us : List Bool) : Option Int × List Bool := match nextB us with
 | none => (none, us)
 | some b => (some (b : Int), us.set b true)
def usedN (us : List Bool) : Nat := (((List.range 4096).drop 2048).filter fun b => us.getD b true).length
theorem mem_high {b : Nat} : b ∈ (List.range 4096).drop 2048 ↔ 2048 ≤ b ∧ b < 4096 := by
 rw [List.mem_iff_getElem]
 constructor
 ·rintro ⟨i, hi, rfl⟩
  rw [List.getElem_drop, List.getElem_range]
  rw [List.length_drop, List.length_range] at hi
  omega
 ·rintro ⟨h1, h2⟩
  refine ⟨b - 2048, by rw [List.length_drop, List.length_range]; omega, ?_⟩
  rw [List.getElem_drop, List.getElem_range]
  omega
theorem nextB_some {us : List Bool} {b : Nat} (h : nextB us = some b) : 2048 ≤ b ∧ b < 4096 ∧ us.getD b true = false := by
 unfold nextB at h
 have h1 := mem_high.1 (List.mem_of_find?_eq_some h)
 have h2 := List.find?_some h
 exact ⟨h1.1, h1.2, by simpa using h2⟩
theorem nextB_none {us : List Bool} (h : nextB us = none) : usedN us = 2048 := by
 unfold nextB at h
 have h1 := List.find?_eq_none.1 h
 unfold usedN
 rw [List.filter_eq_self.2 (fun b hb => by simpa using h1 b hb), List.length_drop, List.length_range]
theorem filter_or {α : Type} (p q : α → Bool) : ∀ l : List α, (l.filter fun x => p x || q x).length ≤ (l.filter p).length + (l.filter q).length
 | [] => by simp
 | x :: l => by
  have := filter_or p q l
  rw [List.filter_cons, List.filter_cons, List.filter_cons]
  cases p x <;> cases q x <;> simp <;> omega
theorem getD_set (us : List Bool) (b c : Nat) (x : Bool) (hb : b < us.length) : (us.set b x).getD c true = if c = b then x else us.getD c true := by
 rw [List.getD_eq_getElem?_getD, List.getD_eq_getElem?_getD, List.getElem?_set]
 by_cases h : b = c
 ·subst h; rw [if_pos rfl, if_pos hb, if_pos rfl]; rfl
 ·rw [if_neg h, if_neg (fun e => h e.symm)]
theorem used_set {us : List Bool} {b : Nat} (hb : b < us.length) : usedN (us.set b true) ≤ usedN us + 1 := by
 unfold usedN
 have e : (((List.range 4096).drop 2048).filter fun c => (us.set b true).getD c true) = ((List.range 4096).drop 2048).filter fun c => us.getD c true || c == b := by
  refine List.filter_congr (fun c _ => ?_)
  rw [getD_set us b c true hb]
  by_cases h : c = b
  ·subst h; simp
  ·rw [if_neg h]; simp [h]
 rw [e]
 refine Nat.le_trans (filter_or _ _ _) ?_
 have hn : ((List.range 4096).drop 2048).Nodup := List.nodup_range.sublist (List.drop_sublist _ _)
 have h1 : (((List.range 4096).drop 2048).filter fun c => c == b).length ≤ 1 := by
  have := List.nodup_iff_count.1 hn b
  rwa [List.count_eq_length_filter] at this
 omega
set_option maxRecDepth 100000 in
theorem ask_world (v : V) (R : EL) (hR : ∀ b : Int, 2048 ≤ b → taken R b = false) : ∀ (k : Nat) (T : IL) (us : List Bool), us.length = 4096 → usedN us + k ≤ 2047 → (∀ b, 2048 ≤ b → b < 4096 → us.getD b true = false → has v b = false) → (∀ t ∈ T, t < 2048 ∨ us.getD t.toNat true = true) →
  ∃ D us', askT nextW v R k T us = ((0, T ++ D), us') ∧ us'.length = 4096 ∧ D.length = k ∧ (∀ b : Nat, us'.getD b true = (us.getD b true || D.contains (b : Int))) ∧ ∀ b ∈ D, 2048 ≤ b ∧ b < 4096 ∧ us.getD b.toNat true = false
 | 0, T, us, hl, _, _, _ => ⟨[], us, by simp [askT], hl, rfl, fun b => by simp, (fun b h => by cases h)⟩
 | k + 1, T, us, hl, hk, hv, hT => by
  cases hn : nextB us with
  | none => have := nextB_none hn; omega
  | some b =>
   obtain ⟨h1, h2, h3⟩ := nextB_some hn
   have hnx : nextW us = (some (b : Int), us.set b true) := by unfold nextW; rw [hn]
   have hbad : badB v R T (b : Int) = false := by
    unfold badB
    rw [hR _ (by omega), Int.toNat_natCast, hv b h1 h2 h3]
    simp only [Bool.or_false, Bool.or_eq_false_iff, decide_eq_false_iff_not]
    refine ⟨⟨by omega, by omega⟩, ?_⟩
    rw [Bool.eq_false_iff]
    intro hc
    rcases hT _ (List.contains_iff_mem.1 hc) with h | h
    ·omega
    ·rw [Int.toNat_natCast, h3] at h; cases h
   rw [askT_good nextW v R k T us b (by rw [hnx]) hbad, hnx]
   obtain ⟨D, us', e1, e2, e3, e4, e5⟩ := ask_world v R hR k (T ++ [(b : Int)]) (us.set b true) (by rw [List.length_set]; exact hl) (by have := used_set (us := us) (b := b) (by omega); omega) (fun c g1 g2 g3 => by
    rw [getD_set us b c true (by omega)] at g3
    split at g3
    ·cases g3
    ·exact hv c g1 g2 g3) (fun t ht => by
    rcases List.mem_append.1 ht with h | h
    ·rcases hT t h with h | h
     ·exact .inl h
     ·right
      rw [getD_set us b _ true (by omega)]
      split
      ·rfl
      ·exact h
    ·right
     rw [List.mem_singleton.1 h, Int.toNat_natCast, getD_set us b b true (by omega), if_pos rfl])
   refine ⟨(b : Int) :: D, us', by rw [e1, List.append_assoc]; rfl, e2, by rw [List.length_cons, e3], fun c => ?_, fun c hc => ?_⟩
   ·rw [e4 c, getD_set us b c true (by omega), List.contains_cons]
    by_cases h : c = b
    ·subst h; rw [if_pos rfl]; simp
    ·rw [if_neg h]
     have : ((c : Int) == (b : Int)) = false := by rw [beq_eq_false_iff_ne]; omega
     rw [this, Bool.false_or]
   ·rcases List.mem_cons.1 hc with rfl | hc
    ·exact ⟨by omega, by omega, by rw [Int.toNat_natCast]; exact h3⟩
    ·obtain ⟨g1, g2, g3⟩ := e5 c hc
     refine ⟨g1, g2, ?_⟩
     rw [getD_set us b _ true (by omega)] at g3
     split at g3
     ·cases g3
     ·exact g3
def freeT (F : IL) (us : List Bool) : List Bool := F.foldl (fun u b => u.set b.toNat false) us
theorem freeT_len : ∀ (F : IL) (us : List Bool), (freeT F us).length = us.length
 | [], us => rfl
 | b :: F, us => by
  show (freeT F (us.set b.toNat false)).length = _
  rw [freeT_len F, List.length_set]
theorem freeT_at : ∀ (F : IL) (us : List Bool), (∀ b ∈ F, 0 ≤ b ∧ b.toNat < us.length) → ∀ b : Nat, (freeT F us).getD b true = (us.getD b true && !F.contains (b : Int))
 | [], us, _, b => by simp [freeT]
 | x :: F, us, h, b => by
  have hx := h x (by simp)
  show (freeT F (us.set x.toNat false)).getD b true = _
  rw [freeT_at F _ (fun y hy => by rw [List.length_set]; exact h y (by simp [hy])), getD_set us _ b false hx.2, List.contains_cons]
  by_cases e : b = x.toNat
  ·rw [if_pos e, show ((b : Int) == x) = true by rw [beq_iff_eq]; omega]
   simp
  ·rw [if_neg e, show ((b : Int) == x) = false by rw [beq_eq_false_iff_ne]; omega, Bool.false_or]
structure WorldOk (us : List Bool) (L : List ByteArray) (d : Nat) (root : EL) (v : V) (R : EL) : Prop where
 walk : walkT ⟨L, -1⟩ d root = .ok (v, R)
 len : L.length = 4096
 ulen : us.length = 4096
 used : ∀ b, b < 4096 → us.getD b true = has v b
 lo : ∀ b : Int, 2048 ≤ b → taken R b = false
 hi : ∀ b, has v b = true → 2048 ≤ b
 half : ∀ X ∈ lvls v d, Half X
theorem chain_full : ∀ (LV : List (List Node)) (row root : EL), Chain row LV root → (∀ X ∈ LV, Half X) → root ≠ [] → ∀ X ∈ LV, X ≠ []
 | [], row, root, _, _, _, X, hX => by cases hX
 | L :: LV, row, root, hc, hh, hr, X, hX => by
  obtain ⟨h1, h2⟩ := hc
  have ih := chain_full LV _ root h2 (fun Y hY => hh Y (by simp [hY])) hr
  rcases List.mem_cons.1 hX with rfl | hX
  ·cases LV with
   | nil =>
    intro e
    subst e
    exact hr h2
   | cons M LV =>
    obtain ⟨h3, -⟩ := h2
    have h4 := ih M (by simp)
    have h5 := hh M (by simp)
    intro e
    subst e
    cases M with
    | nil => exact h4 rfl
    | cons n M =>
     have h6 := h5 n (by simp)
     have e : (ents (n :: M)).length = 0 := by rw [h3]; rfl
     rw [ents_length] at e
     simp only [lens] at e
     omega
  ·exact ih X hX
theorem WorldOk.old {us : List Bool} {L : List ByteArray} {d : Nat} {root : EL} {v : V} {R : EL} (h : WorldOk us L d root v R) : ∀ X ∈ lvls v d, Known X ∧ X ≠ [] ∧ Half X ∧ (names X).Nodup := by
 intro X hX
 obtain ⟨hc, -⟩ := walk_chain h.walk
 obtain ⟨hok, -, -⟩ := walkT_okr h.walk
 have hg := walkT_good h.walk
 have hne : root ≠ [] := by
  have hd : 0 < d := by
   have := List.length_pos_of_mem hX
   rwa [lvls_len] at this
  intro e
  exact hok.2.2.2.1 (by omega) (by rw [e]; rfl)
 refine ⟨?_, chain_full _ R root hc h.half hne X hX, h.half X hX, ?_⟩
 ·obtain ⟨i, -, rfl⟩ := List.mem_map.1 hX
  exact (lvl_ok hg _).2.1
 ·obtain ⟨i, -, rfl⟩ := List.mem_map.1 hX
  exact lvl_same' hg _
theorem nodes_total {d : Disk} {n : Nat} {root : EL} {v : V} {R : EL} (h : walkT d n root = .ok (v, R)) : (nodes v).length ≤ total (lvls v n) := by
 obtain ⟨-, hh⟩ := walk_chain h
 have hnd : ((nodes v).map fun b : Nat => (b : Int)).Nodup := List.Pairwise.map _ (fun a b hab e => hab (by omega)) (List.nodup_range.sublist List.filter_sublist)
 have hsub : ∀ b ∈ (nodes v).map fun b : Nat => (b : Int), b ∈ (lvls v n).flatMap names := fun b hb => by
  obtain ⟨c, hc, rfl⟩ := List.mem_map.1 hb
  have := (List.mem_filter.1 hc).2
  obtain ⟨x, hx, e⟩ := List.any_eq_true.1 this
  rw [beq_iff_eq] at e
  obtain ⟨h1, h2⟩ := hh x hx
  refine List.mem_flatMap.2 ⟨lvl v x.h, List.mem_map.2 ⟨x.h - 1, List.mem_range.2 (by omega), by rw [show x.h - 1 + 1 = x.h by omega]⟩, ?_⟩
  exact List.mem_map.2 ⟨((x.b : Int), x.l), lvl_mem.2 ⟨x, hx, rfl, rfl⟩, by dsimp only; omega⟩
 have := List.Nodup.length_le_of_subset hnd hsub
 rw [List.length_map, List.length_flatMap] at this
 unfold total
 rw [show (fun X : List Node => (names X).length) = List.length from by funext X; simp [names]] at this
 exact this
theorem WorldOk.usedN_le {us : List Bool} {L : List ByteArray} {d : Nat} {root : EL} {v : V} {R : EL} (h : WorldOk us L d root v R) : usedN us ≤ 512 := by
 obtain ⟨hc, -⟩ := walk_chain h.walk
 obtain ⟨-, hrow, -⟩ := walkT_okr h.walk
 have h1 := (chain_total _ _ _ hc h.half).1
 have h2 := nodes_total h.walk
 have h3 := row_len hrow
 have h4 : usedN us ≤ (nodes v).length := by
  unfold usedN nodes
  have e : (((List.range 4096).drop 2048).filter fun b => us.getD b true) = ((List.range 4096).drop 2048).filter (has v) := List.filter_congr (fun b hb => h.used b (mem_high.1 hb).2)
  rw [e]
  exact (List.Sublist.filter _ (List.drop_sublist _ _)).length_le
 omega
theorem taken_has {R : EL} {b : Int} : taken R b = true ↔ Exts.has R b := by
 unfold taken Exts.has inX
 rw [List.any_eq_true]
 constructor
 ·rintro ⟨x, hx, h⟩
  simp only [Bool.and_eq_true, decide_eq_true_eq] at h
  exact ⟨x, hx, by omega⟩
 ·rintro ⟨x, hx, h⟩
  exact ⟨x, hx, by simp only [Bool.and_eq_true, decide_eq_true_eq]; omega⟩
theorem repl_taken {R l : EL} {a b : Int} (hr : Exts.Row R) (hf : fitsT a b l = true) {i : Int} (h1 : taken R i = false) (h2 : taken l i = false) : taken (replT R a b l) i = false := by
 obtain ⟨g1, g2, g3, g4, g5⟩ := fits_spec hf
 rw [← Bool.not_eq_true] at h1 h2 ⊢
 rw [taken_has] at h1 h2 ⊢
 by_cases e : a = b
 ·unfold replT
  rw [if_pos e]
  exact h1
 ·rw [repl_eq hr g1 g2 g3 e]
  exact fun h => (Exts.has_change h).elim h1 h2
def askW (us : List Bool) : V → EL → Nat → IL → (Int × IL) × List Bool := fun v R k T => askT nextW v R k T us
structure ReplW (us : List Bool) (L : List ByteArray) (d : Nat) (root : EL) (v : V) (R : EL) (a b : Int) (l : EL) (s : SetR) (us1 : List Bool) (D : IL) (v' : V) : Prop where
 eq : replaceT (askW us) ⟨L, -1⟩ d root a b l us = (.ok s, us1)
 st : SetStands L v (replT R a b l) (shapeT (lvls v d) (replT R a b l) 0).1.1 (shapeT (lvls v d) (replT R a b l) 0).1.2 (0 :: D) s v'
 sh : ShapeOk (lvls v d) (replT R a b l) (shapeT (lvls v d) (replT R a b l) 0).1.1 (shapeT (lvls v d) (replT R a b l) 0).1.2 (shapeT (lvls v d) (replT R a b l) 0).2
 fed : ∀ X ∈ (shapeT (lvls v d) (replT R a b l) 0).1.1, Fed X
 ok : WorldOk (freeT s.freed us1) (putC s.changes L) s.depth.toNat s.root v' (replT R a b l)
 dep : s.depth = (s.depth.toNat : Int)
 len1 : us1.length = 4096
 frd : ∀ b ∈ s.freed, 0 ≤ b ∧ b < 4096
set_option maxHeartbeats 1000000 in
theorem replace_world {us : List Bool} {L : List ByteArray} {d : Nat} {root : EL} {v : V} {R : EL} {a b : Int} {l : EL} (h : WorldOk us L d root v R) (hf : fitsT a b l = true) (hl : ∀ i : Int, 2048 ≤ i → taken l i = false) : ∃ s us1 D v', ReplW us L d root v R a b l s us1 D v' := by
 obtain ⟨hok, hrow, hme⟩ := walkT_okr h.walk
 have hg := walkT_good h.walk
 have hseen := walkT_seen h.walk
 have hrow' := repl_row hrow hf
 have hlen := row_len hrow'
 have hlo' : ∀ i : Int, 2048 ≤ i → taken (replT R a b l) i = false := fun i hi => repl_taken hrow hf (h.lo i hi) (hl i hi)
 have hmeet : meets v (replT R a b l) = false := meets_mk (fun c hc => hlo' _ (by have := h.hi c hc; omega))
 have hsh := shape_ok (replT R a b l) h.old
 have hold := lvls_ok hg d (by have := hok.2.1; omega)
 have hfed := shape_fed (lvls v d) (replT R a b l) hold.1.fed
 have hnamed := shape_named (lvls v d) (replT R a b l) hold.2
 generalize hR' : replT R a b l = R' at *
 obtain ⟨hm1, hm2, hm3, hm4⟩ := hsh.many hlen
 obtain ⟨D, us1, q1, q2, q3, q4, q5⟩ := ask_world v R' hlo' (shapeT (lvls v d) R' 0).2 [0] us h.ulen (by have := h.usedN_le; omega) (fun c g1 g2 g3 => by rw [← h.used c g2]; exact g3) (fun t ht => by rw [List.mem_singleton.1 ht]; left; omega)
 obtain ⟨D', r1, r2, r3, r4, r5⟩ := askT_told nextW v R' (shapeT (lvls v d) R' 0).2 [0] us (by rw [q1])
 rw [q1] at r1
 have hDD : D' = D := by simpa using r1.symm
 subst hDD
 clear r1
 generalize hS : shapeT (lvls v d) R' 0 = S at *
 obtain ⟨⟨LV, root'⟩, m⟩ := S
 dsimp only at *
 have htold : ToldOk m (0 :: D') := by
  have := told_ok (m := m) (K := []) (D := D') (fun x hx => by cases hx) (fun x hx => ⟨(r3 x hx).1, (r3 x hx).2.1⟩) (by simp [r2])
  simpa using this
 have hname : ∀ i, ∀ n ∈ LV.getD i [], (n.1 ∈ names ((lvls v d).getD i []) ∧ 1 ≤ n.1 ∧ n.1 ≤ 4095 ∧ has v n.1.toNat = true) ∨ Anew 0 m n.1 := fun i n hn => by
  rcases hsh.nm.from_ i n.1 (List.mem_map.2 ⟨n, hn, rfl⟩) with g | g
  ·left
   have g' := g
   by_cases hi : i < d
   ·rw [lvls_at v d i hi] at g'
    obtain ⟨k, hk, e⟩ := List.mem_map.1 g'
    obtain ⟨x, hx, -, rfl⟩ := lvl_mem.1 hk
    have := hg.blk x hx
    dsimp only at e
    refine ⟨g, by omega, by omega, List.any_eq_true.2 ⟨x, hx, by rw [beq_iff_eq]; omega⟩⟩
   ·rw [show (lvls v d).getD i [] = [] by simp [List.getD, lvls_len, Nat.le_of_not_lt hi]] at g'
    simp [names] at g'
  ·exact .inr g
 have hDat : ∀ x, Anew 0 m x → blockT (0 :: D') x ∈ D' := fun x hx => by
  unfold Anew at hx
  unfold blockT
  rw [if_pos (by omega)]
  obtain ⟨j, hj⟩ : ∃ j, (-x).toNat = j + 1 := ⟨(-x).toNat - 1, by omega⟩
  rw [hj, List.getD_cons_succ, show D'.getD j 0 = D'[j]'(by omega) by simp [List.getD, show j < D'.length by omega]]
  exact List.getElem_mem _
 have hinj : ∀ i j n k, n ∈ LV.getD i [] → k ∈ LV.getD j [] → keyT (0 :: D') n = keyT (0 :: D') k → n.1 = k.1 := fun i j n k hn hk e => by
  unfold keyT at e
  rcases hname i n hn with ⟨-, a1, a2, a3⟩ | a1 <;> rcases hname j k hk with ⟨-, b1, b2, b3⟩ | b1
  ·unfold blockT at e
   rw [if_neg (by omega), if_neg (by omega)] at e
   omega
  ·have h1 := hDat _ b1
   have h2 := r3 _ h1
   rw [← e] at h2
   rw [show blockT (0 :: D') n.1 = n.1 by unfold blockT; rw [if_neg (by omega)]] at h2
   rw [a3] at h2
   cases h2.2.2.1
  ·have h1 := hDat _ a1
   have h2 := r3 _ h1
   rw [e] at h2
   rw [show blockT (0 :: D') k.1 = k.1 by unfold blockT; rw [if_neg (by omega)]] at h2
   rw [b3] at h2
   cases h2.2.2.1
  ·have h1 := r3 _ (hDat _ a1)
   have h2 := r3 _ (hDat _ b1)
   have e' : blockT (0 :: D') n.1 = blockT (0 :: D') k.1 := by omega
   unfold Anew at a1 b1
   unfold blockT at e'
   rw [if_pos (by omega), if_pos (by omega)] at e'
   obtain ⟨p, hp⟩ : ∃ p, (-n.1).toNat = p + 1 := ⟨(-n.1).toNat - 1, by omega⟩
   obtain ⟨q, hq⟩ : ∃ q, (-k.1).toNat = q + 1 := ⟨(-k.1).toNat - 1, by omega⟩
   rw [hp, hq, List.getD_cons_succ, List.getD_cons_succ, show D'.getD p 0 = D'[p]'(by omega) by simp [List.getD, show p < D'.length by omega], show D'.getD q 0 = D'[q]'(by omega) by simp [List.getD, show q < D'.length by omega]] at e'
   have := (List.getElem_inj r4).1 e'
   omega
 have hhigh : ∀ i, ∀ n ∈ LV.getD i [], 2048 ≤ blockT (0 :: D') n.1 := fun i n hn => by
  rcases hname i n hn with ⟨-, a1, a2, a3⟩ | a1
  ·have := h.hi _ a3
   unfold blockT
   rw [if_neg (by omega)]
   omega
  ·exact (q5 _ (hDat _ a1)).1
 obtain ⟨s, v', hst⟩ := set_stands (L := L) (v := v) (row := R') (LV := LV) (root := root') (m := m) (T := 0 :: D') ⟨h.len, hg, fun x hx => rd_old (hseen x hx), hrow', hsh.ch, hfed, hnamed, by omega, htold, hm1, hsh.rl, hsh.root_ne, fun i => by
   have := hsh.nm.nd i
   unfold names at this
   exact List.pairwise_map.2 ((List.pairwise_map.1 this).imp_of_mem (fun ha hb hab e => hab (hinj i i _ _ ha hb e))), fun i j hij n hn k hk e => by
   have h1 := hinj i j n k hn hk e
   rcases hname i n hn with ⟨a0, a1, a2, a3⟩ | a1
   ·rcases hname j k hk with ⟨b0, b1, b2, b3⟩ | b1
    ·have hi : i < d := by
      by_cases hi : i < d
      ·exact hi
      ·rw [show (lvls v d).getD i [] = [] by simp [List.getD, lvls_len, Nat.le_of_not_lt hi]] at a0
       simp [names] at a0
     have hj : j < d := by
      by_cases hj : j < d
      ·exact hj
      ·rw [show (lvls v d).getD j [] = [] by simp [List.getD, lvls_len, Nat.le_of_not_lt hj]] at b0
       simp [names] at b0
     rw [lvls_at v d i hi] at a0
     rw [lvls_at v d j hj] at b0
     obtain ⟨x, hx, ex⟩ := List.mem_map.1 a0
     obtain ⟨y, hy, ey⟩ := List.mem_map.1 b0
     exact lvl_apart hg (i := i + 1) (j := j + 1) (by omega) x hx y hy (by omega)
    ·unfold Anew at b1; omega
   ·have hneg : n.1 < 0 := by unfold Anew at a1; omega
    exact hsh.nm.apart i j hij n.1 (List.mem_map.2 ⟨n, hn, rfl⟩) hneg k.1 (List.mem_map.2 ⟨k, hk, rfl⟩) h1, fun i n hn => hlo' _ (hhigh i n hn)⟩
 have hpick : pick (lvls v d) R' = ((LV, root'), m) := by
  unfold pick
  rw [hS, if_neg (by dsimp only; omega)]
 have hkn : known v (lvls v d) R' = [] := by
  unfold known
  rw [hS, if_neg (by dsimp only; omega)]
 have hkeyb : ∀ i, ∀ n ∈ LV.getD i [], ((keyT (0 :: D') n : Nat) : Int) = blockT (0 :: D') n.1 := fun i n hn => by
  have := hhigh i n hn
  unfold keyT
  omega
 have hfr : ∀ c : Nat, s.freed.contains (c : Int) = (has v c && !has v' c && decide (c < 4096)) := fun c => by
  rw [hst.freed, Bool.eq_iff_iff, List.contains_iff_mem]
  unfold natI nodes
  simp only [List.mem_map, List.mem_filter, List.mem_range, Bool.and_eq_true, decide_eq_true_eq]
  constructor
  ·rintro ⟨y, ⟨⟨g1, g2⟩, g3⟩, e⟩
   obtain rfl : y = c := by omega
   exact ⟨⟨g2, g3⟩, g1⟩
  ·rintro ⟨⟨g2, g3⟩, g1⟩
   exact ⟨c, ⟨⟨g1, g2⟩, g3⟩, rfl⟩
 have hfrd : ∀ c ∈ s.freed, 0 ≤ c ∧ c < 4096 := fun c hc => by
  rw [hst.freed] at hc
  obtain ⟨y, hy, rfl⟩ := List.mem_map.1 hc
  have := List.mem_range.1 (List.mem_filter.1 (List.mem_filter.1 hy).1).1
  omega
 have hdn : s.depth.toNat = LV.length := by rw [hst.depth]; omega
 refine ⟨s, us1, D', v', ?_, ?_, ?_, ?_, ?_, ?_, q2, hfrd⟩
 ·unfold replaceT
  rw [if_neg (by rw [hf]; decide), h.walk]
  dsimp only
  rw [hR', if_neg (by rw [hmeet]; decide)]
  unfold replaceV
  rw [Int.toNat_natCast, hpick, hkn]
  dsimp only
  rw [show m + 1 - (([] : IL).length + 1) = m by simp]
  unfold askW
  rw [q1]
  dsimp only
  rw [if_pos rfl, show ([0] ++ D' : IL) = 0 :: D' from rfl, hst.set]
 ·rw [hR', hS]; exact hst
 ·rw [hR', hS]; exact hsh
 ·rw [hR', hS]; exact hfed
 ·rw [hR']
  have hw := hst.walk
  refine ⟨by rw [hdn]; exact hw, by rw [putC_len]; exact h.len, by rw [freeT_len, q2], fun c hc => ?_, hlo', fun c hc => ?_, fun X hX => ?_⟩
  ·rw [freeT_at _ _ (fun x hx => by have := hfrd x hx; omega), q4, hfr, h.used c hc, decide_eq_true hc, Bool.and_true]
   rw [Bool.eq_iff_iff]
   simp only [Bool.and_eq_true, Bool.or_eq_true, Bool.not_eq_true', Bool.and_eq_false_iff, Bool.not_eq_false']
   constructor
   ·rintro ⟨g1, g2⟩
    rcases g2 with g2 | g2
    ·rcases g1 with g1 | g1
     ·rw [g1] at g2; cases g2
     ·-- told, so it is the block of a name
      have g3 := List.contains_iff_mem.1 g1
      obtain ⟨j, hj, e⟩ := List.mem_iff_getElem.1 g3
      obtain ⟨i, hi⟩ := hsh.nm.all (-((j : Int) + 1)) (by unfold Anew; omega)
      obtain ⟨n, hn, en⟩ := List.mem_map.1 hi
      refine (hst.nds c).2 ⟨i, n, hn, ?_⟩
      have : blockT (0 :: D') n.1 = (c : Int) := by
       unfold blockT
       rw [if_pos (by omega), show (-n.1).toNat = j + 1 by omega, List.getD_cons_succ, show D'.getD j 0 = D'[j] by simp [List.getD, hj], e]
      have := hkeyb i n hn
      omega
    ·exact g2
   ·intro g
    refine ⟨?_, .inr g⟩
    obtain ⟨i, n, hn, e⟩ := (hst.nds c).1 g
    have hk := hkeyb i n hn
    rcases hname i n hn with ⟨-, a1, a2, a3⟩ | a1
    ·left
     rw [show blockT (0 :: D') n.1 = n.1 by unfold blockT; rw [if_neg (by omega)]] at hk
     rw [← e, show keyT (0 :: D') n = n.1.toNat by omega]
     exact a3
    ·right
     rw [List.contains_iff_mem, ← e, hk]
     exact hDat _ a1
  ·obtain ⟨i, n, hn, e⟩ := (hst.nds c).1 hc
   have := hhigh i n hn
   have := hkeyb i n hn
   omega
  ·obtain ⟨i, hi, rfl⟩ := List.mem_map.1 hX
   rw [hdn] at hi
   have hi' := List.mem_range.1 hi
   rw [hst.met.lv (i + 1) (by omega) (by omega), Nat.add_sub_cancel]
   intro n hn
   obtain ⟨k, hk, rfl⟩ := List.mem_map.1 hn
   dsimp only
   rw [knownT_len]
   have : LV.getD i [] ∈ LV := by rw [show LV.getD i [] = LV[i] by simp [List.getD, hi']]; exact List.getElem_mem _
   exact (hsh.half _ this).1 k hk
 ·rw [hdn, hst.depth]
end Go.Proofs.YtgjmeeiejcbjfaaGreat.Forks
