/- Trees: a walk that ends well has met a chain of levels; a chain of levels that stands in blocks is walked. No program. -/
import Derived.Test.YtgjmeeiejcbjfaaGreatF41
import Derived.Test.YtgjmeeiejcbjfaaGreatF30
set_option linter.unusedSimpArgs false
set_option linter.unusedVariables false
namespace Go.Proofs.YtgjmeeiejcbjfaaGreat.Forks
open Go.Proofs.YtgjmeeiejcbjfaaGreat
theorem leads_append (a b : List Node) : leads (a ++ b) = leads a ++ leads b := by simp [leads]
theorem lvl_append (u v : V) (h : Nat) : lvl (u ++ v) h = lvl u h ++ lvl v h := by simp [lvl]
theorem lvl_none {u : V} {h : Nat} (hu : ∀ x ∈ u, x.h ≠ h) : lvl u h = [] := by
 unfold lvl
 rw [List.filter_eq_nil_iff.2 (fun x hx => by simpa using hu x hx)]
 rfl
theorem lvl_mem {u : V} {h : Nat} {n : Node} : n ∈ lvl u h ↔ ∃ x ∈ u, x.h = h ∧ n = ((x.b : Int), x.l) := by
 unfold lvl
 rw [List.mem_map]
 constructor
 ·rintro ⟨x, hx, rfl⟩
  have := List.mem_filter.1 hx
  exact ⟨x, this.1, by simpa using this.2, rfl⟩
 ·rintro ⟨x, hx, h1, rfl⟩
  exact ⟨x, List.mem_filter.2 ⟨hx, by simpa using h1⟩, rfl⟩
theorem rowV_ents (v : V) : rowV v = ents (lvl v 1) := by
 unfold rowV lvl
 induction v.filter fun x => x.h == 1 with
 | nil => rfl
 | cons x l ih => simp only [List.flatMap_cons, List.map_cons, ents, ih]
def LeadE (x : E) : Prop := 1 ≤ x.2.1 ∧ x.2.1 ≤ 4095 ∧ x.2.2 = 0
theorem may_lead {x : E} (h : Ents.may false x = true) : LeadE x := by
 unfold Ents.may at h
 have := of_decide_eq_true h
 unfold Ents.mayN at this
 unfold LeadE
 omega
theorem row_leadE {l : EL} (h : Ents.Row false l) : ∀ x ∈ l, LeadE x := fun x hx => may_lead (h.may x hx)
structure Met (k : Nat) (l : EL) (u : V) : Prop where
 hs : ∀ x ∈ u, 1 ≤ x.h ∧ x.h ≤ k
 top : k ≠ 0 → leads (lvl u k) = l
 down : ∀ j, 1 ≤ j → j < k → leads (lvl u j) = ents (lvl u (j + 1))
theorem fold_met (d : Disk) (k : Nat) (hrec : ∀ l v0 v, (∀ x ∈ l, LeadE x) → allW d k l v0 = .ok v → ∃ u, v = v0 ++ u ∧ Met k l u) :
  ∀ (l : EL) (v0 v : V), (∀ x ∈ l, LeadE x) → foldW (nodeW d (allW d k) (k + 1)) l v0 = .ok v → ∃ u, v = v0 ++ u ∧ Met (k + 1) l u
 | [], v0, v, _, h => by
  unfold foldW at h
  cases h
  exact ⟨[], by simp, (fun x hx => by cases hx), fun _ => by simp [lvl, leads], fun j _ _ => by simp [lvl, leads, ents]⟩
 | x :: l, v0, v, hl, h => by
  unfold foldW at h
  split at h
  ·cases h
  ·rename_i v1 h1
   obtain ⟨u2, e2, m2⟩ := fold_met d k hrec l v1 v (fun y hy => hl y (by simp [hy])) h
   obtain ⟨hh, s, p, leaf, hs, hd, hlf, hlg, hc⟩ := nodeW_ok' h1
   have hx := hl x (by simp)
   obtain ⟨x1, x2, x3⟩ := x
   unfold LeadE at hx
   dsimp only at *
   obtain ⟨b, rfl⟩ : ∃ b : Nat, x2 = (b : Int) := ⟨x2.toNat, by omega⟩
   obtain rfl : x3 = 0 := hx.2.2
   rw [Int.toNat_natCast] at *
   have hnode : ∃ u1, v1 = v0 ++ u1 ∧ Met (k + 1) [(x1, (b : Int), 0)] u1 := by
    by_cases hl2 : leaf = true
    ·rw [if_pos hl2] at hc
     cases hc
     have hk : k = 0 := by rw [hl2] at hlf; simpa using hlf.symm
     subst hk
     refine ⟨[⟨b, 1, p, s⟩], rfl, fun y hy => ?_, fun _ => ?_, fun j h1 h2 => by omega⟩
     ·obtain rfl := List.mem_singleton.1 hy
      exact ⟨Nat.le_refl _, Nat.le_refl _⟩
     ·show leads (lvl [⟨b, 1, p, s⟩] 1) = _
      simp [lvl, leads]
      simpa using hlg
    ·rw [if_neg hl2] at hc
     have hk : k ≠ 0 := by
      rintro rfl
      exact hl2 (by rw [hlf]; rfl)
     have hr := (Ents.dec_some hd).1.2.2
     rw [show leaf = false by simpa using hl2] at hr
     obtain ⟨u, e, m⟩ := hrec p _ _ (row_leadE hr) hc
     refine ⟨⟨b, k + 1, p, s⟩ :: u, by rw [e]; simp, fun y hy => ?_, fun _ => ?_, fun j h1 h2 => ?_⟩
     ·rcases List.mem_cons.1 hy with rfl | hy
      ·exact ⟨by dsimp only; omega, Nat.le_refl _⟩
      ·have := m.hs y hy; omega
     ·rw [show (⟨b, k + 1, p, s⟩ :: u : V) = [⟨b, k + 1, p, s⟩] ++ u from rfl, lvl_append, lvl_none (u := u) (fun y hy => by have := m.hs y hy; omega)]
      simp [lvl, leads]
      simpa using hlg
     ·rw [show (⟨b, k + 1, p, s⟩ :: u : V) = [⟨b, k + 1, p, s⟩] ++ u from rfl, lvl_append, lvl_append, lvl_none (u := [⟨b, k + 1, p, s⟩]) (h := j) (fun y hy => by obtain rfl := List.mem_singleton.1 hy; dsimp only; omega), List.nil_append]
      by_cases hj : j = k
      ·subst hj
       rw [m.top hk, lvl_none (u := u) (fun y hy => by have := m.hs y hy; omega), List.append_nil]
       simp [lvl, ents]
      ·rw [lvl_none (u := [⟨b, k + 1, p, s⟩]) (h := j + 1) (fun y hy => by obtain rfl := List.mem_singleton.1 hy; dsimp only; omega), List.nil_append]
       exact m.down j h1 (by omega)
   obtain ⟨u1, e1, m1⟩ := hnode
   refine ⟨u1 ++ u2, by rw [e2, e1, List.append_assoc], fun y hy => ?_, fun hk => ?_, fun j h1 h2 => ?_⟩
   ·rcases List.mem_append.1 hy with h | h
    ·exact m1.hs y h
    ·exact m2.hs y h
   ·rw [lvl_append, leads_append, m1.top hk, m2.top hk]
    rfl
   ·rw [lvl_append, leads_append, lvl_append, ents_append, m1.down j h1 h2, m2.down j h1 h2]
theorem allW_met (d : Disk) : ∀ (k : Nat) (l : EL) (v0 v : V), (∀ x ∈ l, LeadE x) → allW d k l v0 = .ok v → ∃ u, v = v0 ++ u ∧ Met k l u
 | 0, l, v0, v, _, h => by
  unfold allW at h
  cases h
  exact ⟨[], by simp, (fun x hx => by cases hx), fun h => absurd rfl h, fun j _ h => by omega⟩
 | k + 1, l, v0, v, hl, h => by
  unfold allW at h
  exact fold_met d k (fun l v0 v => allW_met d k l v0 v) l v0 v hl h
theorem chain_of : ∀ (n : Nat) (f : Nat → List Node) (row root : EL), (n = 0 → root = row) → (n ≠ 0 → ents (f 1) = row ∧ leads (f n) = root) → (∀ j, 1 ≤ j → j < n → leads (f j) = ents (f (j + 1))) → Chain row ((List.range n).map fun i => f (i + 1)) root
 | 0, f, row, root, h0, _, _ => h0 rfl
 | n + 1, f, row, root, _, h1, h2 => by
  rw [List.range_succ_eq_map, List.map_cons, List.map_map]
  obtain ⟨e1, e2⟩ := h1 (by omega)
  refine ⟨e1, ?_⟩
  have := chain_of n (fun j => f (j + 1)) (leads (f 1)) root (fun h => by subst h; exact e2.symm) (fun h => ⟨(h2 1 (by omega) (by omega)).symm, e2⟩) (fun j hj hj2 => h2 (j + 1) (by omega) (by omega))
  exact this
theorem walk_chain {d : Disk} {n : Nat} {root : EL} {v : V} {R : EL} (h : walkT d n root = .ok (v, R)) : Chain R (lvls v n) root ∧ (∀ x ∈ v, 1 ≤ x.h ∧ x.h ≤ n) := by
 obtain ⟨hok, -, -⟩ := walkT_okr h
 by_cases h0 : n = 0
 ·subst h0
  rw [show ((0 : Nat) : Int) = 0 from rfl] at h hok
  rw [walkT_zero d root hok] at h
  split at h
  ·cases h; exact ⟨rfl, (fun x hx => by cases hx)⟩
  ·cases h
 ·have hr := hok.2.2.2.2
  rw [show (((n : Nat) : Int) == 0) = false by simpa using h0] at hr
  rw [walkT_pos d n root hok (by omega)] at h
  split at h
  ·cases h
  ·rename_i u hu
   split at h
   ·obtain ⟨rfl, rfl⟩ : u = v ∧ rowV u = R := by injection h with h; injection h with h1 h2; exact ⟨h1, h2⟩
    obtain ⟨u', e, m⟩ := allW_met d n root [] u (row_leadE hr) hu
    rw [List.nil_append] at e
    subst e
    refine ⟨chain_of n (fun j => lvl u j) _ root (fun h => absurd h h0) (fun _ => ⟨(rowV_ents u).symm, m.top h0⟩) m.down, m.hs⟩
   ·cases h
theorem split_levels : ∀ (k : Nat) (f : Nat → List Node) (p q : EL), 1 ≤ k → (∀ j, 1 ≤ j → j < k → leads (f j) = ents (f (j + 1))) → leads (f k) = p ++ q →
    ∃ A B : Nat → List Node, (∀ j, 1 ≤ j → j ≤ k → f j = A j ++ B j) ∧ leads (A k) = p ∧ leads (B k) = q ∧ (∀ j, 1 ≤ j → j < k → leads (A j) = ents (A (j + 1))) ∧ ∀ j, 1 ≤ j → j < k → leads (B j) = ents (B (j + 1))
  | 0, f, p, q, h, _, _ => by omega
  | k + 1, f, p, q, _, hd, ht => by
    have hA : leads ((f (k + 1)).take p.length) = p := by
      unfold leads at *
      rw [List.map_take, ht, List.take_left]
    have hB : leads ((f (k + 1)).drop p.length) = q := by
      unfold leads at *
      rw [List.map_drop, ht, List.drop_left]
    by_cases hk : k = 0
    · subst hk
      exact ⟨fun _ => (f 1).take p.length, fun _ => (f 1).drop p.length, fun j h1 h2 => by obtain rfl : j = 1 := by omega
                                                                                           rw [List.take_append_drop], hA, hB, fun j h1 h2 => by omega, fun j h1 h2 => by omega⟩
    · have h1 := hd k (by omega) (by omega)
      rw [← List.take_append_drop p.length (f (k + 1)), ents_append] at h1
      obtain ⟨A, B, e, a, b, ca, cb⟩ := split_levels k f _ _ (by omega) (fun j g1 g2 => hd j g1 (by omega)) h1
      refine ⟨fun j => if j = k + 1 then (f (k + 1)).take p.length else A j, fun j => if j = k + 1 then (f (k + 1)).drop p.length else B j, fun j g1 g2 => ?_, ?_, ?_, fun j g1 g2 => ?_, fun j g1 g2 => ?_⟩
      all_goals dsimp only
      · by_cases hj : j = k + 1
        · subst hj
          rw [if_pos rfl, if_pos rfl, List.take_append_drop]
        · rw [if_neg hj, if_neg hj]
          exact e j g1 (by omega)
      · rw [if_pos rfl]; exact hA
      · rw [if_pos rfl]; exact hB
      · rw [if_neg (by omega)]
        by_cases hj : j = k
        · subst hj; rw [if_pos rfl]; exact a
        · rw [if_neg (by omega)]; exact ca j g1 (by omega)
      · rw [if_neg (by omega)]
        by_cases hj : j = k
        · subst hj; rw [if_pos rfl]; exact b
        · rw [if_neg (by omega)]; exact cb j g1 (by omega)
structure Stands (d : Disk) (h : Nat) (n : Node) : Prop where
 lo : 1 ≤ n.1
 hi : n.1 ≤ 4095
 enc : Ents.EncOk n.2 (h == 1)
 rd : d.rd n.1.toNat = some (txt (Ents.nodeB n.2 (h == 1)))
structure Fam (d : Disk) (k : Nat) (f : Nat → List Node) (v0 : V) : Prop where
 st : ∀ j, 1 ≤ j → j ≤ k → ∀ n ∈ f j, Stands d j n
 new : ∀ j, 1 ≤ j → j ≤ k → ∀ n ∈ f j, has v0 n.1.toNat = false
 same : ∀ j, 1 ≤ j → j ≤ k → ((f j).map fun n => n.1).Nodup
 apart : ∀ i j, 1 ≤ i → i < j → j ≤ k → ∀ n ∈ f i, ∀ m ∈ f j, n.1 ≠ m.1
structure MetAs (k : Nat) (f : Nat → List Node) (u : V) : Prop where
 hs : ∀ x ∈ u, 1 ≤ x.h ∧ x.h ≤ k
 lv : ∀ j, 1 ≤ j → j ≤ k → lvl u j = f j
 tx : ∀ x ∈ u, x.s = txt (Ents.nodeB x.l (x.h == 1))
theorem MetAs.nil (f : Nat → List Node) : MetAs 0 f [] := ⟨(fun x hx => by cases hx), fun j h1 h2 => by omega, (fun x hx => by cases hx)⟩
theorem has_append (u v : V) (b : Nat) : has (u ++ v) b = (has u b || has v b) := by simp [has]
theorem MetAs.has {k : Nat} {f : Nat → List Node} {u : V} (h : MetAs k f u) {b : Nat} (hb : Forks.has u b = true) : ∃ j, 1 ≤ j ∧ j ≤ k ∧ ∃ n ∈ f j, n.1 = (b : Int) := by
 obtain ⟨x, hx, e⟩ := List.any_eq_true.1 hb
 obtain ⟨h1, h2⟩ := h.hs x hx
 refine ⟨x.h, h1, h2, ((x.b : Int), x.l), ?_, ?_⟩
 ·rw [← h.lv x.h h1 h2]
  exact lvl_mem.2 ⟨x, hx, rfl, rfl⟩
 ·simp at e
  dsimp only
  omega
theorem Fam.left {d : Disk} {k : Nat} {f A B : Nat → List Node} {v0 : V} (h : Fam d k f v0) {k' : Nat} (hk : k' ≤ k) (e : ∀ j, 1 ≤ j → j ≤ k' → f j = A j ++ B j) : Fam d k' A v0 :=
 ⟨fun j h1 h2 n hn => h.st j h1 (by omega) n (by rw [e j h1 h2]; exact List.mem_append_left _ hn), fun j h1 h2 n hn => h.new j h1 (by omega) n (by rw [e j h1 h2]; exact List.mem_append_left _ hn), fun j h1 h2 => by
  have := h.same j h1 (by omega)
  rw [e j h1 h2, List.map_append] at this
  exact (List.nodup_append.1 this).1, fun i j h1 h2 h3 n hn m hm => h.apart i j h1 h2 (by omega) n (by rw [e i h1 (by omega)]; exact List.mem_append_left _ hn) m (by rw [e j (by omega) h3]; exact List.mem_append_left _ hm)⟩
theorem Fam.right {d : Disk} {k : Nat} {f A B : Nat → List Node} {v0 : V} (h : Fam d k f v0) {k' : Nat} (hk : k' ≤ k) (e : ∀ j, 1 ≤ j → j ≤ k' → f j = A j ++ B j) {u : V} (hu : MetAs k' A u) : Fam d k' B (v0 ++ u) := by
 refine ⟨fun j h1 h2 n hn => h.st j h1 (by omega) n (by rw [e j h1 h2]; exact List.mem_append_right _ hn), fun j h1 h2 n hn => ?_, fun j h1 h2 => ?_, fun i j h1 h2 h3 n hn m hm => h.apart i j h1 h2 (by omega) n (by rw [e i h1 (by omega)]; exact List.mem_append_right _ hn) m (by rw [e j (by omega) h3]; exact List.mem_append_right _ hm)⟩
 ·have hnf : n ∈ f j := by rw [e j h1 h2]; exact List.mem_append_right _ hn
  rw [has_append, h.new j h1 (by omega) n hnf, Bool.false_or]
  rw [Bool.eq_false_iff]
  intro hb
  obtain ⟨i, g1, g2, m, hm, em⟩ := hu.has hb
  have hst := h.st j h1 (by omega) n hnf
  have hmf : m ∈ f i := by rw [e i g1 g2]; exact List.mem_append_left _ hm
  have en : m.1 = n.1 := by have := hst.lo; omega
  rcases Nat.lt_trichotomy i j with hij | hij | hij
  ·exact h.apart i j g1 hij (by omega) m hmf n hnf en
  ·subst hij
   have := h.same i g1 (by omega)
   rw [e i g1 g2, List.map_append] at this
   exact (List.nodup_append.1 this).2.2 _ (List.mem_map.2 ⟨m, hm, rfl⟩) _ (List.mem_map.2 ⟨n, hn, rfl⟩) en
  ·exact h.apart j i h1 hij (by omega) n hnf m hmf en.symm
 ·have := h.same j h1 (by omega)
  rw [e j h1 h2, List.map_append] at this
  exact (List.nodup_append.1 this).2.1
theorem dec_txt {l : EL} {leaf : Bool} (h : Ents.EncOk l leaf) : Ents.dec (txt (Ents.nodeB l leaf)).data.toList = some (l, leaf) := by rw [txt_list]; exact Ents.dec_node h
theorem fold_stand (d : Disk) (k : Nat) (hrec : ∀ (f : Nat → List Node) (v0 : V), Fam d k f v0 → (∀ j, 1 ≤ j → j < k → leads (f j) = ents (f (j + 1))) → ∃ u, allW d k (leads (f k)) v0 = .ok (v0 ++ u) ∧ MetAs k f u) :
  ∀ (L : List Node) (f : Nat → List Node) (v0 : V), f (k + 1) = L → Fam d (k + 1) f v0 → (∀ j, 1 ≤ j → j < k + 1 → leads (f j) = ents (f (j + 1))) → ∃ u, foldW (nodeW d (allW d k) (k + 1)) (leads L) v0 = .ok (v0 ++ u) ∧ MetAs (k + 1) f u
 | [], f, v0, hL, hf, hc => by
  have hnil : ∀ j, 1 ≤ j → j ≤ k + 1 → f j = [] := by
   intro j h1 h2
   obtain ⟨i, rfl⟩ : ∃ i, j = k + 1 - i := ⟨k + 1 - j, by omega⟩
   induction i with
   | zero => exact hL
   | succ i ih =>
    have h3 := ih (by omega) (by omega)
    have h4 := hc (k + 1 - (i + 1)) h1 (by omega)
    rw [show k + 1 - (i + 1) + 1 = k + 1 - i by omega, h3] at h4
    exact List.map_eq_nil_iff.1 h4
  refine ⟨[], by simp [leads, foldW], (fun x hx => by cases hx), fun j h1 h2 => by rw [hnil j h1 h2]; rfl, (fun x hx => by cases hx)⟩
 | n :: L, f, v0, hL, hf, hc => by
  have hnf : n ∈ f (k + 1) := by rw [hL]; simp
  have hst := hf.st (k + 1) (by omega) (Nat.le_refl _) n hnf
  have hnew := hf.new (k + 1) (by omega) (Nat.le_refl _) n hnf
  have hnd := hf.same (k + 1) (by omega) (Nat.le_refl _)
  rw [hL, List.map_cons, List.nodup_cons] at hnd
  obtain ⟨nb, nl⟩ := n
  obtain ⟨b, rfl⟩ : ∃ b : Nat, nb = (b : Int) := ⟨nb.toNat, by have := hst.lo; dsimp only at this; omega⟩
  have hrd := hst.rd
  have henc := hst.enc
  dsimp only at hrd henc hnew hnd
  rw [Int.toNat_natCast] at hrd hnew
  obtain ⟨A, B, e, hA, hB, cA, cB⟩ : ∃ A B : Nat → List Node, (∀ j, 1 ≤ j → j ≤ k → f j = A j ++ B j) ∧ (k ≠ 0 → leads (A k) = nl) ∧ (k ≠ 0 → leads (B k) = ents L) ∧ (∀ j, 1 ≤ j → j < k → leads (A j) = ents (A (j + 1))) ∧ ∀ j, 1 ≤ j → j < k → leads (B j) = ents (B (j + 1)) := by
   by_cases hk : k = 0
   ·subst hk
    exact ⟨fun _ => [], fun _ => [], fun j h1 h2 => by omega, fun h => absurd rfl h, fun h => absurd rfl h, fun j h1 h2 => by omega, fun j h1 h2 => by omega⟩
   ·have h1 := hc k (by omega) (by omega)
    rw [hL] at h1
    obtain ⟨A, B, e, a, b', ca, cb⟩ := split_levels k f nl (ents L) (by omega) (fun j g1 g2 => hc j g1 (by omega)) h1
    exact ⟨A, B, e, fun _ => a, fun _ => b', ca, cb⟩
  have hnode : ∃ u1, nodeW d (allW d k) (k + 1) ((nl.getD 0 (0, 0, 0)).1, (b : Int), 0) v0 = .ok (v0 ++ u1) ∧ MetAs (k + 1) (fun j => if j = k + 1 then [((b : Int), nl)] else A j) u1 := by
   rw [nodeW_ok hnew hrd (dec_txt henc) rfl rfl]
   by_cases hk : k = 0
   ·subst hk
    refine ⟨[⟨b, 1, nl, txt (Ents.nodeB nl true)⟩], rfl, fun x hx => ?_, fun j h1 h2 => ?_, fun x hx => ?_⟩
    ·obtain rfl := List.mem_singleton.1 hx; exact ⟨Nat.le_refl _, Nat.le_refl _⟩
    ·obtain rfl : j = 1 := by omega
     simp [lvl]
    ·obtain rfl := List.mem_singleton.1 hx; rfl
   ·have hlf : (k + 1 == 1) = false := by rw [beq_eq_false_iff_ne]; omega
    rw [hlf, if_neg (by decide)]
    have hfam : Fam d k A (v0 ++ [⟨b, k + 1, nl, txt (Ents.nodeB nl false)⟩]) := by
     have h0 : Fam d k A v0 := hf.left (by omega) (fun j h1 h2 => e j h1 h2)
     refine ⟨h0.st, fun j h1 h2 m hm => ?_, h0.same, h0.apart⟩
     rw [has_append, h0.new j h1 h2 m hm, Bool.false_or, Bool.eq_false_iff]
     intro hb
     simp [Forks.has] at hb
     have hmf : m ∈ f j := by rw [e j h1 h2]; exact List.mem_append_left _ hm
     have := (hf.st j h1 (by omega) m hmf).lo
     exact hf.apart j (k + 1) h1 (by omega) (Nat.le_refl _) m hmf _ hnf (by dsimp only; omega)
    obtain ⟨u, e1, m1⟩ := hrec A _ hfam cA
    rw [hA hk] at e1
    refine ⟨⟨b, k + 1, nl, txt (Ents.nodeB nl false)⟩ :: u, by rw [e1]; simp, fun x hx => ?_, fun j h1 h2 => ?_, fun x hx => ?_⟩
    all_goals (try dsimp only)
    ·rcases List.mem_cons.1 hx with rfl | hx
     ·exact ⟨by dsimp only; omega, Nat.le_refl _⟩
     ·have := m1.hs x hx; omega
    ·rw [show (⟨b, k + 1, nl, txt (Ents.nodeB nl false)⟩ :: u : V) = [⟨b, k + 1, nl, txt (Ents.nodeB nl false)⟩] ++ u from rfl, lvl_append]
     by_cases hj : j = k + 1
     ·subst hj
      rw [if_pos rfl, lvl_none (u := u) (fun y hy => by have := m1.hs y hy; omega), List.append_nil]
      simp [lvl]
     ·rw [if_neg hj, lvl_none (u := [⟨b, k + 1, nl, txt (Ents.nodeB nl false)⟩]) (fun y hy => by obtain rfl := List.mem_singleton.1 hy; dsimp only; omega), List.nil_append]
      exact m1.lv j h1 (by omega)
    ·rcases List.mem_cons.1 hx with rfl | hx
     ·dsimp only; rw [hlf]
     ·exact m1.tx x hx
  obtain ⟨u1, e1, m1⟩ := hnode
  have hfB : Fam d (k + 1) (fun j => if j = k + 1 then L else B j) (v0 ++ u1) := hf.right (Nat.le_refl _) (A := fun j => if j = k + 1 then [((b : Int), nl)] else A j) (fun j h1 h2 => by
   by_cases hj : j = k + 1
   ·subst hj; rw [if_pos rfl, if_pos rfl, hL]; rfl
   ·rw [if_neg hj, if_neg hj]; exact e j h1 (by omega)) m1
  obtain ⟨u2, e2, m2⟩ := fold_stand d k hrec L (fun j => if j = k + 1 then L else B j) (v0 ++ u1) (by rw [if_pos rfl]) hfB (fun j h1 h2 => by
   rw [if_neg (by omega)]
   by_cases hj : j = k
   ·subst hj; rw [if_pos rfl]; exact hB (by omega)
   ·rw [if_neg (by omega)]; exact cB j h1 (by omega))
  refine ⟨u1 ++ u2, ?_, fun x hx => ?_, fun j h1 h2 => ?_, fun x hx => ?_⟩
  ·show foldW _ (((nl.getD 0 (0, 0, 0)).1, (b : Int), 0) :: leads L) v0 = _
   unfold foldW
   rw [e1]
   dsimp only
   rw [e2, List.append_assoc]
  ·rcases List.mem_append.1 hx with h | h
   ·exact m1.hs x h
   ·exact m2.hs x h
  ·rw [lvl_append, m1.lv j h1 h2, m2.lv j h1 h2]
   by_cases hj : j = k + 1
   ·subst hj; rw [if_pos rfl, if_pos rfl, hL]; rfl
   ·rw [if_neg hj, if_neg hj, ← e j h1 (by omega)]
  ·rcases List.mem_append.1 hx with h | h
   ·exact m1.tx x h
   ·exact m2.tx x h
theorem allW_stand (d : Disk) : ∀ (k : Nat) (f : Nat → List Node) (v0 : V), Fam d k f v0 → (∀ j, 1 ≤ j → j < k → leads (f j) = ents (f (j + 1))) → ∃ u, allW d k (leads (f k)) v0 = .ok (v0 ++ u) ∧ MetAs k f u
 | 0, f, v0, _, _ => ⟨[], by simp [allW], .nil f⟩
 | k + 1, f, v0, hf, hc => by
  unfold allW
  exact fold_stand d k (fun f v0 hf hc => allW_stand d k f v0 hf hc) _ f v0 rfl hf hc
def Seen (d : Disk) (v : V) : Prop := ∀ x ∈ v, d.rd x.b = some x.s
theorem allW_seen (d : Disk) : ∀ (h : Nat) (l : EL) (v v' : V), Seen d v → allW d h l v = .ok v' → Seen d v'
 | 0, l, v, v', hg, he => by unfold allW at he; cases he; exact hg
 | h + 1, l, v, v', hg, he => by
  unfold allW at he
  refine foldW_ok (P := Seen d) (Q := fun _ => True) (fun x v v' _ hg he => ?_) l v v' (fun _ _ => trivial) hg he
  obtain ⟨hh, s, m, leaf, hs, hd, h1, h2, h3⟩ := nodeW_ok' he
  have hg' : Seen d (v ++ [⟨x.2.1.toNat, h + 1, m, s⟩]) := fun y hy => by
   rcases List.mem_append.1 hy with hy | hy
   ·exact hg y hy
   ·obtain rfl := List.mem_singleton.1 hy; exact hs
  split at h3
  ·cases h3; exact hg'
  ·exact allW_seen d h m _ v' hg' h3
theorem walkT_seen {d : Disk} {n : Nat} {root : EL} {v : V} {R : EL} (h : walkT d n root = .ok (v, R)) : Seen d v := by
 obtain ⟨hok, -, -⟩ := walkT_okr h
 by_cases h0 : n = 0
 ·subst h0
  rw [show ((0 : Nat) : Int) = 0 from rfl] at h hok
  rw [walkT_zero d root hok] at h
  split at h
  ·cases h; exact (fun x hx => by cases hx)
  ·cases h
 ·rw [walkT_pos d n root hok (by omega)] at h
  split at h
  ·cases h
  ·rename_i u hu
   split at h
   ·obtain ⟨rfl, rfl⟩ : u = v ∧ rowV u = R := by injection h with h; injection h with h1 h2; exact ⟨h1, h2⟩
    exact allW_seen d n root [] u (fun x hx => by cases hx) hu
   ·cases h
theorem good_uniq {v : V} (hg : Good v) {x y : Vis} (hx : x ∈ v) (hy : y ∈ v) (e : x.b = y.b) : x = y := by
 obtain ⟨i, hi, rfl⟩ := List.mem_iff_getElem.1 hx
 obtain ⟨j, hj, rfl⟩ := List.mem_iff_getElem.1 hy
 have h1 : (v.map fun x => x.b)[i]'(by simpa using hi) = (v.map fun x => x.b)[j]'(by simpa using hj) := by simpa using e
 have := (List.getElem_inj hg.ne).1 h1
 subst this
 rfl
theorem lvl_same' {v : V} (hg : Good v) (j : Nat) : ((lvl v j).map fun n => n.1).Nodup := by
 unfold lvl
 rw [List.map_map]
 have h1 : ((v.filter fun x => x.h == j).map fun x => x.b).Nodup := hg.ne.sublist (List.Sublist.map _ List.filter_sublist)
 rw [show ((fun n : Node => n.1) ∘ fun x : Vis => (((x.b : Nat) : Int), x.l)) = (fun n : Nat => (n : Int)) ∘ fun x : Vis => x.b from rfl, ← List.map_map]
 exact List.Pairwise.map _ (fun a b hab e => hab (by omega)) h1
theorem lvl_apart {v : V} (hg : Good v) {i j : Nat} (hij : i ≠ j) : ∀ n ∈ lvl v i, ∀ m ∈ lvl v j, n.1 ≠ m.1 := fun n hn m hm e => by
 obtain ⟨x, hx, rfl, rfl⟩ := lvl_mem.1 hn
 obtain ⟨y, hy, rfl, rfl⟩ := lvl_mem.1 hm
 have := good_uniq hg hx hy (by dsimp only at e; omega)
 subst this
 exact hij rfl
theorem walk_stands {d : Disk} {n : Nat} {root row : EL} {f : Nat → List Node} (h0 : n = 0 → root = row) (h1 : n ≠ 0 → ents (f 1) = row ∧ leads (f n) = root) (hc : ∀ j, 1 ≤ j → j < n → leads (f j) = ents (f (j + 1))) (hok : RootOk n root) (hf : Fam d n f []) :
  ∃ v, MetAs n f v ∧ walkT d n root = if Ents.Row true row ∧ meets v row = false then .ok (v, row) else .error 80 := by
 by_cases hn : n = 0
 ·subst hn
  refine ⟨[], .nil f, ?_⟩
  rw [show ((0 : Nat) : Int) = 0 from rfl] at hok ⊢
  rw [walkT_zero d root hok, h0 rfl]
 ·obtain ⟨u, e, m⟩ := allW_stand d n f [] hf hc
  obtain ⟨g1, g2⟩ := h1 hn
  rw [g2, List.nil_append] at e
  refine ⟨u, m, ?_⟩
  rw [walkT_pos d n root hok hn, e]
  dsimp only
  rw [rowV_ents, m.lv 1 (Nat.le_refl _) (by omega), g1]
theorem MetAs.has_iff {k : Nat} {f : Nat → List Node} {u : V} (h : MetAs k f u) (b : Nat) : Forks.has u b = true ↔ ∃ j, 1 ≤ j ∧ j ≤ k ∧ ∃ n ∈ f j, n.1 = (b : Int) := by
 refine ⟨h.has, ?_⟩
 rintro ⟨j, h1, h2, n, hn, e⟩
 rw [← h.lv j h1 h2] at hn
 obtain ⟨x, hx, -, rfl⟩ := lvl_mem.1 hn
 exact List.any_eq_true.2 ⟨x, hx, by dsimp only at e; rw [beq_iff_eq]; omega⟩
open Go Go.RowKit
def putC (C : CL) (L : List ByteArray) : List ByteArray := C.foldl (fun B x => putD x B) L
theorem putC_len (C : CL) (L : List ByteArray) : (putC C L).length = L.length := fold_putD_len C L
theorem putD_at {x : Int × ByteArray} {L : List ByteArray} (hL : L.length = 4096) (h1 : 0 ≤ x.1) (h2 : x.1 < 4096) (b : Nat) : (putD x L)[b]? = if (b : Int) = x.1 then some x.2 else L[b]? := by
 unfold putD
 rw [if_pos ⟨h1, h2⟩, List.getElem?_set]
 by_cases h : (b : Int) = x.1
 ·rw [if_pos h, if_pos (by omega), if_pos (by omega)]
 ·rw [if_neg h, if_neg (by omega)]
theorem rd_old {L : List ByteArray} {bad : Int} {b : Nat} {s : ByteArray} (h : (⟨L, bad⟩ : Disk).rd b = some s) : L[b]? = some s := by
 unfold Disk.rd at h
 split at h
 ·cases h
 ·exact h
theorem rd_new (L : List ByteArray) (b : Nat) : (⟨L, -1⟩ : Disk).rd b = L[b]? := by
 unfold Disk.rd
 rw [if_neg (by dsimp only; omega)]
theorem textOf_at {v : V} (hg : Good v) {x : Vis} (hx : x ∈ v) : textOf v x.b = x.s := by
 unfold textOf
 cases h : v.find? fun y => y.b == x.b with
 | none =>
  have := List.find?_eq_none.1 h x hx
  simp at this
 | some y =>
  have h1 := List.mem_of_find?_eq_some h
  have h2 := List.find?_some h
  have := good_uniq hg h1 hx (by simpa using h2)
  rw [this]
theorem ents_map (g : EL → EL) (hg : ∀ a b, g (a ++ b) = g a ++ g b) (h0 : g [] = []) (bl : Int → Int) : ∀ L : List Node, ents (L.map fun m => (bl m.1, g m.2)) = g (ents L)
 | [] => h0.symm
 | n :: L => by
  rw [List.map_cons]
  show g n.2 ++ ents (L.map _) = _
  rw [ents_map g hg h0 bl L, ← hg]
  rfl
theorem meets_mk {v : V} {R : EL} (h : ∀ b : Nat, has v b = true → taken R (b : Int) = false) : meets v R = false := by
 unfold meets nodes
 rw [List.any_eq_false]
 intro b hb
 rw [h b (List.mem_filter.1 hb).2]
 decide
end Go.Proofs.YtgjmeeiejcbjfaaGreat.Forks
