/- Trees: the names of a shape's nodes, how full they are. No program. -/
import Derived.Test.YtgjmeeiejcbjfaaGreatF26
set_option linter.unusedSimpArgs false
set_option linter.unusedVariables false
namespace Go.Proofs.YtgjmeeiejcbjfaaGreat.Forks
open Go Go.RowKit
def names (L : List Node) : IL := L.map fun n => n.1
def Anew (m m' : Nat) (b : Int) : Prop := -(m' : Int) ≤ b ∧ b ≤ -((m : Int) + 1)
theorem nameN_count : ∀ (bs : List Int) (m : Nat) (P : List EL), (nameN bs m P).2 = m + (P.length - bs.length)
 | [], m, [] => rfl
 | b :: bs, m, [] => by simp [nameN]
 | [], m, l :: P => by have := nameN_count [] (m + 1) P; simp [nameN] at *; omega
 | b :: bs, m, l :: P => by have := nameN_count bs m P; simp [nameN] at *; omega
theorem nameN_names : ∀ (bs : List Int) (m : Nat) (P : List EL), names (nameN bs m P).1 = bs.take P.length ++ (List.range (P.length - bs.length)).map fun i => -(((m + i : Nat) : Int) + 1)
 | [], m, [] => rfl
 | b :: bs, m, [] => by simp [nameN, names]
 | [], m, l :: P => by
  have := nameN_names [] (m + 1) P
  simp only [nameN, names, List.map_cons, List.take_nil, List.nil_append, List.length_cons, List.length_nil, Nat.sub_zero] at this ⊢
  rw [this, List.range_succ_eq_map, List.map_cons, List.map_map]
  refine List.cons_eq_cons.2 ⟨by simp, List.map_congr_left (fun i _ => by
   show -(((m + 1 + i : Nat) : Int) + 1) = -(((m + (i + 1) : Nat) : Int) + 1)
   rw [Nat.add_assoc, Nat.add_comm 1 i])⟩
 | b :: bs, m, l :: P => by
  have := nameN_names bs m P
  simp only [nameN, names, List.map_cons, List.length_cons] at this ⊢
  rw [this, List.take_succ_cons, List.cons_append, Nat.add_sub_add_right]
theorem names_append (a b : List Node) : names (a ++ b) = names a ++ names b := by simp [names]
theorem anew_range {m k : Nat} {b : Int} : b ∈ ((List.range k).map fun i => -(((m + i : Nat) : Int) + 1)) ↔ Anew m (m + k) b := by
 unfold Anew
 rw [List.mem_map]
 constructor
 ·rintro ⟨i, hi, rfl⟩
  have := List.mem_range.1 hi
  omega
 ·rintro ⟨h1, h2⟩
  exact ⟨(-b).toNat - m - 1, List.mem_range.2 (by omega), by omega⟩
theorem anew_nodup (m k : Nat) : ((List.range k).map fun i => -(((m + i : Nat) : Int) + 1)).Nodup :=
 List.Pairwise.map _ (fun a b hab e => hab (by omega)) List.nodup_range
structure NamesOk (O : IL) (m m' : Nat) (X : IL) : Prop where
 le : m ≤ m'
 nd : X.Nodup
 from_ : ∀ b ∈ X, b ∈ O ∨ Anew m m' b
 all : ∀ b, Anew m m' b → b ∈ X
theorem take_drop_le {α : Type} (l : List α) {a b : Nat} (h : a ≤ b) : (l.take a ++ ((l.take b).drop a)) = l.take b := by
 rw [show l.take a = (l.take b).take a by rw [List.take_take, Nat.min_eq_left h], List.take_append_drop]
theorem level_names {old : List Node} (hk : Known old) (hnd : (names old).Nodup) (want : EL) (m : Nat) : NamesOk (names old) m (level old want m).2 (names (level old want m).1) := by
 have hc := level_cuts old want
 unfold level levelC
 generalize cuts1 old (cuts0 old want) = c at *
 dsimp only
 generalize parted 10 ((want.take c.to_).drop c.from_) = P
 rw [names_append, names_append, nameN_names, nameN_count]
 have hsub : (names (old.take c.first) ++ (names ((old.take c.last).drop c.first)).take P.length ++ names (old.drop c.last)).Sublist (names old) := by
  have e : names old = names (old.take c.first) ++ names ((old.take c.last).drop c.first) ++ names (old.drop c.last) := by
   rw [← names_append, ← names_append, take_drop_le _ hc.fl, List.take_append_drop]
  rw [e]
  exact ((List.Sublist.refl _).append (List.take_sublist _ _)).append (List.Sublist.refl _)
 have hpos : ∀ b ∈ names old, 1 ≤ b := fun b hb => by
  obtain ⟨n, hn, rfl⟩ := List.mem_map.1 hb
  exact (hk n hn).1
 have hnd' := hnd.sublist hsub
 rw [show ((old.take c.last).drop c.first).map (fun n => n.1) = names ((old.take c.last).drop c.first) from rfl]
 generalize names ((old.take c.last).drop c.first) = bs at *
 generalize hA : names (old.take c.first) = A at *
 generalize hC : names (old.drop c.last) = C at *
 generalize hN : (List.range (P.length - bs.length)).map (fun i => -(((m + i : Nat) : Int) + 1)) = Nw at *
 have hNm : ∀ b, b ∈ Nw ↔ Anew m (m + (P.length - bs.length)) b := fun b => by rw [← hN]; exact anew_range
 have hNn : Nw.Nodup := by rw [← hN]; exact anew_nodup _ _
 have hneg : ∀ b ∈ Nw, b ≤ -1 := fun b hb => by have := (hNm b).1 hb; unfold Anew at this; omega
 have hold : ∀ b, b ∈ A ++ bs.take P.length ++ C → 1 ≤ b := fun b hb => hpos b (hsub.subset hb)
 refine ⟨Nat.le_add_right _ _, ?_, fun b hb => ?_, fun b hb => ?_⟩
 ·have hp : (A ++ (bs.take P.length ++ Nw) ++ C).Perm (Nw ++ (A ++ bs.take P.length ++ C)) := by
   have h1 : (A ++ (bs.take P.length ++ Nw) ++ C) = (A ++ bs.take P.length) ++ (Nw ++ C) := by simp
   have h2 : (Nw ++ (A ++ bs.take P.length ++ C)) = Nw ++ (A ++ bs.take P.length) ++ C := by simp
   rw [h1, h2]
   have h3 : ((A ++ bs.take P.length) ++ Nw).Perm (Nw ++ (A ++ bs.take P.length)) := List.perm_append_comm
   have h4 := h3.append_right C
   simpa using h4
  rw [hp.nodup_iff, List.nodup_append]
  refine ⟨hNn, hnd', fun a ha b hb e => ?_⟩
  have h1 := hneg a ha
  have h2 := hold b hb
  omega
 ·rcases List.mem_append.1 hb with hb | hb
  ·rcases List.mem_append.1 hb with hb | hb
   ·exact .inl (hsub.subset (by simp [hb]))
   ·rcases List.mem_append.1 hb with hb | hb
    ·exact .inl (hsub.subset (by simp [hb]))
    ·exact .inr ((hNm b).1 hb)
  ·exact .inl (hsub.subset (by simp [hb]))
 ·have := (hNm b).2 hb
  simp [this]
structure LvNames (old : List (List Node)) (m m' : Nat) (LV : List (List Node)) : Prop where
 le : m ≤ m'
 nd : ∀ i, (names (LV.getD i [])).Nodup
 from_ : ∀ i, ∀ b ∈ names (LV.getD i []), b ∈ names (old.getD i []) ∨ Anew m m' b
 apart : ∀ i j, i < j → ∀ b ∈ names (LV.getD i []), b < 0 → ∀ c ∈ names (LV.getD j []), b ≠ c
 all : ∀ b, Anew m m' b → ∃ i, b ∈ names (LV.getD i [])
theorem LvNames.nil (old : List (List Node)) (m : Nat) : LvNames old m m [] :=
 ⟨Nat.le_refl _, fun i => by simp [names], fun i b h => by simp [names] at h, fun i j h b hb => by simp [names] at hb, fun b h => by unfold Anew at h; omega⟩
theorem Anew.mono {m m' k k' : Nat} {b : Int} (h : Anew m m' b) (h1 : k ≤ m) (h2 : m' ≤ k') : Anew k k' b := by unfold Anew at *; omega
theorem LvNames.cons {l : List Node} {old : List (List Node)} {m m1 m2 : Nat} {X : List Node} {r : List (List Node)} (hl : Known l) (hpos : ∀ L ∈ old, Known L) (h1 : NamesOk (names l) m m1 (names X)) (h2 : LvNames old m1 m2 r) : LvNames (l :: old) m m2 (X :: r) := by
 refine ⟨Nat.le_trans h1.le h2.le, fun i => ?_, fun i b hb => ?_, fun i j hij b hb hneg c hc => ?_, fun b hb => ?_⟩
 ·cases i with
  | zero => exact h1.nd
  | succ i => exact h2.nd i
 ·cases i with
  | zero => exact (h1.from_ b hb).imp id fun h => h.mono (Nat.le_refl _) h2.le
  | succ i => exact (h2.from_ i b hb).imp id fun h => h.mono h1.le (Nat.le_refl _)
 ·cases j with
  | zero => omega
  | succ j =>
   cases i with
   | succ i => exact h2.apart i j (by omega) b hb hneg c hc
   | zero =>
    intro e
    subst e
    have hc' : b ∈ names (r.getD j []) := hc
    have hb' : b ∈ names X := hb
    rcases h1.from_ b hb' with h3 | h3
    ·obtain ⟨n, hn, rfl⟩ := List.mem_map.1 h3
     have := (hl n hn).1
     omega
    ·rcases h2.from_ j b hc' with h | h
     ·by_cases hj : j < old.length
      ·obtain ⟨n, hn, rfl⟩ := List.mem_map.1 h
       have := (hpos _ (show old.getD j [] ∈ old by rw [show old.getD j [] = old[j] by simp [List.getD, hj]]; exact List.getElem_mem _) n hn).1
       omega
      ·rw [show old.getD j [] = [] by simp [List.getD, Nat.le_of_not_lt hj]] at h
       simp [names] at h
     ·unfold Anew at h h3
      omega
 ·by_cases h : Anew m m1 b
  ·exact ⟨0, h1.all b h⟩
  ·obtain ⟨i, hi⟩ := h2.all b (by unfold Anew at *; omega)
   exact ⟨i + 1, hi⟩
theorem LvNames.none {m m' : Nat} {LV : List (List Node)} (h : LvNames [[]] m m' LV) : LvNames [] m m' LV := by
 refine ⟨h.le, h.nd, fun i b hb => ?_, h.apart, h.all⟩
 rcases h.from_ i b hb with h | h
 ·left
  cases i with
  | zero => exact h
  | succ i => exact h
 ·exact .inr h
theorem known_nil : Known [] := fun n h => by cases h
theorem upNew_names : ∀ (k : Nat) (root : EL) (m : Nat), LvNames [] m (upNew k root m).2.2 (upNew k root m).1
 | 0, root, m => .nil _ _
 | k + 1, root, m => by
  rw [upNew]
  split
  ·exact .nil _ _
  ·exact (LvNames.cons (l := []) (old := []) known_nil (fun L h => by cases h) (level_names known_nil (by simp [names]) root m) (upNew_names k _ _)).none
theorem upOld_names : ∀ (old : List (List Node)) (root : EL) (m : Nat), (∀ L ∈ old, Known L ∧ (names L).Nodup) → LvNames old m (upOld old root m).2.2 (upOld old root m).1
 | [], root, m, _ => upNew_names _ root m
 | l :: old, root, m, h => by
  rw [upOld]
  exact LvNames.cons (h l (by simp)).1 (fun L hL => (h L (by simp [hL])).1) (level_names (h l (by simp)).1 (h l (by simp)).2 root m) (upOld_names old _ _ fun L hL => h L (by simp [hL]))
def Half (L : List Node) : Prop := ∀ n ∈ L, 5 ≤ n.2.length
def Low (L : List Node) : Prop := ∃ n, L = [n] ∧ n.2.length ≤ 4
theorem parted_half {l : EL} (h : 5 ≤ l.length ∨ l.length = 0) : ∀ p ∈ parted 10 l, 5 ≤ p.length := by
 intro p hp
 unfold parted at hp
 exact (partN_bounds _ l 5 10 (by omega) (by omega) p hp).1
theorem nameN_half {bs : List Int} {m : Nat} {P : List EL} (h : ∀ p ∈ P, 5 ≤ p.length) : Half (nameN bs m P).1 := by
 intro n hn
 have h1 : n.2 ∈ (nameN bs m P).1.map (fun n => n.2) := List.mem_map.2 ⟨n, hn, rfl⟩
 rw [nameN_parts] at h1
 exact h _ h1
theorem Half.append {A B : List Node} (h : Half A) (h' : Half B) : Half (A ++ B) := fun n hn => (List.mem_append.1 hn).elim (h n) (h' n)
theorem Half.take {L : List Node} (h : Half L) (k : Nat) : Half (L.take k) := fun n hn => h n (List.mem_of_mem_take hn)
theorem Half.drop {L : List Node} (h : Half L) (k : Nat) : Half (L.drop k) := fun n hn => h n (List.mem_of_mem_drop hn)
theorem levelC_half {old : List Node} (ho : Half old) {want : EL} {m : Nat} {c : Cuts} (hc : CutsOk old want c) (h : 5 ≤ c.to_ - c.from_ ∨ c.to_ - c.from_ = 0) : Half (levelC old want m c).1 := by
 unfold levelC
 dsimp only
 refine ((ho.take _).append (nameN_half (parted_half ?_))).append (ho.drop _)
 rw [mid_len hc]
 exact h
theorem level_half {old : List Node} (ho : Half old) (want : EL) (m : Nat) : Half (level old want m).1 ∨ Low (level old want m).1 := by
 have h0 := cuts0_ok old want
 have h1 := level_cuts old want
 unfold level
 generalize cuts0 old want = c at *
 by_cases hs : 0 < c.to_ - c.from_ ∧ c.to_ - c.from_ < 5
 ·by_cases hf : 0 < c.first
  ·left
   refine levelC_half ho h1 (.inl ?_)
   unfold cuts1
   rw [if_pos hs, if_pos hf]
   dsimp only
   have hj : c.first - 1 < old.length := by have := h0.fl; have := h0.lo; omega
   have eg : old.getD (c.first - 1) (0, []) = old[c.first - 1] := by simp [List.getD, hj]
   have et : old.take c.first = old.take (c.first - 1) ++ [old[c.first - 1]] := by
    have := List.take_succ_eq_append_getElem hj
    rwa [show c.first - 1 + 1 = c.first by omega] at this
   have el := h0.gf
   rw [et, lens_append] at el
   have := ho _ (List.getElem_mem hj)
   rw [eg]
   simp only [lens] at el
   omega
  ·by_cases hl : c.last < old.length
   ·left
    refine levelC_half ho h1 (.inl ?_)
    unfold cuts1
    rw [if_pos hs, if_neg hf, if_pos hl]
    dsimp only
    have := ho _ (List.getElem_mem hl)
    rw [show old.getD c.last (0, []) = old[c.last] by simp [List.getD, hl]]
    omega
   ·right
    have e : cuts1 old c = c := by
     unfold cuts1
     rw [if_pos hs, if_neg hf, if_neg hl]
    rw [e] at h1 ⊢
    unfold levelC
    dsimp only
    have hm := mid_len h1
    rw [show c.first = 0 by omega, List.take_zero, List.nil_append, List.drop_eq_nil_of_le (show old.length ≤ c.last by omega), List.append_nil]
    have hP := parted_len ((want.take c.to_).drop c.from_)
    rw [hm] at hP
    have hn := nameN_len (((old.take c.last).drop 0).map fun n => n.1) m (parted 10 ((want.take c.to_).drop c.from_))
    rw [hP, show (c.to_ - c.from_ + 10 - 1) / 10 = 1 by omega] at hn
    obtain ⟨n, hn'⟩ := List.length_eq_one_iff.1 hn
    refine ⟨n, hn', ?_⟩
    have hj := ents_nameN (((old.take c.last).drop 0).map fun n => n.1) m (parted 10 ((want.take c.to_).drop c.from_))
    rw [hn', parted_join] at hj
    have : (ents [n]).length = c.to_ - c.from_ := by rw [hj, hm]
    simp [ents] at this
    omega
 ·left
  refine levelC_half ho h1 ?_
  unfold cuts1
  rw [if_neg hs]
  omega
theorem level_low {old : List Node} (hk : Known old) (want : EL) (m : Nat) (h : old ≠ [] ∨ 4 < want.length) {n : Node} (hn : (level old want m).1 = [n]) (h4 : n.2.length ≤ 4) : 1 ≤ n.1 := by
 have hj := level_join old want m
 rw [hn] at hj
 have hwl : want.length ≤ 4 := by rw [← hj]; simpa [ents] using h4
 have ho : old ≠ [] := h.resolve_right (by omega)
 have hc := level_cuts old want
 unfold level levelC at hn
 generalize cuts1 old (cuts0 old want) = c at *
 dsimp only at hn
 have hnn := nameN_names (((old.take c.last).drop c.first).map fun n => n.1) m (parted 10 ((want.take c.to_).drop c.from_))
 generalize parted 10 ((want.take c.to_).drop c.from_) = P at *
 generalize hX : (nameN (((old.take c.last).drop c.first).map fun n => n.1) m P).1 = X at *
 have hm : n ∈ old.take c.first ++ X ++ old.drop c.last := by rw [hn]; simp
 rcases List.mem_append.1 hm with hm' | hm'
 ·rcases List.mem_append.1 hm' with hm' | hm'
  ·exact (hk n (List.mem_of_mem_take hm')).1
  ·-- the new part is all there is
   have hlen := congrArg List.length hn
   rw [List.length_append, List.length_append, List.length_take, List.length_drop, List.length_singleton] at hlen
   have hX1 : 1 ≤ X.length := List.length_pos_of_mem hm'
   have hfl := hc.fl
   have hlo := hc.lo
   have hol : 0 < old.length := List.length_pos_iff.2 ho
   have hXe : X = [n] := by
    have : X.length = 1 := by omega
    obtain ⟨y, hy⟩ := List.length_eq_one_iff.1 this
    rw [hy] at hm' ⊢
    rw [List.mem_singleton.1 hm']
   have hPl : P.length = 1 := by
    have := nameN_len (((old.take c.last).drop c.first).map fun n => n.1) m P
    rw [hX, hXe] at this
    simpa using this.symm
   have hfn : names X ≠ [] := by rw [hXe]; simp [names]
   rw [show c.first = 0 by omega, show c.last = old.length by omega, List.drop_zero, List.take_length] at hnn
   have : n.1 ∈ names X := by rw [hXe]; simp [names]
   rw [hnn, hPl] at this
   cases old with
   | nil => exact absurd rfl ho
   | cons y old =>
    have h : n.1 = y.1 := by simpa using this
    rw [h]
    exact (hk y (by simp)).1
 ·exact (hk n (List.mem_of_mem_drop hm')).1
theorem half_nil : Half [] := fun n h => by cases h
theorem upNew_half : ∀ (k : Nat) (root : EL) (m : Nat), ∀ X ∈ (upNew k root m).1, Half X ∨ Low X
 | 0, root, m, X, h => by cases h
 | k + 1, root, m, X, h => by
  rw [upNew] at h
  split at h
  ·cases h
  ·rcases List.mem_cons.1 h with rfl | h
   ·exact level_half half_nil root m
   ·exact upNew_half k _ _ X h
theorem upOld_half : ∀ (old : List (List Node)) (root : EL) (m : Nat), (∀ L ∈ old, Half L) → ∀ X ∈ (upOld old root m).1, Half X ∨ Low X
 | [], root, m, _, X, h => upNew_half _ root m X h
 | l :: old, root, m, ho, X, h => by
  rw [upOld] at h
  rcases List.mem_cons.1 h with rfl | h
  ·exact level_half (ho l (by simp)) root m
  ·exact upOld_half old _ _ (fun L hL => ho L (by simp [hL])) X h
theorem upNew_low : ∀ (k : Nat) (root : EL) (m : Nat), ∀ X ∈ (upNew k root m).1, ∀ n, X = [n] → n.2.length ≤ 4 → 1 ≤ n.1
 | 0, root, m, X, h => by cases h
 | k + 1, root, m, X, h => by
  rw [upNew] at h
  split at h
  ·cases h
  ·rename_i hr
   rcases List.mem_cons.1 h with rfl | h
   ·exact fun n hn h4 => level_low known_nil root m (.inr (by omega)) hn h4
   ·exact upNew_low k _ _ X h
theorem upOld_low : ∀ (old : List (List Node)) (root : EL) (m : Nat), (∀ L ∈ old, Known L ∧ L ≠ []) → ∀ X ∈ (upOld old root m).1, ∀ n, X = [n] → n.2.length ≤ 4 → 1 ≤ n.1
 | [], root, m, _, X, h => upNew_low _ root m X h
 | l :: old, root, m, ho, X, h => by
  rw [upOld] at h
  rcases List.mem_cons.1 h with rfl | h
  ·exact fun n hn h4 => level_low (ho l (by simp)).1 root m (.inl (ho l (by simp)).2) hn h4
  ·exact upOld_low old _ _ (fun L hL => ho L (by simp [hL])) X h
theorem trim_drop : ∀ (r : List (List Node)) (root : EL), ∃ t, t ≤ r.length ∧ (trimR r root).1 = r.drop t ∧ ∀ X ∈ r.take t, X = [] ∨ Low X
 | [], root => ⟨0, Nat.le_refl _, rfl, (fun X h => by cases h)⟩
 | [] :: r, root => by
  obtain ⟨t, h0, h1, h2⟩ := trim_drop r root
  refine ⟨t + 1, by simpa using h0, by rw [trimR, h1]; rfl, fun X hX => ?_⟩
  rw [List.take_succ_cons] at hX
  rcases List.mem_cons.1 hX with rfl | hX
  ·exact .inl rfl
  ·exact h2 X hX
 | [n] :: r, root => by
  by_cases h : n.2.length ≤ 4
  ·obtain ⟨t, h0, h1, h2⟩ := trim_drop r n.2
   refine ⟨t + 1, by simpa using h0, by rw [trimR, if_pos h, h1]; rfl, fun X hX => ?_⟩
   rw [List.take_succ_cons] at hX
   rcases List.mem_cons.1 hX with rfl | hX
   ·exact .inr ⟨n, rfl, h⟩
   ·exact h2 X hX
  ·exact ⟨0, Nat.zero_le _, by rw [trimR, if_neg h]; rfl, (fun X h => by cases h)⟩
 | (a :: b :: l) :: r, root => ⟨0, Nat.zero_le _, rfl, (fun X h => by cases h)⟩
theorem trim_head : ∀ (r : List (List Node)) (root : EL) (H : List Node) (r' : List (List Node)), (trimR r root).1 = H :: r' → H ≠ [] ∧ ¬ Low H
 | [], root, H, r', h => by cases h
 | [] :: r, root, H, r', h => trim_head r root H r' (by rwa [trimR] at h)
 | [n] :: r, root, H, r', h => by
  rw [trimR] at h
  split at h
  ·exact trim_head r _ H r' h
  ·rename_i h4
   cases h
   exact ⟨by simp, fun ⟨m, e, hm⟩ => by cases e; exact h4 hm⟩
 | (a :: b :: l) :: r, root, H, r', h => by
  cases h
  exact ⟨by simp, fun ⟨m, e, _⟩ => by cases e⟩
theorem trim_root : ∀ (r : List (List Node)) (root : EL), root.length ≤ 4 → (trimR r root).2.length ≤ 4
 | [], root, h => h
 | [] :: r, root, h => by rw [trimR]; exact trim_root r root h
 | [n] :: r, root, h => by
  rw [trimR]
  split
  ·rename_i h4
   exact trim_root r _ h4
  ·exact h
 | (a :: b :: l) :: r, root, h => h
theorem upNew_root : ∀ (k : Nat) (root : EL) (m : Nat), root.length ≤ k → (upNew k root m).2.1.length ≤ 4
  | 0, root, m, h => by have : root.length = 0 := by omega
                        show root.length ≤ 4
                        omega
  | k + 1, root, m, h => by
    rw [upNew]
    split
    · rename_i h4; exact h4
    · have e1 := level_new_len root m
      have e2 := leads_len (level [] root m).1
      exact upNew_root k _ _ (by omega)
theorem upOld_root : ∀ (old : List (List Node)) (root : EL) (m : Nat), (upOld old root m).2.1.length ≤ 4
 | [], root, m => upNew_root _ root m (Nat.le_refl _)
 | l :: old, root, m => by rw [upOld]; exact upOld_root old _ _
theorem half_all : ∀ (r : List (List Node)) (row root : EL), Chain row r.reverse root → (∀ X ∈ r, Half X ∨ Low X) → (∀ H r', r = H :: r' → H ≠ [] ∧ ¬ Low H) → ∀ X ∈ r, Half X ∧ X ≠ []
 | [], row, root, _, _, _, X, hX => by cases hX
 | H :: r, row, root, hc, hh, h1, X, hX => by
  rw [List.reverse_cons] at hc
  obtain ⟨h2, -⟩ := hc.snoc
  obtain ⟨h3, h4⟩ := h1 H r rfl
  have hH : Half H := (hh H (by simp)).resolve_right h4
  rcases List.mem_cons.1 hX with rfl | hX
  ·exact ⟨hH, h3⟩
  ·refine half_all r row _ h2 (fun X hX => hh X (by simp [hX])) (fun H' r' e => ?_) X hX
   subst e
   rw [List.reverse_cons] at h2
   obtain ⟨-, h5⟩ := h2.snoc
   have h6 : 5 ≤ H'.length := by
    rw [← leads_len H', ← h5]
    cases H with
    | nil => exact absurd rfl h3
    | cons n H =>
     have := hH n (by simp)
     simp only [ents, List.length_append]
     omega
   refine ⟨fun e => by rw [e] at h6; simp at h6, fun ⟨n, e, _⟩ => by rw [e] at h6; simp at h6⟩
structure ShapeOk (old : List (List Node)) (row : EL) (LV : List (List Node)) (root : EL) (m : Nat) : Prop where
 ch : Chain row LV root
 half : ∀ X ∈ LV, Half X ∧ X ≠ []
 rl : root.length ≤ 4
 nm : LvNames old 0 m LV
theorem shape_ok {old : List (List Node)} (row : EL) (ho : ∀ L ∈ old, Known L ∧ L ≠ [] ∧ Half L ∧ (names L).Nodup) : ShapeOk old row (shapeT old row 0).1.1 (shapeT old row 0).1.2 (shapeT old row 0).2 := by
 have hch := shape_chain old row 0
 have hnm := upOld_names old row 0 (fun L hL => ⟨(ho L hL).1, (ho L hL).2.2.2⟩)
 have hhf := upOld_half old row 0 (fun L hL => (ho L hL).2.2.1)
 have hlw := upOld_low old row 0 (fun L hL => ⟨(ho L hL).1, (ho L hL).2.1⟩)
 have hrt := upOld_root old row 0
 unfold shapeT at hch ⊢
 dsimp only at hch ⊢
 generalize upOld old row 0 = u at *
 obtain ⟨LV, root, m⟩ := u
 dsimp only at *
 have htr := trim_root LV.reverse root hrt
 have hth := trim_head LV.reverse root
 obtain ⟨t, ht0, ht1, ht2⟩ := trim_drop LV.reverse root
 generalize trimR LV.reverse root = y at *
 obtain ⟨r, root'⟩ := y
 dsimp only at *
 subst ht1
 rw [List.length_reverse] at ht0
 have er : (LV.reverse.drop t).reverse = LV.take (LV.length - t) := by rw [List.drop_reverse, List.reverse_reverse]
 refine ⟨hch, fun X hX => ?_, htr, ?_⟩
 ·rw [List.mem_reverse] at hX
  exact half_all _ row root' hch (fun X hX => hhf X (by have := List.mem_of_mem_drop hX; simpa using this)) (fun H r' e => hth H r' e) X hX
 ·rw [er]
  have hget : ∀ i, i < LV.length - t → (LV.take (LV.length - t)).getD i [] = LV.getD i [] := fun i hi => by
   rw [List.getD_eq_getElem?_getD, List.getD_eq_getElem?_getD, List.getElem?_take, if_pos hi]
  have hnone : ∀ i, ¬ i < LV.length - t → (LV.take (LV.length - t)).getD i [] = [] := fun i hi => by
   simp [List.getD, List.getElem?_take, hi]
  have hor : ∀ i b, b ∈ names ((LV.take (LV.length - t)).getD i []) → b ∈ names (LV.getD i []) := fun i b hb => by
   by_cases hi : i < LV.length - t
   ·rwa [hget i hi] at hb
   ·rw [hnone i hi] at hb; simp [names] at hb
  refine ⟨hnm.le, fun i => ?_, fun i b hb => hnm.from_ i b (hor i b hb), fun i j hij b hb hneg c hc => hnm.apart i j hij b (hor i b hb) hneg c (hor j c hc), fun b hb => ?_⟩
  ·by_cases hi : i < LV.length - t
   ·rw [hget i hi]; exact hnm.nd i
   ·rw [hnone i hi]; simp [names]
  ·obtain ⟨i, hi⟩ := hnm.all b hb
   by_cases h : i < LV.length - t
   ·exact ⟨i, by rw [hget i h]; exact hi⟩
   ·by_cases hl : i < LV.length
    ·have hX : LV.getD i [] ∈ LV.reverse.take t := by
      rw [show LV.getD i [] = LV[i] by simp [List.getD, hl]]
      rw [List.take_reverse]
      rw [List.mem_reverse]
      exact List.mem_iff_getElem.2 ⟨i - (LV.length - t), by rw [List.length_drop]; omega, by rw [List.getElem_drop]; congr 1; omega⟩
     rcases ht2 _ hX with e | ⟨n, e, h4⟩
     ·rw [e] at hi; simp [names] at hi
     ·have hg : LV.getD i [] = LV[i] := by simp [List.getD, hl]
      have h1 := hlw _ (show LV.getD i [] ∈ LV by rw [hg]; exact List.getElem_mem _) n e h4
      rw [e] at hi
      simp [names] at hi
      subst hi
      unfold Anew at hb
      omega
    ·rw [show LV.getD i [] = [] by simp [List.getD, Nat.le_of_not_lt hl]] at hi
     simp [names] at hi
theorem half_lens : ∀ {L : List Node}, Half L → 5 * L.length ≤ lens L
 | [], _ => by simp [lens]
 | n :: L, h => by
  have h1 := h n (by simp)
  have h2 := half_lens (L := L) fun x hx => h x (by simp [hx])
  simp only [List.length_cons, lens]
  omega
theorem fed_lens : ∀ {L : List Node}, Fed L → lens L ≤ 10 * L.length
 | [], _ => by simp [lens]
 | n :: L, h => by
  have h1 := (h n (by simp)).2
  have h2 := fed_lens (L := L) fun x hx => h x (by simp [hx])
  simp only [List.length_cons, lens]
  omega
def total (LV : List (List Node)) : Nat := (LV.map List.length).sum
theorem chain_total : ∀ (LV : List (List Node)) (row root : EL), Chain row LV root → (∀ X ∈ LV, Half X) → 4 * total LV + root.length ≤ row.length ∧ 5 ^ LV.length * root.length ≤ row.length
 | [], row, root, h, _ => by
  have : root = row := h
  subst this
  simp [total]
 | L :: LV, row, root, h, hh => by
  obtain ⟨h1, h2⟩ := h
  obtain ⟨h3, h4⟩ := chain_total LV _ root h2 (fun X hX => hh X (by simp [hX]))
  have h5 := half_lens (hh L (by simp))
  rw [← ents_length, h1] at h5
  rw [leads_len] at h3 h4
  have : total (L :: LV) = L.length + total LV := by simp [total]
  refine ⟨by omega, ?_⟩
  rw [List.length_cons, Nat.pow_succ, Nat.mul_comm (5 ^ LV.length) 5, Nat.mul_assoc]
  omega
theorem chain_most : ∀ (LV : List (List Node)) (row root : EL), Chain row LV root → (∀ X ∈ LV, Fed X) → row.length ≤ 10 ^ LV.length * root.length
 | [], row, root, h, _ => by
  have : root = row := h
  subst this
  simp
 | L :: LV, row, root, h, hh => by
  obtain ⟨h1, h2⟩ := h
  have h3 := chain_most LV _ root h2 (fun X hX => hh X (by simp [hX]))
  have h5 := fed_lens (hh L (by simp))
  rw [← ents_length, h1] at h5
  rw [leads_len] at h3
  rw [List.length_cons, Nat.pow_succ, Nat.mul_comm (10 ^ LV.length) 10, Nat.mul_assoc]
  omega
theorem ShapeOk.root_ne {old : List (List Node)} {row : EL} {LV : List (List Node)} {root : EL} {m : Nat} (h : ShapeOk old row LV root m) (hne : LV ≠ []) : root ≠ [] := by
 obtain ⟨k, hk⟩ : ∃ k, LV.length = k + 1 := ⟨LV.length - 1, by have := List.length_pos_iff.2 hne; omega⟩
 rw [h.ch.root k hk]
 intro e
 have : LV.getD k [] ∈ LV := by rw [show LV.getD k [] = LV[k]'(by omega) by simp [List.getD, show k < LV.length by omega]]; exact List.getElem_mem _
 have h2 := (h.half _ this).2
 have := congrArg List.length e
 rw [leads_len] at this
 exact h2 (List.eq_nil_of_length_eq_zero this)
theorem ShapeOk.many {old : List (List Node)} {row : EL} {LV : List (List Node)} {root : EL} {m : Nat} (h : ShapeOk old row LV root m) (hr : row.length ≤ 2048) : LV.length ≤ 4 ∧ total LV ≤ 512 ∧ m ≤ total LV ∧ (LV.length = 0 ↔ row.length ≤ 4) := by
 obtain ⟨h1, h2⟩ := chain_total LV row root h.ch (fun X hX => (h.half X hX).1)
 have h4 : LV.length ≤ 4 := by
  by_cases hne : LV = []
  ·rw [hne]; simp
  ·have h3 := List.length_pos_iff.2 (h.root_ne hne)
   rcases Nat.lt_or_ge 4 LV.length with hl | hl
   ·have : 5 ^ 5 ≤ 5 ^ LV.length := Nat.pow_le_pow_right (by decide) hl
    have : 5 ^ LV.length * 1 ≤ 5 ^ LV.length * root.length := Nat.mul_le_mul_left _ h3
    omega
   ·exact hl
 refine ⟨h4, by omega, ?_, ?_⟩
 ·have hsub : ∀ b ∈ ((List.range m).map fun i => -(((0 + i : Nat) : Int) + 1)), b ∈ LV.flatMap names := fun b hb => by
   have hb' := anew_range.1 hb
   rw [Nat.zero_add] at hb'
   obtain ⟨i, hi⟩ := h.nm.all b hb'
   by_cases hl : i < LV.length
   ·refine List.mem_flatMap.2 ⟨LV.getD i [], ?_, hi⟩
    rw [show LV.getD i [] = LV[i] by simp [List.getD, hl]]
    exact List.getElem_mem _
   ·rw [show LV.getD i [] = [] by simp [List.getD, Nat.le_of_not_lt hl]] at hi
    simp [names] at hi
  have := List.Nodup.length_le_of_subset (anew_nodup 0 m) hsub
  rw [List.length_map, List.length_range, List.length_flatMap] at this
  unfold total
  rw [show (fun X : List Node => (names X).length) = List.length from by funext X; simp [names]] at this
  exact this
 ·constructor
  ·intro e
   have e' : LV = [] := List.eq_nil_of_length_eq_zero e
   have hc := h.ch
   rw [e'] at hc
   have : root = row := hc
   rw [← this]
   exact h.rl
  ·intro hr4
   rcases Nat.eq_zero_or_pos LV.length with h0 | h0
   ·exact h0
   ·have h3 := List.length_pos_iff.2 (h.root_ne (List.length_pos_iff.1 h0))
    obtain ⟨k, hk⟩ : ∃ k, LV.length = k + 1 := ⟨LV.length - 1, by omega⟩
    rw [hk, Nat.pow_succ] at h2
    have : 0 < 5 ^ k := Nat.pow_pos (by decide)
    have : 1 * 5 ≤ 5 ^ k * 5 := Nat.mul_le_mul_right _ this
    have : (5 ^ k * 5) * 1 ≤ 5 ^ k * 5 * root.length := Nat.mul_le_mul_left _ h3
    omega
end Go.Proofs.YtgjmeeiejcbjfaaGreat.Forks
