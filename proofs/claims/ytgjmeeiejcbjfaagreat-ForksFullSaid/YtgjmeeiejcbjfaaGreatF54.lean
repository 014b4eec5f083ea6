/- Trees: a shape that is set stands. No program. -/
import Derived.Test.YtgjmeeiejcbjfaaGreatF53
import Derived.Test.YtgjmeeiejcbjfaaGreatF50
import Derived.Test.YtgjmeeiejcbjfaaGreatF40
import Derived.Test.YtgjmeeiejcbjfaaGreatF41
import Derived.Test.YtgjmeeiejcbjfaaGreatF31
import Derived.Deep.RegionLaw
import Derived.Test.YtgjmeeiejcbjfaaGreatF45
set_option linter.unusedSimpArgs false
set_option linter.unusedVariables false
namespace Go.Proofs.YtgjmeeiejcbjfaaGreat.Forks
open Go.Lib (hid)
open Go Go.RowKit
def Rise (l : EL) : Prop := l.Pairwise fun x y => x.1 < y.1
theorem rise_row : ∀ {l : EL}, Exts.Row l → Rise l
 | [], _ => List.Pairwise.nil
 | x :: l, h => by
  refine List.pairwise_cons.2 ⟨fun y hy => ?_, rise_row h.2.2⟩
  have h1 := h.2.1 y hy
  have h2 := h.1
  unfold Exts.may at h2
  have : Exts.fin x = x.1 + x.2.2 := rfl
  omega
theorem first_mem {l : EL} (h : 1 ≤ l.length) : l.getD 0 (0, 0, 0) ∈ l := by
 rw [show l.getD 0 (0, 0, 0) = l[0] by simp [List.getD, show 0 < l.length by omega]]
 exact List.getElem_mem _
theorem rise_leads : ∀ {L : List Node}, Rise (ents L) → Fed L → Rise (leads L)
 | [], _, _ => List.Pairwise.nil
 | n :: L, h, hf => by
  obtain ⟨h1, h2, h3⟩ := List.pairwise_append.1 (show Rise (n.2 ++ ents L) from h)
  refine List.pairwise_cons.2 ⟨fun y hy => ?_, rise_leads h2 (fun m hm => hf m (by simp [hm]))⟩
  obtain ⟨m, hm, rfl⟩ := List.mem_map.1 hy
  exact h3 (n.2.getD 0 (0, 0, 0)) (first_mem (hf n (by simp)).1) (m.2.getD 0 (0, 0, 0)) (mem_ents.2 ⟨m, hm, first_mem (hf m (by simp [hm])).1⟩)
theorem rise_node : ∀ {L : List Node}, Rise (ents L) → ∀ n ∈ L, Rise n.2
 | [], _, n, hn => by cases hn
 | m :: L, h, n, hn => by
  obtain ⟨h1, h2, -⟩ := List.pairwise_append.1 (show Rise (m.2 ++ ents L) from h)
  rcases List.mem_cons.1 hn with rfl | hn
  ·exact h1
  ·exact rise_node h2 n hn
theorem row_node : ∀ {L : List Node}, Exts.Row (ents L) → ∀ n ∈ L, Exts.Row n.2
 | [], _, n, hn => by cases hn
 | m :: L, h, n, hn => by
  obtain ⟨h1, h2, -⟩ := Exts.row_append_iff.1 (show Exts.Row (m.2 ++ ents L) from h)
  rcases List.mem_cons.1 hn with rfl | hn
  ·exact h1
  ·exact row_node h2 n hn
theorem chain_rise : ∀ (LV : List (List Node)) (row root : EL), Rise row → Chain row LV root → (∀ L ∈ LV, Fed L) → (∀ h, Rise (ents (LV.getD h []))) ∧ Rise root
 | [], row, root, hr, h, _ => ⟨fun h => List.Pairwise.nil, by rw [show root = row from h]; exact hr⟩
 | L :: LV, row, root, hr, h, hf => by
  obtain ⟨h1, h2⟩ := h
  have hL : Rise (ents L) := by rw [h1]; exact hr
  obtain ⟨a, b⟩ := chain_rise LV (leads L) root (rise_leads hL (hf L (by simp))) h2 (fun X hX => hf X (by simp [hX]))
  refine ⟨fun h => ?_, b⟩
  cases h with
  | zero => exact hL
  | succ h => exact a h
theorem rise_okTo {l : EL} (hr : Rise l) (hm : ∀ x ∈ l, Ents.mayN x) : ∀ i, i ≤ l.length → Ents.okTo false l i = true
 | 0, _ => rfl
 | i + 1, hi => by
  have hi' : i < l.length := by omega
  have e : l.getD i (0, 0, 0) = l[i] := by simp [List.getD, hi']
  have h1 := hm _ (List.getElem_mem hi')
  unfold Ents.okTo
  rw [rise_okTo hr hm i (by omega), e]
  simp only [Bool.true_and, Bool.and_eq_true, Bool.or_eq_true]
  refine ⟨by simp [Ents.may, h1], ?_⟩
  by_cases h0 : i = 0
  ·left; simp [h0]
  ·right
   rw [show l.getD (i - 1) (0, 0, 0) = l[i - 1]'(by omega) by simp [List.getD, show i - 1 < l.length by omega]]
   have h2 := (List.pairwise_iff_getElem.1 hr) (i - 1) i (by omega) hi' (by omega)
   have h3 := hm _ (List.getElem_mem (show i - 1 < l.length by omega))
   unfold Ents.mayN at h3
   unfold Ents.step
   simp only [Bool.and_eq_true, decide_eq_true_eq]
   omega
theorem knownT_false (T : IL) (l : EL) : knownT T false l = l.map fun x => (x.1, blockT T x.2.1, x.2.2) := rfl
theorem rise_known {T : IL} {l : EL} (h : Rise l) : Rise (knownT T false l) := List.Pairwise.map _ (fun a b hab => hab) h
section
variable {row root : EL} {LV : List (List Node)} {m : Nat} {T : IL}
theorem lead_may (hr : Exts.Row row) (hm : m ≤ 1000000) (hT : ToldOk m T) {x : E} (h : ∃ y ∈ row, x.1 = y.1) (hn : Named m x.2.1 ∧ x.2.2 = 0) : Ents.mayN (x.1, blockT T x.2.1, x.2.2) := by
 obtain ⟨y, hy, e⟩ := h
 have h1 := row_small hr y hy
 have h2 := hT.ask hm hn.1
 unfold Ents.mayN
 dsimp only
 omega
theorem enc_shape (hr : Exts.Row row) (hc : Chain row LV root) (hf : ∀ L ∈ LV, Fed L) (hn : ∀ L ∈ LV, NamedL m L) (hm : m ≤ 1000000) (hT : ToldOk m T) :
  (∀ h, ∀ n ∈ LV.getD h [], Ents.EncOk (knownT T (h == 0) n.2) (h == 0)) ∧ Ents.Row (LV.length == 0) (knownT T (LV.length == 0) root) := by
 obtain ⟨l1, l2⟩ := hc.logical hf
 obtain ⟨r1, r2⟩ := chain_rise LV row root (rise_row hr) hc hf
 have hget : ∀ h, h < LV.length → LV.getD h [] ∈ LV := fun h hh => by rw [show LV.getD h [] = LV[h] by simp [List.getD, hh]]; exact List.getElem_mem hh
 have hnone : ∀ h, ¬ h < LV.length → LV.getD h [] = [] := fun h hh => by simp [List.getD, Nat.le_of_not_lt hh]
 constructor
 ·intro h n hn'
  by_cases hh : h < LV.length
  ·have hF := hf _ (hget h hh) n hn'
   cases h with
   | zero => exact ⟨hF.1, hF.2, Ents.row_leaf.2 (row_node (by rw [hc.first hh]; exact hr) n hn')⟩
   | succ k =>
    rw [show (k + 1 == 0) = false from rfl, knownT_false]
    refine ⟨by rw [List.length_map]; exact hF.1, by rw [List.length_map]; exact hF.2, ?_⟩
    unfold Ents.Row
    refine rise_okTo (rise_known (rise_node (r1 (k + 1)) n hn')) (fun x hx => ?_) _ (Nat.le_refl _)
    obtain ⟨y, hy, rfl⟩ := List.mem_map.1 hx
    refine lead_may hr hm hT (l1 _ (hget _ hh) n hn' y hy) ?_
    have : y ∈ leads (LV.getD k []) := by rw [← hc.next k hh]; exact mem_ents.2 ⟨n, hn', hy⟩
    exact leads_ok (hn _ (hget k (by omega))) y this
  ·rw [hnone h hh] at hn'; cases hn'
 ·cases hl : LV.length with
  | zero =>
   have e : LV = [] := List.eq_nil_of_length_eq_zero hl
   subst e
   rw [show root = row from hc]
   exact Ents.row_leaf.2 hr
  | succ k =>
   rw [show (k + 1 == 0) = false from rfl, knownT_false]
   unfold Ents.Row
   refine rise_okTo (rise_known r2) (fun x hx => ?_) _ (Nat.le_refl _)
   obtain ⟨y, hy, rfl⟩ := List.mem_map.1 hx
   refine lead_may hr hm hT (l2 y hy) ?_
   rw [hc.root k hl] at hy
   exact leads_ok (hn _ (hget k (by omega))) y hy
end
def keyT (T : IL) (n : Node) : Nat := (blockT T n.1).toNat
theorem putL_get (T : IL) (leaf : Bool) : ∀ (L : List Node) (TX : List ByteArray), (∀ n ∈ L, Ents.EncOk (knownT T leaf n.2) leaf) → (∀ n ∈ L, keyT T n < TX.length) → (L.map (keyT T)).Nodup →
  ∃ TX', putL T leaf L TX = .ok TX' ∧ TX'.length = TX.length ∧ (∀ n ∈ L, TX'[keyT T n]? = some (nodeTxt T leaf n)) ∧ ∀ b, (∀ n ∈ L, keyT T n ≠ b) → TX'[b]? = TX[b]?
 | [], TX, _, _, _ => ⟨TX, rfl, rfl, (fun n h => by cases h), fun b _ => rfl⟩
 | n :: L, TX, h1, h2, h3 => by
  rw [List.map_cons] at h3
  obtain ⟨h4, h5⟩ := List.nodup_cons.1 h3
  obtain ⟨TX', e1, e2, e3, e4⟩ := putL_get T leaf L (TX.set (keyT T n) (nodeTxt T leaf n)) (fun m hm => h1 m (by simp [hm])) (fun m hm => by rw [List.length_set]; exact h2 m (by simp [hm])) h5
  refine ⟨TX', by rw [putL, if_pos (h1 n (by simp))]; exact e1, by rw [e2, List.length_set], fun m hm => ?_, fun b hb => ?_⟩
  ·rcases List.mem_cons.1 hm with rfl | hm
   ·rw [e4 _ (fun k hk e => h4 (List.mem_map.2 ⟨k, hk, e⟩)), List.getElem?_set, if_pos rfl, if_pos (h2 m (by simp))]
   ·exact e3 m hm
  ·rw [e4 b (fun m hm => hb m (by simp [hm])), List.getElem?_set, if_neg (hb n (by simp))]
theorem putLs_get (T : IL) : ∀ (LV : List (List Node)) (h : Nat) (TX : List ByteArray), (∀ i, ∀ n ∈ LV.getD i [], Ents.EncOk (knownT T (h + i == 0) n.2) (h + i == 0)) → (∀ i, ∀ n ∈ LV.getD i [], keyT T n < TX.length) → (∀ i, ((LV.getD i []).map (keyT T)).Nodup) →
  (∀ i j, i < j → ∀ n ∈ LV.getD i [], ∀ k ∈ LV.getD j [], keyT T n ≠ keyT T k) →
  ∃ TX', putLs T h LV TX = .ok TX' ∧ TX'.length = TX.length ∧ (∀ i, ∀ n ∈ LV.getD i [], TX'[keyT T n]? = some (nodeTxt T (h + i == 0) n)) ∧ ∀ b, (∀ i, ∀ n ∈ LV.getD i [], keyT T n ≠ b) → TX'[b]? = TX[b]?
 | [], h, TX, _, _, _, _ => ⟨TX, rfl, rfl, (fun i n hn => by cases hn), fun b _ => rfl⟩
 | L :: LV, h, TX, h1, h2, h3, h4 => by
  obtain ⟨TX1, e1, e2, e3, e4⟩ := putL_get T (h == 0) L TX (fun n hn => h1 0 n hn) (fun n hn => h2 0 n hn) (h3 0)
  obtain ⟨TX2, g1, g2, g3, g4⟩ := putLs_get T LV (h + 1) TX1 (fun i n hn => by have := h1 (i + 1) n hn; rwa [show h + (i + 1) = h + 1 + i by omega] at this) (fun i n hn => by rw [e2]; exact h2 (i + 1) n hn) (fun i => h3 (i + 1)) (fun i j hij => h4 (i + 1) (j + 1) (by omega))
  refine ⟨TX2, by rw [putLs, e1]; exact g1, by rw [g2, e2], fun i n hn => ?_, fun b hb => ?_⟩
  ·cases i with
   | zero =>
    rw [g4 _ (fun j k hk e => h4 0 (j + 1) (by omega) n hn k hk e.symm)]
    exact e3 n hn
   | succ i =>
    have := g3 i n hn
    rwa [show h + 1 + i = h + (i + 1) by omega] at this
  ·rw [g4 b (fun i n hn => hb (i + 1) n hn), e4 b (fun n hn => hb 0 n hn)]
theorem isEmpty_size (s : ByteArray) : s.toList.isEmpty = (s.size == 0) := by
 rw [ByteArray.toList_eq]
 obtain ⟨⟨l⟩⟩ := s
 cases l <;> rfl
theorem toList_beq (a b : ByteArray) : (a.toList == b.toList) = true ↔ a = b := by
 rw [beq_iff_eq, ByteArray.toList_eq, ByteArray.toList_eq]
 constructor
 ·intro h
  rw [← txt_of a, ← txt_of b, h]
 ·rintro rfl
  rfl
theorem nodeTxt_size {T : IL} {leaf : Bool} {n : Node} (h : Ents.EncOk (knownT T leaf n.2) leaf) : (nodeTxt T leaf n).size = 128 := by
 unfold nodeTxt
 rw [txt_size, Ents.nodeB_length _ _ h.2.1]
theorem putC_append (A B : CL) (L : List ByteArray) : putC (A ++ B) L = putC B (putC A L) := by unfold putC; rw [List.foldl_append]
theorem putC_chT (v : V) (TX : List ByteArray) {L : List ByteArray} (hL : L.length = 4096) : ∀ n, n ≤ 4096 → ∀ b, (putC (chT v TX n) L)[b]? = if b < n ∧ chB v TX b = true then some (tx TX b) else L[b]?
 | 0, _, b => by rw [if_neg (by omega)]; rfl
 | n + 1, hn, b => by
  have ih := putC_chT v TX hL n (by omega) b
  have hlen : (putC (chT v TX n) L).length = 4096 := by rw [putC_len, hL]
  rw [chT_succ, putC_append]
  cases hc : chB v TX n
  ·rw [if_neg (by decide)]
   show (putC (chT v TX n) L)[b]? = _
   rw [ih]
   by_cases hb : b = n
   ·subst hb; rw [hc, if_neg (by omega), if_neg (by simp)]
   ·by_cases h : b < n ∧ chB v TX b = true
    ·rw [if_pos h, if_pos ⟨by omega, h.2⟩]
    ·rw [if_neg h, if_neg (fun h' => h ⟨by omega, h'.2⟩)]
  ·rw [if_pos rfl]
   generalize putC (chT v TX n) L = X at *
   have e : ∀ x : Int × ByteArray, putC [x] X = putD x X := fun x => rfl
   rw [e, putD_at hlen (by dsimp only; omega) (by dsimp only; omega)]
   dsimp only
   by_cases hb : b = n
   ·subst hb; rw [if_pos rfl, hc, if_pos ⟨by omega, rfl⟩]
   ·rw [if_neg (by omega), ih]
    by_cases h : b < n ∧ chB v TX b = true
    ·rw [if_pos h, if_pos ⟨by omega, h.2⟩]
    ·rw [if_neg h, if_neg (fun h' => h ⟨by omega, h'.2⟩)]
theorem knownT_append (T : IL) (leaf : Bool) (a b : EL) : knownT T leaf (a ++ b) = knownT T leaf a ++ knownT T leaf b := by
 cases leaf
 ·rw [knownT_false, knownT_false, knownT_false, List.map_append]
 ·rfl
theorem knownT_nil (T : IL) (leaf : Bool) : knownT T leaf [] = [] := by cases leaf <;> rfl
theorem knownT_first (T : IL) (leaf : Bool) (l : EL) : ((knownT T leaf l).getD 0 (0, 0, 0)).1 = (l.getD 0 (0, 0, 0)).1 := by cases leaf <;> cases l <;> rfl
theorem knownT_len (T : IL) (leaf : Bool) (l : EL) : (knownT T leaf l).length = l.length := by
 cases leaf
 ·rw [knownT_false, List.length_map]
 ·rfl
def levelK (T : IL) (leaf : Bool) (L : List Node) : List Node := L.map fun n => (blockT T n.1, knownT T leaf n.2)
theorem ents_levelK (T : IL) (leaf : Bool) (L : List Node) : ents (levelK T leaf L) = knownT T leaf (ents L) := ents_map (knownT T leaf) (knownT_append T leaf) (knownT_nil T leaf) (blockT T) L
theorem leads_levelK (T : IL) (leaf : Bool) (L : List Node) : leads (levelK T leaf L) = knownT T false (leads L) := by
 rw [knownT_false]
 unfold leads levelK
 rw [List.map_map, List.map_map]
 refine List.map_congr_left (fun n _ => ?_)
 show ((((knownT T leaf n.2).getD 0 (0, 0, 0)).1, blockT T n.1, 0) : E) = ((n.2.getD 0 (0, 0, 0)).1, blockT T n.1, 0)
 rw [knownT_first]
structure SetHyp (L : List ByteArray) (v : V) (row : EL) (LV : List (List Node)) (root : EL) (m : Nat) (T : IL) : Prop where
 len : L.length = 4096
 good : Good v
 seen : ∀ x ∈ v, L[x.b]? = some x.s
 rowOk : Exts.Row row
 ch : Chain row LV root
 fed : ∀ X ∈ LV, Fed X
 named : ∀ X ∈ LV, NamedL m X
 few : m ≤ 1000000
 told : ToldOk m T
 many : LV.length ≤ 4
 rl : root.length ≤ 4
 ne : LV ≠ [] → root ≠ []
 nd : ∀ h, ((LV.getD h []).map (keyT T)).Nodup
 apart : ∀ i j, i < j → ∀ n ∈ LV.getD i [], ∀ k ∈ LV.getD j [], keyT T n ≠ keyT T k
 free : ∀ h, ∀ n ∈ LV.getD h [], taken row (blockT T n.1) = false
structure SetStands (L : List ByteArray) (v : V) (row : EL) (LV : List (List Node)) (root : EL) (T : IL) (s : SetR) (v' : V) : Prop where
 set : setT v LV root T = .ok s
 depth : s.depth = LV.length
 root : s.root = knownT T (LV.length == 0) root
 walk : walkT ⟨putC s.changes L, -1⟩ (LV.length : Nat) s.root = .ok (v', row)
 met : MetAs LV.length (fun j => levelK T (j - 1 == 0) (LV.getD (j - 1) [])) v'
 nds : ∀ b : Nat, has v' b = true ↔ ∃ h, ∃ n ∈ LV.getD h [], keyT T n = b
 freed : s.freed = natI ((nodes v).filter fun b => !has v' b)
 chg : ∀ x ∈ s.changes, ∃ h, ∃ n ∈ LV.getD h [], x.1 = (keyT T n : Int) ∧ (has v (keyT T n) = true → ∀ y ∈ v, y.b = keyT T n → (y.l, y.h == 1) ≠ (knownT T (h == 0) n.2, h == 0))
 blk : ∀ x ∈ s.changes, 0 ≤ x.1 ∧ x.1 < 4096
 size : ∀ x ∈ s.changes, x.2.size = 128
 nd : (s.changes.map fun x => x.1).Nodup
set_option maxRecDepth 100000 in
set_option maxHeartbeats 1000000 in
theorem set_stands {L : List ByteArray} {v : V} {row : EL} {LV : List (List Node)} {root : EL} {m : Nat} {T : IL} (H : SetHyp L v row LV root m T) : ∃ s v', SetStands L v row LV root T s v' := by
 obtain ⟨henc, hroot⟩ := enc_shape H.rowOk H.ch H.fed H.named H.few H.told
 have hget : ∀ h, h < LV.length → LV.getD h [] ∈ LV := fun h hh => by rw [show LV.getD h [] = LV[h] by simp [List.getD, hh]]; exact List.getElem_mem hh
 have hnone : ∀ h, ¬ h < LV.length → LV.getD h [] = [] := fun h hh => by simp [List.getD, Nat.le_of_not_lt hh]
 have hlt : ∀ h, ∀ n ∈ LV.getD h [], h < LV.length := fun h n hn => by
  by_cases hh : h < LV.length
  ·exact hh
  ·rw [hnone h hh] at hn; cases hn
 have hblk : ∀ h, ∀ n ∈ LV.getD h [], 1 ≤ blockT T n.1 ∧ blockT T n.1 < 4096 := fun h n hn => by
  have := H.told.ask H.few (H.named _ (hget h (hlt h n hn)) n hn)
  exact ⟨this.2.1, this.2.2⟩
 have hkey : ∀ h, ∀ n ∈ LV.getD h [], ((keyT T n : Nat) : Int) = blockT T n.1 := fun h n hn => by
  have := hblk h n hn
  unfold keyT
  omega
 obtain ⟨TX, e1, e2, e3, e4⟩ := putLs_get T LV 0 noTexts (fun i n hn => by rw [Nat.zero_add]; exact henc i n hn) (fun i n hn => by
  have := hblk i n hn
  have := hkey i n hn
  rw [noTexts_len]; omega) H.nd H.apart
 have htx : ∀ h, ∀ n ∈ LV.getD h [], tx TX (keyT T n) = nodeTxt T (h == 0) n := fun h n hn => by
  have := e3 h n hn
  rw [Nat.zero_add] at this
  unfold tx
  rw [List.getD_eq_getElem?_getD, this]
  rfl
 have htx0 : ∀ b, (∀ h, ∀ n ∈ LV.getD h [], keyT T n ≠ b) → (tx TX b).size = 0 := fun b hb => by
  have := e4 b hb
  unfold tx
  rw [List.getD_eq_getElem?_getD, this]
  unfold noTexts
  rw [List.getElem?_replicate]
  split <;> rfl
 have hold : ∀ b, has v b = true → L[b]? = some (textOf v b) := fun b hb => by
  obtain ⟨x, hx, e⟩ := List.any_eq_true.1 hb
  rw [beq_iff_eq] at e
  subst e
  rw [textOf_at H.good hx]
  exact H.seen x hx
 have hrd : ∀ h, ∀ n ∈ LV.getD h [], (putC (chT v TX 4096) L)[keyT T n]? = some (nodeTxt T (h == 0) n) := fun h n hn => by
  have hk := hkey h n hn
  have hb := hblk h n hn
  rw [putC_chT v TX H.len 4096 (Nat.le_refl _)]
  have hsz := nodeTxt_size (henc h n hn)
  by_cases hc : chB v TX (keyT T n) = true
  ·rw [if_pos ⟨by omega, hc⟩, htx h n hn]
  ·rw [if_neg (fun h' => hc h'.2)]
   unfold chB at hc
   rw [htx h n hn, isEmpty_size, hsz] at hc
   have hc' : ((nodeTxt T (h == 0) n).toList == (textOf v (keyT T n)).toList) = true := by
    cases hq : ((nodeTxt T (h == 0) n).toList == (textOf v (keyT T n)).toList)
    ·rw [hq] at hc; exact absurd rfl hc
    ·rfl
   rw [toList_beq] at hc'
   have hh : has v (keyT T n) = true := by
    cases hq : has v (keyT T n)
    ·have := textOf_has H.good (keyT T n)
     rw [hq] at this
     have h0 : (textOf v (keyT T n)).size = 0 := this.mpr rfl
     rw [← hc', hsz] at h0
     omega
    ·rfl
   rw [hold _ hh, hc']
 have hmet : Fam ⟨putC (chT v TX 4096) L, -1⟩ LV.length (fun j => levelK T (j - 1 == 0) (LV.getD (j - 1) [])) [] := by
  refine ⟨fun j h1 h2 x hx => ?_, fun j h1 h2 x hx => rfl, fun j h1 h2 => ?_, fun i j h1 h2 h3 x hx y hy => ?_⟩
  ·obtain ⟨n, hn, rfl⟩ := List.mem_map.1 hx
   have hk := hkey _ n hn
   have hb := hblk _ n hn
   have hj : (j == 1) = (j - 1 == 0) := by
    rw [Bool.eq_iff_iff]
    simp
    omega
   refine ⟨hb.1, by dsimp only; omega, by rw [hj]; exact henc _ n hn, ?_⟩
   dsimp only
   rw [rd_new, hj]
   exact hrd _ n hn
  ·show ((levelK T (j - 1 == 0) (LV.getD (j - 1) [])).map fun n => n.1).Nodup
   unfold levelK
   rw [List.map_map]
   have h3 := H.nd (j - 1)
   have e : ((LV.getD (j - 1) []).map ((fun n : Node => n.1) ∘ fun n : Node => (blockT T n.1, knownT T (j - 1 == 0) n.2))) = ((LV.getD (j - 1) []).map (keyT T)).map fun (k : Nat) => (k : Int) := by
    rw [List.map_map]
    exact List.map_congr_left (fun n hn => (hkey _ n hn).symm)
   rw [e]
   exact List.Pairwise.map _ (fun a b hab e => hab (by omega)) h3
  ·obtain ⟨n, hn, rfl⟩ := List.mem_map.1 hx
   obtain ⟨k, hk, rfl⟩ := List.mem_map.1 hy
   intro e
   have e' : blockT T n.1 = blockT T k.1 := e
   have h4 := hkey _ n hn
   have h5 := hkey _ k hk
   exact H.apart (i - 1) (j - 1) (by omega) n hn k hk (by omega)
 have hrl : (knownT T (LV.length == 0) root).length = root.length := knownT_len _ _ _
 have hok : RootOk (LV.length : Nat) (knownT T (LV.length == 0) root) := by
  refine ⟨by omega, by have := H.many; omega, by rw [hrl]; exact H.rl, fun h => ?_, ?_⟩
  ·rw [hrl]
   intro e
   exact H.ne (fun e' => by rw [e'] at h; simp at h) (List.eq_nil_of_length_eq_zero e)
  ·rw [show (((LV.length : Nat) : Int) == 0) = (LV.length == 0) by rw [Bool.eq_iff_iff]; simp]
   exact hroot
 obtain ⟨v', hm', hw⟩ := walk_stands (d := ⟨putC (chT v TX 4096) L, -1⟩) (n := LV.length) (root := knownT T (LV.length == 0) root) (row := row) (f := fun j => levelK T (j - 1 == 0) (LV.getD (j - 1) []))
  (fun h => by
   have e : LV = [] := List.eq_nil_of_length_eq_zero h
   have hc := H.ch
   rw [e] at hc ⊢
   exact hc)
  (fun h => by
   obtain ⟨k, hk⟩ : ∃ k, LV.length = k + 1 := ⟨LV.length - 1, by omega⟩
   refine ⟨?_, ?_⟩
   ·rw [ents_levelK]
    exact H.ch.first (by omega)
   ·rw [leads_levelK, hk, show (k + 1 == 0) = false from rfl, H.ch.root k hk, Nat.add_sub_cancel])
  (fun j h1 h2 => by
   obtain ⟨k, rfl⟩ : ∃ k, j = k + 1 := ⟨j - 1, by omega⟩
   rw [leads_levelK, ents_levelK, Nat.add_sub_cancel, Nat.add_sub_cancel, show (k + 1 == 0) = false from rfl, H.ch.next k h2])
  hok hmet
 have hnodes : ∀ b : Nat, has v' b = true ↔ ∃ h, ∃ n ∈ LV.getD h [], keyT T n = b := fun b => by
  rw [hm'.has_iff]
  constructor
  ·rintro ⟨j, h1, h2, x, hx, e⟩
   obtain ⟨n, hn, rfl⟩ := List.mem_map.1 hx
   have := hkey _ n hn
   exact ⟨j - 1, n, hn, by dsimp only at e; omega⟩
  ·rintro ⟨h, n, hn, e⟩
   have := hkey _ n hn
   refine ⟨h + 1, by omega, hlt h n hn, (blockT T n.1, knownT T (h == 0) n.2), ?_, by dsimp only; omega⟩
   exact List.mem_map.2 ⟨n, hn, rfl⟩
 have hmeets : meets v' row = false := meets_mk (fun b hb => by
  obtain ⟨h, n, hn, rfl⟩ := (hnodes b).1 hb
  rw [hkey h n hn]
  exact H.free h n hn)
 rw [if_pos ⟨Ents.row_leaf.2 H.rowOk, hmeets⟩] at hw
 refine ⟨⟨(LV.length : Nat), knownT T (LV.length == 0) root, chT v TX 4096, frT v TX 4096⟩, v', ⟨?_, rfl, rfl, hw, hm', hnodes, ?_, ?_, ?_, ?_, ?_⟩⟩
 ·unfold setT
  rw [e1]
 ·show frT v TX 4096 = natI ((nodes v).filter fun b => !has v' b)
  unfold frT natI nodes
  rw [List.filter_filter]
  refine congrArg _ (List.filter_congr (fun b hb => ?_))
  unfold frB
  rw [isEmpty_size, isEmpty_size, Bool.eq_iff_iff]
  have h1 := textOf_has H.good b
  simp only [Bool.and_eq_true, beq_iff_eq, Bool.not_eq_true', beq_eq_false_iff_ne]
  constructor
  ·rintro ⟨h2, h3⟩
   refine ⟨?_, ?_⟩
   ·rw [← Bool.not_eq_true]
    intro h4
    obtain ⟨h, n, hn, rfl⟩ := (hnodes b).1 h4
    rw [htx h n hn, nodeTxt_size (henc h n hn)] at h2
    omega
   ·rw [← Bool.not_eq_false]
    intro h4
    exact h3 (h1.mpr h4)
  ·rintro ⟨h2, h3⟩
   refine ⟨htx0 b (fun h n hn e => ?_), fun h4 => ?_⟩
   ·have := (hnodes b).2 ⟨h, n, hn, e⟩
    rw [this] at h2
    cases h2
   ·rw [h1.mp h4] at h3
    cases h3
 ·intro x hx
  obtain ⟨b, hb, rfl⟩ := List.mem_map.1 hx
  obtain ⟨hb1, hb2⟩ := List.mem_filter.1 hb
  unfold chB at hb2
  rw [isEmpty_size] at hb2
  simp only [Bool.and_eq_true, Bool.not_eq_true', beq_eq_false_iff_ne] at hb2
  have hex : ∃ h, ∃ n ∈ LV.getD h [], keyT T n = b := by
   by_cases hq : ∃ h, ∃ n ∈ LV.getD h [], keyT T n = b
   ·exact hq
   ·exact absurd (htx0 b (fun h n hn e => hq ⟨h, n, hn, e⟩)) hb2.1
  obtain ⟨h, n, hn, rfl⟩ := hex
  refine ⟨h, n, hn, rfl, fun hh y hy he e => ?_⟩
  have h1 := (Ents.dec_some (H.good.ok y hy)).2
  have h2 : textOf v (keyT T n) = y.s := by rw [← he]; exact textOf_at H.good hy
  injection e with e3 e4
  have h3 : nodeTxt T (h == 0) n = y.s := by
   unfold nodeTxt
   rw [← e3, ← e4, ← h1, txt_of]
  have h4 := hb2.2
  rw [htx h n hn, h3, h2] at h4
  exact absurd rfl h4
 ·intro x hx
  obtain ⟨b, hb, rfl⟩ := List.mem_map.1 hx
  have := List.mem_range.1 (List.mem_filter.1 hb).1
  dsimp only
  omega
 ·intro x hx
  obtain ⟨b, hb, rfl⟩ := List.mem_map.1 hx
  obtain ⟨hb1, hb2⟩ := List.mem_filter.1 hb
  unfold chB at hb2
  rw [isEmpty_size] at hb2
  simp only [Bool.and_eq_true, Bool.not_eq_true', beq_eq_false_iff_ne] at hb2
  have hex : ∃ h, ∃ n ∈ LV.getD h [], keyT T n = b := by
   by_cases hq : ∃ h, ∃ n ∈ LV.getD h [], keyT T n = b
   ·exact hq
   ·exact absurd (htx0 b (fun h n hn e => hq ⟨h, n, hn, e⟩)) hb2.1
  obtain ⟨h, n, hn, rfl⟩ := hex
  dsimp only
  rw [htx h n hn]
  exact nodeTxt_size (henc h n hn)
 ·show ((chT v TX 4096).map fun x => x.1).Nodup
  unfold chT
  rw [List.map_map]
  exact List.Pairwise.map _ (fun a b hab e => hab (by
   have e' : (a : Int) = (b : Int) := e
   omega)) (List.nodup_range.sublist List.filter_sublist)
end Go.Proofs.YtgjmeeiejcbjfaaGreat.Forks
namespace Go.Proofs.YtgjmeeiejcbjfaaGreat.Forks
open Go.Lib (hid)
open Go Go.RowKit
def nextW (us : List Bool) : Option Int × List Bool := match nextB us with
 | none => (none, us)
 | some b => (some (b : Int), us.set b true)
def usedN (us : List Bool) : Nat := (((List.range 4096).drop 2048).filter fun b => us.getD b true).length
theorem mem_high {b : Nat} : b ∈ (List.range 4096).drop 2048 ↔ 2048 ≤ b ∧ b < 4096 := by
 rw [List.mem_iff_getElem]
 constructor
 ·rintro ⟨i, hi, rfl⟩
  rw [List.getElem_drop, List.getElem_range]
  rw [List.length_drop, List.length_range] at hi
  omega
 ·rintro ⟨h1, h2⟩
  refine ⟨b - 2048, by rw [List.length_drop, List.length_range]; omega, ?_⟩
  rw [List.getElem_drop, List.getElem_range]
  omega
theorem nextB_some {us : List Bool} {b : Nat} (h : nextB us = some b) : 2048 ≤ b ∧ b < 4096 ∧ us.getD b true = false := by
 unfold nextB at h
 have h1 := mem_high.1 (List.mem_of_find?_eq_some h)
 have h2 := List.find?_some h
 exact ⟨h1.1, h1.2, by simpa using h2⟩
theorem nextB_none {us : List Bool} (h : nextB us = none) : usedN us = 2048 := by
 unfold nextB at h
 have h1 := List.find?_eq_none.1 h
 unfold usedN
 rw [List.filter_eq_self.2 (fun b hb => by simpa using h1 b hb), List.length_drop, List.length_range]
theorem filter_or {α : Type} (p q : α → Bool) : ∀ l : List α, (l.filter fun x => p x || q x).length ≤ (l.filter p).length + (l.filter q).length
 | [] => by simp
 | x :: l => by
  have := filter_or p q l
  rw [List.filter_cons, List.filter_cons, List.filter_cons]
  cases p x <;> cases q x <;> simp <;> omega
theorem getD_set (us : List Bool) (b c : Nat) (x : Bool) (hb : b < us.length) : (us.set b x).getD c true = if c = b then x else us.getD c true := by
 rw [List.getD_eq_getElem?_getD, List.getD_eq_getElem?_getD, List.getElem?_set]
 by_cases h : b = c
 ·subst h; rw [if_pos rfl, if_pos hb, if_pos rfl]; rfl
 ·rw [if_neg h, if_neg (fun e => h e.symm)]
theorem used_set {us : List Bool} {b : Nat} (hb : b < us.length) : usedN (us.set b true) ≤ usedN us + 1 := by
 unfold usedN
 have e : (((List.range 4096).drop 2048).filter fun c => (us.set b true).getD c true) = ((List.range 4096).drop 2048).filter fun c => us.getD c true || c == b := by
  refine List.filter_congr (fun c _ => ?_)
  rw [getD_set us b c true hb]
  by_cases h : c = b
  ·subst h; simp
  ·rw [if_neg h]; simp [h]
 rw [e]
 refine Nat.le_trans (filter_or _ _ _) ?_
 have hn : ((List.range 4096).drop 2048).Nodup := List.nodup_range.sublist (List.drop_sublist _ _)
 have h1 : (((List.range 4096).drop 2048).filter fun c => c == b).length ≤ 1 := by
  have := List.nodup_iff_count.1 hn b
  rwa [List.count_eq_length_filter] at this
 omega
set_option maxRecDepth 100000 in
theorem ask_world (v : V) (R : EL) (hR : ∀ b : Int, 2048 ≤ b → taken R b = false) : ∀ (k : Nat) (T : IL) (us : List Bool), us.length = 4096 → usedN us + k ≤ 2047 → (∀ b, 2048 ≤ b → b < 4096 → us.getD b true = false → has v b = false) → (∀ t ∈ T, t < 2048 ∨ us.getD t.toNat true = true) →
  ∃ D us', askT nextW v R k T us = ((0, T ++ D), us') ∧ us'.length = 4096 ∧ D.length = k ∧ (∀ b : Nat, us'.getD b true = (us.getD b true || D.contains (b : Int))) ∧ ∀ b ∈ D, 2048 ≤ b ∧ b < 4096 ∧ us.getD b.toNat true = false
 | 0, T, us, hl, _, _, _ => ⟨[], us, by simp [askT], hl, rfl, fun b => by simp, (fun b h => by cases h)⟩
 | k + 1, T, us, hl, hk, hv, hT => by
  cases hn : nextB us with
  | none => have := nextB_none hn; omega
  | some b =>
   obtain ⟨h1, h2, h3⟩ := nextB_some hn
   have hnx : nextW us = (some (b : Int), us.set b true) := by unfold nextW; rw [hn]
   have hbad : badB v R T (b : Int) = false := by
    unfold badB
    rw [hR _ (by omega), Int.toNat_natCast, hv b h1 h2 h3]
    simp only [Bool.or_false, Bool.or_eq_false_iff, decide_eq_false_iff_not]
    refine ⟨⟨by omega, by omega⟩, ?_⟩
    rw [Bool.eq_false_iff]
    intro hc
    rcases hT _ (List.contains_iff_mem.1 hc) with h | h
    ·omega
    ·rw [Int.toNat_natCast, h3] at h; cases h
   rw [askT_good nextW v R k T us b (by rw [hnx]) hbad, hnx]
   obtain ⟨D, us', e1, e2, e3, e4, e5⟩ := ask_world v R hR k (T ++ [(b : Int)]) (us.set b true) (by rw [List.length_set]; exact hl) (by have := used_set (us := us) (b := b) (by omega); omega) (fun c g1 g2 g3 => by
    rw [getD_set us b c true (by omega)] at g3
    split at g3
    ·cases g3
    ·exact hv c g1 g2 g3) (fun t ht => by
    rcases List.mem_append.1 ht with h | h
    ·rcases hT t h with h | h
     ·exact .inl h
     ·right
      rw [getD_set us b _ true (by omega)]
      split
      ·rfl
      ·exact h
    ·right
     rw [List.mem_singleton.1 h, Int.toNat_natCast, getD_set us b b true (by omega), if_pos rfl])
   refine ⟨(b : Int) :: D, us', by rw [e1, List.append_assoc]; rfl, e2, by rw [List.length_cons, e3], fun c => ?_, fun c hc => ?_⟩
   ·rw [e4 c, getD_set us b c true (by omega), List.contains_cons]
    by_cases h : c = b
    ·subst h; rw [if_pos rfl]; simp
    ·rw [if_neg h]
     have : ((c : Int) == (b : Int)) = false := by rw [beq_eq_false_iff_ne]; omega
     rw [this, Bool.false_or]
   ·rcases List.mem_cons.1 hc with rfl | hc
    ·exact ⟨by omega, by omega, by rw [Int.toNat_natCast]; exact h3⟩
    ·obtain ⟨g1, g2, g3⟩ := e5 c hc
     refine ⟨g1, g2, ?_⟩
     rw [getD_set us b _ true (by omega)] at g3
     split at g3
     ·cases g3
     ·exact g3
def freeT (F : IL) (us : List Bool) : List Bool := F.foldl (fun u b => u.set b.toNat false) us
theorem freeT_len : ∀ (F : IL) (us : List Bool), (freeT F us).length = us.length
 | [], us => rfl
 | b :: F, us => by
  show (freeT F (us.set b.toNat false)).length = _
  rw [freeT_len F, List.length_set]
theorem freeT_at : ∀ (F : IL) (us : List Bool), (∀ b ∈ F, 0 ≤ b ∧ b.toNat < us.length) → ∀ b : Nat, (freeT F us).getD b true = (us.getD b true && !F.contains (b : Int))
 | [], us, _, b => by simp [freeT]
 | x :: F, us, h, b => by
  have hx := h x (by simp)
  show (freeT F (us.set x.toNat false)).getD b true = _
  rw [freeT_at F _ (fun y hy => by rw [List.length_set]; exact h y (by simp [hy])), getD_set us _ b false hx.2, List.contains_cons]
  by_cases e : b = x.toNat
  ·rw [if_pos e, show ((b : Int) == x) = true by rw [beq_iff_eq]; omega]
   simp
  ·rw [if_neg e, show ((b : Int) == x) = false by rw [beq_eq_false_iff_ne]; omega, Bool.false_or]
structure WorldOk (us : List Bool) (L : List ByteArray) (d : Nat) (root : EL) (v : V) (R : EL) : Prop where
 walk : walkT ⟨L, -1⟩ d root = .ok (v, R)
 len : L.length = 4096
 ulen : us.length = 4096
 used : ∀ b, b < 4096 → us.getD b true = has v b
 lo : ∀ b : Int, 2048 ≤ b → taken R b = false
 hi : ∀ b, has v b = true → 2048 ≤ b
 half : ∀ X ∈ lvls v d, Half X
theorem chain_full : ∀ (LV : List (List Node)) (row root : EL), Chain row LV root → (∀ X ∈ LV, Half X) → root ≠ [] → ∀ X ∈ LV, X ≠ []
 | [], row, root, _, _, _, X, hX => by cases hX
 | L :: LV, row, root, hc, hh, hr, X, hX => by
  obtain ⟨h1, h2⟩ := hc
  have ih := chain_full LV _ root h2 (fun Y hY => hh Y (by simp [hY])) hr
  rcases List.mem_cons.1 hX with rfl | hX
  ·cases LV with
   | nil =>
    intro e
    subst e
    exact hr h2
   | cons M LV =>
    obtain ⟨h3, -⟩ := h2
    have h4 := ih M (by simp)
    have h5 := hh M (by simp)
    intro e
    subst e
    cases M with
    | nil => exact h4 rfl
    | cons n M =>
     have h6 := h5 n (by simp)
     have e : (ents (n :: M)).length = 0 := by rw [h3]; rfl
     rw [ents_length] at e
     simp only [lens] at e
     omega
  ·exact ih X hX
theorem WorldOk.old {us : List Bool} {L : List ByteArray} {d : Nat} {root : EL} {v : V} {R : EL} (h : WorldOk us L d root v R) : ∀ X ∈ lvls v d, Known X ∧ X ≠ [] ∧ Half X ∧ (names X).Nodup := by
 intro X hX
 obtain ⟨hc, -⟩ := walk_chain h.walk
 obtain ⟨hok, -, -⟩ := walkT_okr h.walk
 have hg := walkT_good h.walk
 have hne : root ≠ [] := by
  have hd : 0 < d := by
   have := List.length_pos_of_mem hX
   rwa [lvls_len] at this
  intro e
  exact hok.2.2.2.1 (by omega) (by rw [e]; rfl)
 refine ⟨?_, chain_full _ R root hc h.half hne X hX, h.half X hX, ?_⟩
 ·obtain ⟨i, -, rfl⟩ := List.mem_map.1 hX
  exact (lvl_ok hg _).2.1
 ·obtain ⟨i, -, rfl⟩ := List.mem_map.1 hX
  exact lvl_same' hg _
theorem nodes_total {d : Disk} {n : Nat} {root : EL} {v : V} {R : EL} (h : walkT d n root = .ok (v, R)) : (nodes v).length ≤ total (lvls v n) := by
 obtain ⟨-, hh⟩ := walk_chain h
 have hnd : ((nodes v).map fun b : Nat => (b : Int)).Nodup := List.Pairwise.map _ (fun a b hab e => hab (by omega)) (List.nodup_range.sublist List.filter_sublist)
 have hsub : ∀ b ∈ (nodes v).map fun b : Nat => (b : Int), b ∈ (lvls v n).flatMap names := fun b hb => by
  obtain ⟨c, hc, rfl⟩ := List.mem_map.1 hb
  have := (List.mem_filter.1 hc).2
  obtain ⟨x, hx, e⟩ := List.any_eq_true.1 this
  rw [beq_iff_eq] at e
  obtain ⟨h1, h2⟩ := hh x hx
  refine List.mem_flatMap.2 ⟨lvl v x.h, List.mem_map.2 ⟨x.h - 1, List.mem_range.2 (by omega), by rw [show x.h - 1 + 1 = x.h by omega]⟩, ?_⟩
  exact List.mem_map.2 ⟨((x.b : Int), x.l), lvl_mem.2 ⟨x, hx, rfl, rfl⟩, by dsimp only; omega⟩
 have := List.Nodup.length_le_of_subset hnd hsub
 rw [List.length_map, List.length_flatMap] at this
 unfold total
 rw [show (fun X : List Node => (names X).length) = List.length from by funext X; simp [names]] at this
 exact this
theorem WorldOk.usedN_le {us : List Bool} {L : List ByteArray} {d : Nat} {root : EL} {v : V} {R : EL} (h : WorldOk us L d root v R) : usedN us ≤ 512 := by
 obtain ⟨hc, -⟩ := walk_chain h.walk
 obtain ⟨-, hrow, -⟩ := walkT_okr h.walk
 have h1 := (chain_total _ _ _ hc h.half).1
 have h2 := nodes_total h.walk
 have h3 := row_len hrow
 have h4 : usedN us ≤ (nodes v).length := by
  unfold usedN nodes
  have e : (((List.range 4096).drop 2048).filter fun b => us.getD b true) = ((List.range 4096).drop 2048).filter (has v) := List.filter_congr (fun b hb => h.used b (mem_high.1 hb).2)
  rw [e]
  exact (List.Sublist.filter _ (List.drop_sublist _ _)).length_le
 omega
theorem taken_has {R : EL} {b : Int} : taken R b = true ↔ Exts.has R b := by
 unfold taken Exts.has inX
 rw [List.any_eq_true]
 constructor
 ·rintro ⟨x, hx, h⟩
  simp only [Bool.and_eq_true, decide_eq_true_eq] at h
  exact ⟨x, hx, by omega⟩
 ·rintro ⟨x, hx, h⟩
  exact ⟨x, hx, by simp only [Bool.and_eq_true, decide_eq_true_eq]; omega⟩
theorem repl_taken {R l : EL} {a b : Int} (hr : Exts.Row R) (hf : fitsT a b l = true) {i : Int} (h1 : taken R i = false) (h2 : taken l i = false) : taken (replT R a b l) i = false := by
 obtain ⟨g1, g2, g3, g4, g5⟩ := fits_spec hf
 rw [← Bool.not_eq_true] at h1 h2 ⊢
 rw [taken_has] at h1 h2 ⊢
 by_cases e : a = b
 ·unfold replT
  rw [if_pos e]
  exact h1
 ·rw [repl_eq hr g1 g2 g3 e]
  exact fun h => (Exts.has_change h).elim h1 h2
def askW (us : List Bool) : V → EL → Nat → IL → (Int × IL) × List Bool := fun v R k T => askT nextW v R k T us
structure ReplW (us : List Bool) (L : List ByteArray) (d : Nat) (root : EL) (v : V) (R : EL) (a b : Int) (l : EL) (s : SetR) (us1 : List Bool) (D : IL) (v' : V) : Prop where
 eq : replaceT (askW us) ⟨L, -1⟩ d root a b l us = (.ok s, us1)
 st : SetStands L v (replT R a b l) (shapeT (lvls v d) (replT R a b l) 0).1.1 (shapeT (lvls v d) (replT R a b l) 0).1.2 (0 :: D) s v'
 sh : ShapeOk (lvls v d) (replT R a b l) (shapeT (lvls v d) (replT R a b l) 0).1.1 (shapeT (lvls v d) (replT R a b l) 0).1.2 (shapeT (lvls v d) (replT R a b l) 0).2
 fed : ∀ X ∈ (shapeT (lvls v d) (replT R a b l) 0).1.1, Fed X
 ok : WorldOk (freeT s.freed us1) (putC s.changes L) s.depth.toNat s.root v' (replT R a b l)
 dep : s.depth = (s.depth.toNat : Int)
 len1 : us1.length = 4096
 frd : ∀ b ∈ s.freed, 0 ≤ b ∧ b < 4096
set_option maxHeartbeats 1000000 in
theorem replace_world {us : List Bool} {L : List ByteArray} {d : Nat} {root : EL} {v : V} {R : EL} {a b : Int} {l : EL} (h : WorldOk us L d root v R) (hf : fitsT a b l = true) (hl : ∀ i : Int, 2048 ≤ i → taken l i = false) : ∃ s us1 D v', ReplW us L d root v R a b l s us1 D v' := by
 obtain ⟨hok, hrow, hme⟩ := walkT_okr h.walk
 have hg := walkT_good h.walk
 have hseen := walkT_seen h.walk
 have hrow' := repl_row hrow hf
 have hlen := row_len hrow'
 have hlo' : ∀ i : Int, 2048 ≤ i → taken (replT R a b l) i = false := fun i hi => repl_taken hrow hf (h.lo i hi) (hl i hi)
 have hmeet : meets v (replT R a b l) = false := meets_mk (fun c hc => hlo' _ (by have := h.hi c hc; omega))
 have hsh := shape_ok (replT R a b l) h.old
 have hold := lvls_ok hg d (by have := hok.2.1; omega)
 have hfed := shape_fed (lvls v d) (replT R a b l) hold.1.fed
 have hnamed := shape_named (lvls v d) (replT R a b l) hold.2
 generalize hR' : replT R a b l = R' at *
 obtain ⟨hm1, hm2, hm3, hm4⟩ := hsh.many hlen
 obtain ⟨D, us1, q1, q2, q3, q4, q5⟩ := ask_world v R' hlo' (shapeT (lvls v d) R' 0).2 [0] us h.ulen (by have := h.usedN_le; omega) (fun c g1 g2 g3 => by rw [← h.used c g2]; exact g3) (fun t ht => by rw [List.mem_singleton.1 ht]; left; omega)
 obtain ⟨D', r1, r2, r3, r4, r5⟩ := askT_told nextW v R' (shapeT (lvls v d) R' 0).2 [0] us (by rw [q1])
 rw [q1] at r1
 have hDD : D' = D := by simpa using r1.symm
 subst hDD
 clear r1
 generalize hS : shapeT (lvls v d) R' 0 = S at *
 obtain ⟨⟨LV, root'⟩, m⟩ := S
 dsimp only at *
 have htold : ToldOk m (0 :: D') := by
  have := told_ok (m := m) (K := []) (D := D') (fun x hx => by cases hx) (fun x hx => ⟨(r3 x hx).1, (r3 x hx).2.1⟩) (by simp [r2])
  simpa using this
 have hname : ∀ i, ∀ n ∈ LV.getD i [], (n.1 ∈ names ((lvls v d).getD i []) ∧ 1 ≤ n.1 ∧ n.1 ≤ 4095 ∧ has v n.1.toNat = true) ∨ Anew 0 m n.1 := fun i n hn => by
  rcases hsh.nm.from_ i n.1 (List.mem_map.2 ⟨n, hn, rfl⟩) with g | g
  ·left
   have g' := g
   by_cases hi : i < d
   ·rw [lvls_at v d i hi] at g'
    obtain ⟨k, hk, e⟩ := List.mem_map.1 g'
    obtain ⟨x, hx, -, rfl⟩ := lvl_mem.1 hk
    have := hg.blk x hx
    dsimp only at e
    refine ⟨g, by omega, by omega, List.any_eq_true.2 ⟨x, hx, by rw [beq_iff_eq]; omega⟩⟩
   ·rw [show (lvls v d).getD i [] = [] by simp [List.getD, lvls_len, Nat.le_of_not_lt hi]] at g'
    simp [names] at g'
  ·exact .inr g
 have hDat : ∀ x, Anew 0 m x → blockT (0 :: D') x ∈ D' := fun x hx => by
  unfold Anew at hx
  unfold blockT
  rw [if_pos (by omega)]
  obtain ⟨j, hj⟩ : ∃ j, (-x).toNat = j + 1 := ⟨(-x).toNat - 1, by omega⟩
  rw [hj, List.getD_cons_succ, show D'.getD j 0 = D'[j]'(by omega) by simp [List.getD, show j < D'.length by omega]]
  exact List.getElem_mem _
 have hinj : ∀ i j n k, n ∈ LV.getD i [] → k ∈ LV.getD j [] → keyT (0 :: D') n = keyT (0 :: D') k → n.1 = k.1 := fun i j n k hn hk e => by
  unfold keyT at e
  rcases hname i n hn with ⟨-, a1, a2, a3⟩ | a1 <;> rcases hname j k hk with ⟨-, b1, b2, b3⟩ | b1
  ·unfold blockT at e
   rw [if_neg (by omega), if_neg (by omega)] at e
   omega
  ·have h1 := hDat _ b1
   have h2 := r3 _ h1
   rw [← e] at h2
   rw [show blockT (0 :: D') n.1 = n.1 by unfold blockT; rw [if_neg (by omega)]] at h2
   rw [a3] at h2
   cases h2.2.2.1
  ·have h1 := hDat _ a1
   have h2 := r3 _ h1
   rw [e] at h2
   rw [show blockT (0 :: D') k.1 = k.1 by unfold blockT; rw [if_neg (by omega)]] at h2
   rw [b3] at h2
   cases h2.2.2.1
  ·have h1 := r3 _ (hDat _ a1)
   have h2 := r3 _ (hDat _ b1)
   have e' : blockT (0 :: D') n.1 = blockT (0 :: D') k.1 := by omega
   unfold Anew at a1 b1
   unfold blockT at e'
   rw [if_pos (by omega), if_pos (by omega)] at e'
   obtain ⟨p, hp⟩ : ∃ p, (-n.1).toNat = p + 1 := ⟨(-n.1).toNat - 1, by omega⟩
   obtain ⟨q, hq⟩ : ∃ q, (-k.1).toNat = q + 1 := ⟨(-k.1).toNat - 1, by omega⟩
   rw [hp, hq, List.getD_cons_succ, List.getD_cons_succ, show D'.getD p 0 = D'[p]'(by omega) by simp [List.getD, show p < D'.length by omega], show D'.getD q 0 = D'[q]'(by omega) by simp [List.getD, show q < D'.length by omega]] at e'
   have := (List.getElem_inj r4).1 e'
   omega
 have hhigh : ∀ i, ∀ n ∈ LV.getD i [], 2048 ≤ blockT (0 :: D') n.1 := fun i n hn => by
  rcases hname i n hn with ⟨-, a1, a2, a3⟩ | a1
  ·have := h.hi _ a3
   unfold blockT
   rw [if_neg (by omega)]
   omega
  ·exact (q5 _ (hDat _ a1)).1
 obtain ⟨s, v', hst⟩ := set_stands (L := L) (v := v) (row := R') (LV := LV) (root := root') (m := m) (T := 0 :: D') ⟨h.len, hg, fun x hx => rd_old (hseen x hx), hrow', hsh.ch, hfed, hnamed, by omega, htold, hm1, hsh.rl, hsh.root_ne, fun i => by
   have := hsh.nm.nd i
   unfold names at this
   exact List.pairwise_map.2 ((List.pairwise_map.1 this).imp_of_mem (fun ha hb hab e => hab (hinj i i _ _ ha hb e))), fun i j hij n hn k hk e => by
   have h1 := hinj i j n k hn hk e
   rcases hname i n hn with ⟨a0, a1, a2, a3⟩ | a1
   ·rcases hname j k hk with ⟨b0, b1, b2, b3⟩ | b1
    ·have hi : i < d := by
      by_cases hi : i < d
      ·exact hi
      ·rw [show (lvls v d).getD i [] = [] by simp [List.getD, lvls_len, Nat.le_of_not_lt hi]] at a0
       simp [names] at a0
     have hj : j < d := by
      by_cases hj : j < d
      ·exact hj
      ·rw [show (lvls v d).getD j [] = [] by simp [List.getD, lvls_len, Nat.le_of_not_lt hj]] at b0
       simp [names] at b0
     rw [lvls_at v d i hi] at a0
     rw [lvls_at v d j hj] at b0
     obtain ⟨x, hx, ex⟩ := List.mem_map.1 a0
     obtain ⟨y, hy, ey⟩ := List.mem_map.1 b0
     exact lvl_apart hg (i := i + 1) (j := j + 1) (by omega) x hx y hy (by omega)
    ·unfold Anew at b1; omega
   ·have hneg : n.1 < 0 := by unfold Anew at a1; omega
    exact hsh.nm.apart i j hij n.1 (List.mem_map.2 ⟨n, hn, rfl⟩) hneg k.1 (List.mem_map.2 ⟨k, hk, rfl⟩) h1, fun i n hn => hlo' _ (hhigh i n hn)⟩
 have hpick : pick (lvls v d) R' = ((LV, root'), m) := by
  unfold pick
  rw [hS, if_neg (by dsimp only; omega)]
 have hkn : known v (lvls v d) R' = [] := by
  unfold known
  rw [hS, if_neg (by dsimp only; omega)]
 have hkeyb : ∀ i, ∀ n ∈ LV.getD i [], ((keyT (0 :: D') n : Nat) : Int) = blockT (0 :: D') n.1 := fun i n hn => by
  have := hhigh i n hn
  unfold keyT
  omega
 have hfr : ∀ c : Nat, s.freed.contains (c : Int) = (has v c && !has v' c && decide (c < 4096)) := fun c => by
  rw [hst.freed, Bool.eq_iff_iff, List.contains_iff_mem]
  unfold natI nodes
  simp only [List.mem_map, List.mem_filter, List.mem_range, Bool.and_eq_true, decide_eq_true_eq]
  constructor
  ·rintro ⟨y, ⟨⟨g1, g2⟩, g3⟩, e⟩
   obtain rfl : y = c := by omega
   exact ⟨⟨g2, g3⟩, g1⟩
  ·rintro ⟨⟨g2, g3⟩, g1⟩
   exact ⟨c, ⟨⟨g1, g2⟩, g3⟩, rfl⟩
 have hfrd : ∀ c ∈ s.freed, 0 ≤ c ∧ c < 4096 := fun c hc => by
  rw [hst.freed] at hc
  obtain ⟨y, hy, rfl⟩ := List.mem_map.1 hc
  have := List.mem_range.1 (List.mem_filter.1 (List.mem_filter.1 hy).1).1
  omega
 have hdn : s.depth.toNat = LV.length := by rw [hst.depth]; omega
 refine ⟨s, us1, D', v', ?_, ?_, ?_, ?_, ?_, ?_, q2, hfrd⟩
 ·unfold replaceT
  rw [if_neg (by rw [hf]; decide), h.walk]
  dsimp only
  rw [hR', if_neg (by rw [hmeet]; decide)]
  unfold replaceV
  rw [Int.toNat_natCast, hpick, hkn]
  dsimp only
  rw [show m + 1 - (([] : IL).length + 1) = m by simp]
  unfold askW
  rw [q1]
  dsimp only
  rw [if_pos rfl, show ([0] ++ D' : IL) = 0 :: D' from rfl, hst.set]
 ·rw [hR', hS]; exact hst
 ·rw [hR', hS]; exact hsh
 ·rw [hR', hS]; exact hfed
 ·rw [hR']
  have hw := hst.walk
  refine ⟨by rw [hdn]; exact hw, by rw [putC_len]; exact h.len, by rw [freeT_len, q2], fun c hc => ?_, hlo', fun c hc => ?_, fun X hX => ?_⟩
  ·rw [freeT_at _ _ (fun x hx => by have := hfrd x hx; omega), q4, hfr, h.used c hc, decide_eq_true hc, Bool.and_true]
   rw [Bool.eq_iff_iff]
   simp only [Bool.and_eq_true, Bool.or_eq_true, Bool.not_eq_true', Bool.and_eq_false_iff, Bool.not_eq_false']
   constructor
   ·rintro ⟨g1, g2⟩
    rcases g2 with g2 | g2
    ·rcases g1 with g1 | g1
     ·rw [g1] at g2; cases g2
     ·-- told, so it is the block of a name
      have g3 := List.contains_iff_mem.1 g1
      obtain ⟨j, hj, e⟩ := List.mem_iff_getElem.1 g3
      obtain ⟨i, hi⟩ := hsh.nm.all (-((j : Int) + 1)) (by unfold Anew; omega)
      obtain ⟨n, hn, en⟩ := List.mem_map.1 hi
      refine (hst.nds c).2 ⟨i, n, hn, ?_⟩
      have : blockT (0 :: D') n.1 = (c : Int) := by
       unfold blockT
       rw [if_pos (by omega), show (-n.1).toNat = j + 1 by omega, List.getD_cons_succ, show D'.getD j 0 = D'[j] by simp [List.getD, hj], e]
      have := hkeyb i n hn
      omega
    ·exact g2
   ·intro g
    refine ⟨?_, .inr g⟩
    obtain ⟨i, n, hn, e⟩ := (hst.nds c).1 g
    have hk := hkeyb i n hn
    rcases hname i n hn with ⟨-, a1, a2, a3⟩ | a1
    ·left
     rw [show blockT (0 :: D') n.1 = n.1 by unfold blockT; rw [if_neg (by omega)]] at hk
     rw [← e, show keyT (0 :: D') n = n.1.toNat by omega]
     exact a3
    ·right
     rw [List.contains_iff_mem, ← e, hk]
     exact hDat _ a1
  ·obtain ⟨i, n, hn, e⟩ := (hst.nds c).1 hc
   have := hhigh i n hn
   have := hkeyb i n hn
   omega
  ·obtain ⟨i, hi, rfl⟩ := List.mem_map.1 hX
   rw [hdn] at hi
   have hi' := List.mem_range.1 hi
   rw [hst.met.lv (i + 1) (by omega) (by omega), Nat.add_sub_cancel]
   intro n hn
   obtain ⟨k, hk, rfl⟩ := List.mem_map.1 hn
   dsimp only
   rw [knownT_len]
   have : LV.getD i [] ∈ LV := by rw [show LV.getD i [] = LV[i] by simp [List.getD, hi']]; exact List.getElem_mem _
   exact (hsh.half _ this).1 k hk
 ·rw [hdn, hst.depth]
end Go.Proofs.YtgjmeeiejcbjfaaGreat.Forks
namespace Go.Proofs.YtgjmeeiejcbjfaaGreat
open Go.Lib (hid)
open Go Go.RowKit
theorem info_bool : (Tryz.prog.info? 4).map (fun i => (i.zero, i.size, i.bytes)) = some (some (.bool false), 1, 1) := by kernel_rfl
def UBlk (w : World) (U : Nat) (us : List Bool) : Prop := w.heap[U]? = some (.cells (us.map Value.bool).toArray 4 (0, 0))
theorem UBlk.cell {w : World} {U : Nat} {us : List Bool} (h : UBlk w U us) {b : Nat} (hb : b < us.length) : w.cell? ⟨U, b, none⟩ = some (.bool (us.getD b true)) := by
 rw [cell_of_row w U b _ _ _ h]
 simp [List.getD, hb]
theorem UBlk.set {w : World} {U : Nat} {us : List Bool} (h : UBlk w U us) (b : Nat) (x : Bool) : UBlk (w.setCell ⟨U, b, none⟩ (.bool x)) U (us.set b x) := by
 have := block_setCell h b (.bool x)
 unfold UBlk
 rw [this, List.map_set]
 simp
def FRw (W U : Nat) (us : List Bool) (w : World) : Prop := us.length = 4096 ∧ w.cell? ⟨W, 3, none⟩ = some (.slice (some ⟨U, 0, none⟩) 4096 4096) ∧ UBlk w U us ∧ W ≠ U
set_option maxRecDepth 100000 in
theorem next_first {us : List Bool} {b : Nat} (h1 : 2048 ≤ b) (h2 : b < 4096) (h3 : us.getD b true = false) (h4 : ∀ c, 2048 ≤ c → c < b → us.getD c true = true) : nextB us = some b := by
 unfold nextB
 rw [List.find?_eq_some_iff_append]
 refine ⟨by rw [h3]; rfl, ((List.range 4096).drop 2048).take (b - 2048), ((List.range 4096).drop 2048).drop (b - 2048 + 1), ?_, fun c hc => ?_⟩
 ·have hl : b - 2048 < ((List.range 4096).drop 2048).length := by rw [List.length_drop, List.length_range]; omega
  conv => lhs; rw [← List.take_append_drop (b - 2048) ((List.range 4096).drop 2048)]
  rw [List.drop_eq_getElem_cons hl]
  congr 2
  rw [List.getElem_drop, List.getElem_range]
  omega
 ·obtain ⟨i, hi, rfl⟩ := List.mem_iff_getElem.1 hc
  rw [List.length_take] at hi
  rw [List.getElem_take, List.getElem_drop, List.getElem_range, h4 _ (by omega) (by omega)]
  rfl
set_option maxRecDepth 100000 in
theorem next_none {us : List Bool} (h : ∀ c, 2048 ≤ c → c < 4096 → us.getD c true = true) : nextB us = none := by
 unfold nextB
 rw [List.find?_eq_none]
 intro c hc
 have := Forks.mem_high.1 hc
 rw [h c this.1 this.2]
 decide
set_option maxRecDepth 100000 in
theorem worldFn (W U K0 : Nat) (hW : W < K0) (hU : U < K0) : FreshFn (List Bool) K0 U 32 #[.pointer (some ⟨W, 0, none⟩)] Forks.nextW (FRw W U) (fun _ => 0) := by
 refine ⟨.inr (.inl ⟨rfl, W, rfl⟩), fun us wz h _ => ?_, fun us wz wz' h hb => ?_, fun _ => Nat.zero_le _, hU⟩
 ·obtain ⟨hl, h3, hu, hne⟩ := h
  refine (fresh_any W U us wz h3 (fun b hb => hu.cell (by omega)) (fun b => free_zero hu b)).mono ?_
  rintro e w' (⟨b, h1, h2, h4, h5, rfl, rfl⟩ | ⟨h4, rfl, rfl⟩)
  ·have hn : Forks.nextW us = (some (b : Int), us.set b true) := by
    unfold Forks.nextW
    rw [next_first h1 h2 h4 h5]
   rw [hn]
   refine ⟨rfl, ⟨by rw [List.length_set]; exact hl, ?_, hu.set b true, hne⟩, .set wz b _, .of_all (S := 4) (fun T hT => KeepT.set (a := ⟨U, b, none⟩) hu hT)⟩
   rw [World.cell?_of_block (Below.heap_setCell _ _ _ _ hne)]
   exact h3
  ·have hn : Forks.nextW us = (none, us) := by
    unfold Forks.nextW
    rw [next_none h4]
   rw [hn]
   exact ⟨rfl, ⟨hl, h3, hu, hne⟩, .refl _ _, .refl _⟩
 ·obtain ⟨hl, h3, hu, hne⟩ := h
  refine ⟨hl, (hb.cell (p := ⟨W, 3, none⟩) hW).trans h3, ?_, hne⟩
  unfold UBlk
  rw [hb.block U hU]
  exact hu
def WBlk (w : World) (W D U : Nat) (d : Int) (rv : Value) : Prop := w.heap[W]? = some (.cells #[.slice (some ⟨D, 0, none⟩) 4096 4096, .int .i64 d, rv, .slice (some ⟨U, 0, none⟩) 4096 4096] 79 (0, 0))
structure WorldAt (B : Nat) (w : World) (W D U : Nat) (us : List Bool) (L : List ByteArray) (d : Int) (rv : Value) (root : EL) : Prop where
 blk : WBlk w W D U d rv
 row : Row w D 9 (L.map .string)
 use : UBlk w U us
 root : OwnEnts B w rv root
 loW : B ≤ W
 loD : B ≤ D
 loU : B ≤ U
 neD : W ≠ D
 neU : W ≠ U
 neDU : D ≠ U
variable {B W D U : Nat} {us : List Bool} {L : List ByteArray} {d : Int} {rv : Value} {root : EL} {w w' : World}
theorem WorldAt.cells (h : WorldAt B w W D U us L d rv root) : w.cell? ⟨W, 0, none⟩ = some (.slice (some ⟨D, 0, none⟩) 4096 4096) ∧ w.cell? ⟨W, 1, none⟩ = some (.int .i64 d) ∧ w.cell? ⟨W, 2, none⟩ = some rv ∧ w.cell? ⟨W, 3, none⟩ = some (.slice (some ⟨U, 0, none⟩) 4096 4096) ∧ ∀ k, w.frozen? ⟨W, k, none⟩ = false :=
 ⟨cell_of_row w W 0 _ _ _ h.blk, cell_of_row w W 1 _ _ _ h.blk, cell_of_row w W 2 _ _ _ h.blk, cell_of_row w W 3 _ _ _ h.blk, free_zero h.blk⟩
theorem WorldAt.below (h : WorldAt B w W D U us L d rv root) (hb : Below w.heap.size w w') : WorldAt B w' W D U us L d rv root := by
 refine ⟨?_, h.row.below hb h.row.lt, ?_, h.root.below hb, h.loW, h.loD, h.loU, h.neD, h.neU, h.neDU⟩
 ·unfold WBlk
  rw [hb.block W (lt_of_block h.blk)]
  exact h.blk
 ·unfold UBlk
  rw [hb.block U (lt_of_block h.use)]
  exact h.use
theorem WorldAt.fr (h : WorldAt B w W D U us L d rv root) (hu : us.length = 4096) : FRw W U us w := ⟨hu, h.cells.2.2.2.1, h.use, h.neU⟩
theorem WorldAt.only {us' : List Bool} (h : WorldAt B w W D U us L d rv root) (hb : OnlyM U w w') (hu : UBlk w' U us') (hr : ∀ rg, rv.ownBlock = some rg → rg ≠ U) : WorldAt B w' W D U us' L d rv root := by
 refine ⟨?_, ?_, hu, ?_, h.loW, h.loD, h.loU, h.neD, h.neU, h.neDU⟩
 ·unfold WBlk
  rw [hb.block W (lt_of_block h.blk) h.neU]
  exact h.blk
 ·obtain ⟨fr, h1, h2⟩ := h.row
  exact ⟨fr, by rw [hb.block D (lt_of_block h1) h.neDU]; exact h1, h2⟩
 ·obtain ⟨h1, h2⟩ := h.root
  refine ⟨h1, h2.imp id ?_⟩
  rintro ⟨g, cap, cur, hv, hg, hh, r⟩
  subst hv
  exact ⟨g, cap, cur, rfl, hg, by rw [hb.block g (lt_of_block hh) (hr g rfl)]; exact hh, r⟩
end Go.Proofs.YtgjmeeiejcbjfaaGreat
namespace Go.Proofs.YtgjmeeiejcbjfaaGreat
open Go.Lib (hid)
open Go Go.RowKit
structure OnlyW (W D U : Nat) (w w' : World) : Prop where
 os : w'.os = w.os
 tape : w'.tape = w.tape
 output : w'.output = w.output
 size : w.heap.size ≤ w'.heap.size
 block : ∀ k, k < w.heap.size → k ≠ W → k ≠ D → k ≠ U → w'.heap[k]? = w.heap[k]?
section
variable {W D U : Nat} {a b c : World}
theorem OnlyW.refl (W D U : Nat) (w : World) : OnlyW W D U w w := ⟨rfl, rfl, rfl, Nat.le_refl _, fun _ _ _ _ _ => rfl⟩
theorem OnlyW.trans (h1 : OnlyW W D U a b) (h2 : OnlyW W D U b c) : OnlyW W D U a c :=
 ⟨h2.os.trans h1.os, h2.tape.trans h1.tape, h2.output.trans h1.output, Nat.le_trans h1.size h2.size, fun k hk g1 g2 g3 => (h2.block k (Nat.lt_of_lt_of_le hk h1.size) g1 g2 g3).trans (h1.block k hk g1 g2 g3)⟩
theorem OnlyW.of_below (h : Below a.heap.size a b) : OnlyW W D U a b := ⟨h.os, h.tape, h.output, h.size, fun k hk _ _ _ => h.block k hk⟩
theorem OnlyW.of_only (h : OnlyM U a b) : OnlyW W D U a b := ⟨h.os, h.tape, h.output, h.size, fun k hk _ _ g => h.block k hk g⟩
theorem OnlyW.set (w : World) (X k : Nat) (v : Value) (h : X = W ∨ X = D ∨ X = U) : OnlyW W D U w (w.setCell ⟨X, k, none⟩ v) :=
 ⟨rfl, rfl, rfl, by simp, fun j hj h1 h2 h3 => Below.heap_setCell _ _ _ _ (by rcases h with rfl | rfl | rfl <;> assumption)⟩
theorem OnlyW.below {B : Nat} (h : OnlyW W D U a b) (hB : B ≤ a.heap.size) (hW : B ≤ W) (hD : B ≤ D) (hU : B ≤ U) : Below B a b :=
 ⟨h.os, h.tape, h.output, h.size, fun k hk => h.block k (by omega) (by omega) (by omega) (by omega)⟩
end
section
variable {B W D U X : Nat} {us : List Bool} {L : List ByteArray} {d sd : Int} {rv rv' cv fv : Value} {root root' : EL} {C : CL} {F : IL} {w0 w w' : World}
structure PutSt (B : Nat) (w0 : World) (W D U X : Nat) (us : List Bool) (L : List ByteArray) (d : Int) (rv : Value) (root : EL) (sd : Int) (rv' cv fv : Value) (root' : EL) (C : CL) (F : IL) (w : World) : Prop where
 wa : WorldAt B w W D U us L d rv root
 set : w.heap[X]? = some (.cells #[.int .i64 sd, rv', cv, fv] 58 (0, 0))
 nr : OwnEnts B w rv' root'
 nc : OwnChgs B w cv C
 nf : OwnInts B w fv F
 only : OnlyW W D U w0 w
theorem PutSt.below (h : PutSt B w0 W D U X us L d rv root sd rv' cv fv root' C F w) (hb : Below w.heap.size w w') : PutSt B w0 W D U X us L d rv root sd rv' cv fv root' C F w' :=
 ⟨h.wa.below hb, (hb.block _ (lt_of_block h.set)).trans h.set, h.nr.below hb, h.nc.below hb, h.nf.below hb, h.only.trans (.of_below hb)⟩
theorem PutSt.chg (h : PutSt B w0 W D U X us L d rv root sd rv' cv fv root' C F w) (b : Nat) (s : ByteArray) : PutSt B w0 W D U X us (L.set b s) d rv root sd rv' cv fv root' C F (w.setCell ⟨D, b, none⟩ (.string s)) := by
 obtain ⟨fr, h1, h2⟩ := h.wa.row
 have hk : ∀ {T : TypeId}, T ≠ 9 → KeepT T w (w.setCell ⟨D, b, none⟩ (.string s)) := fun hT => KeepT.set (a := ⟨D, b, none⟩) h1 hT
 refine ⟨⟨hk (by decide) _ _ _ h.wa.blk, ?_, hk (by decide) _ _ _ h.wa.use, own_keepT h.wa.root (hk (by decide)), h.wa.loW, h.wa.loD, h.wa.loU, h.wa.neD, h.wa.neU, h.wa.neDU⟩, hk (by decide) _ _ _ h.set, own_keepT h.nr (hk (by decide)), own_keepT h.nc (hk (by decide)), own_keepT h.nf (hk (by decide)), h.only.trans (.set _ _ _ _ (.inr (.inl rfl)))⟩
 have := h.wa.row.set b (.string s)
 rwa [← List.map_set] at this
theorem PutSt.frd (h : PutSt B w0 W D U X us L d rv root sd rv' cv fv root' C F w) (b : Nat) : PutSt B w0 W D U X (us.set b false) L d rv root sd rv' cv fv root' C F (w.setCell ⟨U, b, none⟩ (.bool false)) := by
 have h1 := h.wa.use
 have hk : ∀ {T : TypeId}, T ≠ 4 → KeepT T w (w.setCell ⟨U, b, none⟩ (.bool false)) := fun hT => KeepT.set (a := ⟨U, b, none⟩) h1 hT
 exact ⟨⟨hk (by decide) _ _ _ h.wa.blk, h.wa.row.keepT (hk (by decide)), h1.set b false, own_keepT h.wa.root (hk (by decide)), h.wa.loW, h.wa.loD, h.wa.loU, h.wa.neD, h.wa.neU, h.wa.neDU⟩, hk (by decide) _ _ _ h.set, own_keepT h.nr (hk (by decide)), own_keepT h.nc (hk (by decide)), own_keepT h.nf (hk (by decide)), h.only.trans (.set _ _ _ _ (.inr (.inr rfl)))⟩
theorem PutSt.done (h : PutSt B w0 W D U X us L d rv root sd rv' cv fv root' C F w) : WorldAt B ((w.setCell ⟨W, 1, none⟩ (.int .i64 sd)).setCell ⟨W, 2, none⟩ rv') W D U us L sd rv' root' ∧ OnlyW W D U w0 ((w.setCell ⟨W, 1, none⟩ (.int .i64 sd)).setCell ⟨W, 2, none⟩ rv') := by
 have h1 := h.wa.blk
 have h2 := block_setCell h1 1 (.int .i64 sd)
 have h3 := block_setCell h2 2 rv'
 have hk : ∀ {T : TypeId}, T ≠ 79 → KeepT T w ((w.setCell ⟨W, 1, none⟩ (.int .i64 sd)).setCell ⟨W, 2, none⟩ rv') := fun hT => (KeepT.set (a := ⟨W, 1, none⟩) h1 hT).trans (KeepT.set (a := ⟨W, 2, none⟩) h2 hT)
 refine ⟨⟨by unfold WBlk; simpa using h3, h.wa.row.keepT (hk (by decide)), hk (by decide) _ _ _ h.wa.use, own_keepT h.nr (hk (by decide)), h.wa.loW, h.wa.loD, h.wa.loU, h.wa.neD, h.wa.neU, h.wa.neDU⟩, (h.only.trans (.set _ _ _ _ (.inl rfl))).trans (.set _ _ _ _ (.inl rfl))⟩
end
theorem cell_str {w : World} {D b : Nat} {L : List ByteArray} (h : Row w D 9 (L.map .string)) (hb : b < L.length) : w.cell? ⟨D, b, none⟩ = some (.string (L.getD b ⟨#[]⟩)) :=
 h.cellAt b (by rw [List.getElem?_map, List.getD_eq_getElem?_getD, List.getElem?_eq_getElem hb]; rfl)
set_option maxRecDepth 100000 in
set_option maxHeartbeats 4000000 in
theorem put_any {B W D U : Nat} {us : List Bool} {L : List ByteArray} {d sd : Int} {rv rv' cv fv : Value} {root root' : EL} {C : CL} {F : IL} {w : World} (h : WorldAt B w W D U us L d rv root) (hB : B ≤ w.heap.size) (hr : OwnEnts B w rv' root') (hc : OwnChgs B w cv C) (hf : OwnInts B w fv F) (hL : L.length = 4096) (hu : us.length = 4096) (hC : ∀ x ∈ C, 0 ≤ x.1 ∧ x.1 < 4096) (hF : ∀ x ∈ F, 0 ≤ x ∧ x < 4096) (hCl : C.length ≤ 1000000) (hFl : F.length ≤ 1000000) :
  Calls Tryz.prog 33 #[.pointer (some ⟨W, 0, none⟩), .agg #[.int .i64 sd, rv', cv, fv]] w fun e w' => e = .returned (.tuple #[]) ∧ WorldAt B w' W D U (Forks.freeT F us) (Forks.putC C L) sd rv' root' ∧ OnlyW W D U w w' := by
 have bA : Below w.heap.size w (w.alloc (.cells #[.int .i64 sd, rv', cv, fv] 58)) := (Below.refl _ _).alloc (Nat.le_refl _) _
 have P0 : Hid (PutSt B w W D U w.heap.size us L d rv root sd rv' cv fv root' C F (w.alloc (.cells #[.int .i64 sd, rv', cv, fv] 58))) := hid ⟨h.below bA, heap_alloc_new w _, hr.below bA, hc.below bA, hf.below bA, .of_below bA⟩
 have HC := hid hC
 have HF := hid hF
 have HL := hid hL
 have HU := hid hu
 obtain ⟨ac, cc, rfl⟩ := hc.slice
 obtain ⟨af, cf, rfl⟩ := (OwnInts.at hf).form
 obtain ⟨ar, cr, rfl⟩ := (OwnEnts.ents hr).ext.form
 clear h hB hr hc hf hL hu hC hF bA
 go_enter Tryz.func33, Tryz.ntmps33
 go_wp2_with fail
 generalize w.alloc _ = w1 at *
 generalize w.heap.size = X at *
 go_loopw [4] (fun q wr => ∃ k : Nat, k ≤ C.length ∧ q = .int .i64 k ∧ Hid (PutSt B w W D U X us (Forks.putC (C.take k) L) d rv root sd (.slice ar root'.length cr) (.slice ac C.length cc) (.slice af F.length cf) root' C F wr)) (fun q _ => C.length - (intOf q).toNat)
 case atStart => exact ⟨0, Nat.zero_le _, rfl, P0⟩
 case round =>
  clear P0
  obtain ⟨k, hk, rfl, hst⟩ := hrel
  obtain ⟨x0, x1, x2, x3, -⟩ := set_cells hst.out.set
  obtain ⟨y0, y1, y2, y3, -⟩ := hst.out.wa.cells
  by_cases hlt : k < C.length
  ·have i0 : (0 : Int) ≤ (k : Int) := by omega
   have i1 : (k : Int) < (C.length : Int) := by omega
   obtain ⟨g, off, rfl, c0, c1⟩ := (OwnChgs.at hst.out.nc).cells k hlt
   have hx := HC.out (C.getD k (0, ⟨#[]⟩)) (by rw [show C.getD k (0, ⟨#[]⟩) = C[k] by simp [List.getD, hlt]]; exact List.getElem_mem _)
   have hn := hst.out.chg (C.getD k (0, ⟨#[]⟩)).1.toNat (C.getD k (0, ⟨#[]⟩)).2
   have e : (Forks.putC (C.take k) L).set (C.getD k (0, ⟨#[]⟩)).1.toNat (C.getD k (0, ⟨#[]⟩)).2 = Forks.putC (C.take (k + 1)) L := by
    have := Forks.fold_take (fun B x => putD x B) L C k hlt (0, ⟨#[]⟩)
    unfold Forks.putC
    rw [this]
    unfold putD
    rw [if_pos hx]
   rw [e] at hn
   have HN := hid hn
   have hDl : (C.getD k (0, ⟨#[]⟩)).1.toNat < (Forks.putC (C.take k) L).length := by rw [Forks.putC_len, HL.out]; omega
   have hf0 : wr.frozen? ⟨D, (C.getD k (0, ⟨#[]⟩)).1.toNat, none⟩ = false := hst.out.wa.row.free _ (by rw [List.length_map]; exact hDl)
   have hcd : wr.cell? ⟨D, (C.getD k (0, ⟨#[]⟩)).1.toNat, none⟩ = some (.string ((Forks.putC (C.take k) L).getD (C.getD k (0, ⟨#[]⟩)).1.toNat ⟨#[]⟩)) := cell_str hst.out.wa.row hDl
   obtain ⟨b, hb⟩ : ∃ b : Nat, (C.getD k (0, ⟨#[]⟩)).1 = (b : Int) := ⟨(C.getD k (0, ⟨#[]⟩)).1.toNat, by omega⟩
   rw [hb] at c0 hx
   rw [hb, Int.toNat_natCast] at HN hf0 hcd
   clear hn e hb hDl
   generalize (C.getD k (0, ⟨#[]⟩)).2 = s at *
   generalize (Forks.putC (C.take k) L).getD b ⟨#[]⟩ = s0 at *
   obtain ⟨j0, j1⟩ := hx
   clear hst x1 y1 y2 y3
   go_upto_region 4 with fail
   go_region
   all_goals
    go_wp2_with fail
    go_roundw
    case rel => exact ⟨k + 1, by omega, by go_num, hid (HN.out.below (Below.refl _ _).drew)⟩
    case measure => simp [intOf]; omega
  ·obtain rfl : k = C.length := by omega
   have hst2 := hst.out
   rw [List.take_length] at hst2
   have HST := hid hst2
   clear hst hst2 hlt y0 y1 y2 y3
   go_wp2_with fail
   clear x0 x1 x2 x3
   go_loopw [5] (fun q wr => ∃ k : Nat, k ≤ F.length ∧ q = .int .i64 k ∧ Hid (PutSt B w W D U X (Forks.freeT (F.take k) us) (Forks.putC C L) d rv root sd (.slice ar root'.length cr) (.slice ac C.length cc) (.slice af F.length cf) root' C F wr)) (fun q _ => F.length - (intOf q).toNat)
   case atStart => exact ⟨0, Nat.zero_le _, rfl, HST⟩
   case round =>
    clear HST
    obtain ⟨k, hk, rfl, hst⟩ := hrel
    obtain ⟨x0, x1, x2, x3, xf⟩ := set_cells hst.out.set
    obtain ⟨y0, y1, y2, y3, yf⟩ := hst.out.wa.cells
    by_cases hlt : k < F.length
    ·have i0 : (0 : Int) ≤ (k : Int) := by omega
     have i1 : (k : Int) < (F.length : Int) := by omega
     obtain ⟨g, off, rfl, c0⟩ := (OwnInts.at hst.out.nf).cells k hlt
     have hx := HF.out (F.getD k 0) (by rw [show F.getD k 0 = F[k] by simp [List.getD, hlt]]; exact List.getElem_mem _)
     have hn := hst.out.frd (F.getD k 0).toNat
     have e : (Forks.freeT (F.take k) us).set (F.getD k 0).toNat false = Forks.freeT (F.take (k + 1)) us := by
      have := Forks.fold_take (fun (u : List Bool) (b : Int) => u.set b.toNat false) us F k hlt 0
      unfold Forks.freeT
      rw [this]
     rw [e] at hn
     have HN := hid hn
     have hul : (F.getD k 0).toNat < (Forks.freeT (F.take k) us).length := by rw [Forks.freeT_len, HU.out]; omega
     have hf0 : wr.frozen? ⟨U, (F.getD k 0).toNat, none⟩ = false := free_zero hst.out.wa.use _
     have hcd : wr.cell? ⟨U, (F.getD k 0).toNat, none⟩ = some (.bool ((Forks.freeT (F.take k) us).getD (F.getD k 0).toNat true)) := hst.out.wa.use.cell hul
     obtain ⟨b, hb⟩ : ∃ b : Nat, F.getD k 0 = (b : Int) := ⟨(F.getD k 0).toNat, by omega⟩
     rw [hb] at c0 hx
     rw [hb, Int.toNat_natCast] at HN hf0 hcd
     clear hn e hb hul
     generalize (Forks.freeT (F.take k) us).getD b true = s0 at *
     obtain ⟨j0, j1⟩ := hx
     clear hst x0 x1 x2 y0 y1 y2 xf yf
     go_upto_region 8 with fail
     go_region
     all_goals
      go_wp2_with fail
      go_roundw
      case rel => exact ⟨k + 1, by omega, by go_num, hid (HN.out.below (Below.refl _ _).drew)⟩
      case measure => simp [intOf]; omega
    ·obtain rfl : k = F.length := by omega
     have hst2 := hst.out
     rw [List.take_length] at hst2
     have HD := hid hst2.done
     have f1 := yf 1
     have f2 := yf 2
     clear hst hst2 hlt y0 y3 yf xf x2
     go_wp2_with fail
     go_end0
     exact ⟨rfl, HD.out.1, HD.out.2⟩
theorem begun_mk (w w1 : World) (D U : Nat) (ba : Below w.heap.size w w1) (hD : w.heap.size ≤ D) (hU : w.heap.size ≤ U) (hne : D ≠ U) (hr : Row w1 D 9 ((diskOf []).map .string)) (hu : UBlk w1 U (List.replicate 4096 false)) (N : Nat) (hN : w1.heap.size = N) (wt : World) (ht : w1.alloc (.cells #[.slice (some ⟨D, 0, none⟩) 4096 4096, .int .i64 0, .slice none 0 0, .slice (some ⟨U, 0, none⟩) 4096 4096] 79) = wt) :
  WorldAt w.heap.size wt N D U (List.replicate 4096 false) (diskOf []) 0 (.slice none 0 0) [] ∧ Below w.heap.size w wt := by
 subst ht
 subst hN
 have hb : Below w1.heap.size w1 (w1.alloc (.cells #[.slice (some ⟨D, 0, none⟩) 4096 4096, .int .i64 0, .slice none 0 0, .slice (some ⟨U, 0, none⟩) 4096 4096] 79)) := (Below.refl _ _).alloc (Nat.le_refl _) _
 have hl := hr.lt
 have hl2 := lt_of_block hu
 refine ⟨⟨heap_alloc_new w1 _, hr.below hb hl, ?_, World.ownsRow_nil _ _ _ _, ba.size, hD, hU, by omega, by omega, hne⟩, ba.trans (hb.mono ba.size)⟩
 unfold UBlk
 rw [hb.block U hl2]
 exact hu
set_option maxRecDepth 100000 in
set_option maxHeartbeats 4000000 in
theorem begun_any (w : World) : Calls Tryz.prog 31 #[] w fun e w' => ∃ W D U, e = .returned (.pointer (some ⟨W, 0, none⟩)) ∧ WorldAt w.heap.size w' W D U (List.replicate 4096 false) (diskOf []) 0 (.slice none 0 0) [] ∧ Below w.heap.size w w' := by
 obtain ⟨ib, hib, hzb, hsb, hbb⟩ := info_parts info_bool
 obtain ⟨bs, hbs⟩ : ∃ bs : Array Value, bs = ((List.replicate 4096 false).map Value.bool).toArray := ⟨_, rfl⟩
 have HBS := hid hbs
 have hmB : ∀ wx : World, (Instr.makeSlice 77 (.int .i64 4096) (.int .i64 4096)).run Tryz.prog wx = .ok (.slice (some ⟨wx.heap.size, 0, none⟩) 4096 4096) (wx.alloc (.cells bs 4)) := fun wx => by
  have hr := run_make (P := Tryz.prog) wx 77 4 ib (.bool false) Tryz.underlying77 hib hzb .i64 .i64 4096 4096 (by omega) (by omega) (by rw [hbb]; omega) (by omega)
  rw [hbs, List.map_replicate]
  have e : (4096 : Int).toNat = 4096 := rfl
  rw [e] at hr
  simpa only [hsb, Value.cells, madeCells_one, Nat.mul_one] using hr
 have qb := hid (fun wx => blocks_any (.slice none 0 0) [] 0 wx (.inl ⟨rfl, rfl⟩) (by simp) (fun x hx => by cases hx))
 have bA : Below w.heap.size w (w.alloc (.cells bs 4)).drew := ((Below.refl _ _).alloc (Nat.le_refl _) _).drew
 have b0 : Below w.heap.size w w.drew := (Below.refl _ _).drew
 have NA : Hid ((w.alloc (.cells bs 4)).drew.heap[w.heap.size]? = some (.cells bs 4)) := hid (heap_alloc_new w (.cells bs 4))
 have hsA : (w.alloc (.cells bs 4)).drew.heap.size = w.heap.size + 1 := by simp
 have hs0 : w.drew.heap.size = w.heap.size := rfl
 clear hbs
 generalize hLD : (diskOf []).map Value.string = LD at *
 go_enter Tryz.func31, Tryz.ntmps31
 go_upto_region 1 with fail
 go_region_held3 (fun w' => True)
   (exact trivial)
   (first
    | (go_at_call 18; (with_reducible refine (qb.out _).mono ?_); rintro e w6 ⟨D, rfl, hD, hrow, b6⟩; have s6 := bA.trans (b6.mono bA.size); have u6 := (b6.block _ (lt_of_block NA.out)).trans NA.out; have Z6 := begun_mk w w6 D w.heap.size s6 (by omega) (Nat.le_refl _) (by omega) (by rw [hLD]; exact hrow) (by unfold UBlk; rw [← HBS.out]; exact u6) _ rfl _ rfl)
    | (go_at_call 18; (with_reducible refine (qb.out _).mono ?_); rintro e w6 ⟨D, rfl, hD, hrow, b6⟩; have s6 := b0.trans (b6.mono b0.size); have t6 := s6.alloc s6.size (.cells bs 4); have u6 := heap_alloc_new w6 (.cells bs 4); have hl6 := hrow.lt; have Z6 := begun_mk w (w6.alloc (.cells bs 4)) D w6.heap.size t6 (by omega) s6.size (by omega) (by rw [hLD]; exact hrow.alloc _) (by unfold UBlk; rw [← HBS.out]; exact u6) (w6.heap.size + 1) (by simp) _ rfl)
    | fail "none")
 all_goals
  go_wp2_with fail
  go_ret
  exact ⟨_, _, _, rfl, Z6.1, Z6.2⟩
end Go.Proofs.YtgjmeeiejcbjfaaGreat
namespace Go.Proofs.YtgjmeeiejcbjfaaGreat.Forks
open Go.Lib (hid)
open Go Go.RowKit
def fullE (i : Nat) : E := ((i : Int), 1 + (i : Int) * 7 % 2000, 1)
def fullR (n : Nat) : EL := (List.range n).map fullE
theorem fullR_len (n : Nat) : (fullR n).length = n := by simp [fullR]
theorem fullR_succ (n : Nat) : fullR (n + 1) = fullR n ++ [fullE n] := by simp [fullR, List.range_succ]
theorem fullR_mem {n : Nat} {x : E} (h : x ∈ fullR n) : 0 ≤ x.1 ∧ x.1 < n ∧ 1 ≤ x.2.1 ∧ x.2.1 ≤ 2000 ∧ x.2.2 = 1 := by
 obtain ⟨i, hi, rfl⟩ := List.mem_map.1 h
 have := List.mem_range.1 hi
 unfold fullE
 dsimp only
 omega
theorem fullR_row : ∀ n, n ≤ 2048 → Exts.Row (fullR n)
 | 0, _ => trivial
 | n + 1, h => by
  rw [fullR_succ]
  refine Exts.row_append (fullR_row n (by omega)) ⟨?_, (fun y hy => by cases hy), trivial⟩ (fun x hx y hy => ?_)
  ·unfold Exts.may fullE
   dsimp only
   omega
  ·obtain rfl := List.mem_singleton.1 hy
   have := fullR_mem hx
   unfold Exts.fin fullE
   dsimp only
   omega
theorem low_taken {l : EL} (h : ∀ x ∈ l, x.2.1 + x.2.2 ≤ 2048) (i : Int) (hi : 2048 ≤ i) : taken l i = false := by
 unfold taken
 rw [List.any_eq_false]
 intro x hx
 have := h x hx
 unfold inX
 simp only [Bool.and_eq_true, decide_eq_true_eq]
 omega
theorem fullR_low (n : Nat) : ∀ x ∈ fullR n, x.2.1 + x.2.2 ≤ 2048 := fun x hx => by have := fullR_mem hx; omega
theorem fullR_take (n k : Nat) (h : k ≤ n) : (fullR n).take k = fullR k := by
 unfold fullR
 rw [← List.map_take, List.take_range, Nat.min_eq_left h]
theorem fullR_drop {n k : Nat} {x : E} (h : x ∈ (fullR n).drop k) : (k : Int) ≤ x.1 ∧ x ∈ fullR n := by
 refine ⟨?_, List.mem_of_mem_drop h⟩
 obtain ⟨i, hi, rfl⟩ := List.mem_iff_getElem.1 h
 rw [List.getElem_drop]
 unfold fullR fullE
 rw [List.getElem_map, List.getElem_range]
 dsimp only
 omega
theorem row_drop {l : EL} (h : Exts.Row l) (k : Nat) : Exts.Row (l.drop k) := by
 have := h
 rw [← List.take_append_drop k l] at this
 exact (Exts.row_append_iff.1 this).2.1
theorem fits_mk {a b : Int} {l : EL} (h0 : 0 ≤ a) (hab : a ≤ b) (hb : b ≤ 2048) (hr : Exts.Row l) (hl : ∀ y ∈ l, a ≤ y.1 ∧ Exts.fin y ≤ b) : fitsT a b l = true := by
 unfold fitsT
 rw [decide_eq_true h0, decide_eq_true hab, decide_eq_true hb, Exts.check_row.2 hr]
 simp only [Bool.true_and, Bool.or_eq_true, Bool.and_eq_true, decide_eq_true_eq, beq_iff_eq]
 cases l with
 | nil => exact .inl rfl
 | cons x l =>
  right
  refine ⟨(hl x (by simp)).1, ?_⟩
  rcases (Exts.endR_top hr).2 with ⟨h, -⟩ | ⟨y, hy, e⟩
  ·cases h
  ·rw [← e]; exact (hl y hy).2
theorem repl_nil {l : EL} {a b : Int} (hf : fitsT a b l = true) (hne : a ≠ b) : replT [] a b l = l := by
 obtain ⟨h1, h2, h3, h4, h5⟩ := fits_spec hf
 rw [repl_eq (row := []) trivial h1 h2 h3 hne]
 simp [Exts.changeR, Exts.parts]
theorem repl_halves {n : Nat} (hn : 1000 ≤ n) (h : n ≤ 2048) (hf : fitsT 0 1000 ((fullR n).take 1000) = true) : replT ((fullR n).drop 1000) 0 1000 ((fullR n).take 1000) = fullR n := by
 have hr := row_drop (fullR_row n h) 1000
 rw [repl_eq hr (by omega) (by omega) (by omega) (by omega)]
 unfold Exts.changeR
 rw [Exts.parts_none _ 0 0 (by omega), Exts.parts_behind (fun y hy => hr.may y hy) (fun y hy => by have := (fullR_drop hy).1; omega), List.nil_append, List.take_append_drop]
set_option maxRecDepth 100000 in
theorem world_none {L : List ByteArray} (hL : L.length = 4096) : WorldOk (List.replicate 4096 false) L 0 [] [] [] := by
 have hok : RootOk 0 [] := ⟨by omega, by omega, by simp, (fun h => by omega), rfl⟩
 refine ⟨?_, hL, List.length_replicate, fun b hb => ?_, (fun b _ => rfl), (fun b h => by cases h), (fun X hX => by cases hX)⟩
 ·rw [show ((0 : Nat) : Int) = 0 from rfl, walkT_zero _ _ hok, if_pos ⟨rfl, rfl⟩]
 ·rw [List.getD_eq_getElem?_getD, List.getElem?_replicate, if_pos hb]
  rfl
theorem ReplW.deep {us : List Bool} {L : List ByteArray} {d : Nat} {root : EL} {v : V} {R : EL} {a b : Int} {l : EL} {s : SetR} {us1 : List Bool} {D : IL} {v' : V} (h : ReplW us L d root v R a b l s us1 D v') (hr : (replT R a b l).length ≤ 2048) : s.depth ≤ 4 ∧ (401 ≤ (replT R a b l).length → 3 ≤ s.depth) := by
 have h1 := (h.sh.many hr).1
 have h2 := h.st.depth
 refine ⟨by omega, fun hb => ?_⟩
 have h3 := chain_most _ _ _ h.sh.ch h.fed
 have h4 := h.sh.rl
 generalize (shapeT (lvls v d) (replT R a b l) 0).1.1.length = k at *
 rcases Nat.lt_or_ge k 3 with hk | hk
 ·have : (10 : Nat) ^ k ≤ 100 := by
   have := Nat.pow_le_pow_right (n := 10) (by decide) (show k ≤ 2 by omega)
   simpa using this
  have := Nat.mul_le_mul this h4
  omega
 ·omega
theorem none_world {us : List Bool} {L : List ByteArray} {d : Nat} {root : EL} {v : V} {R : EL} (h : WorldOk us L d root v R) :
  replaceT (fun _ _ k T => ((if k = 0 then 0 else 2, T), ())) ⟨L, -1⟩ d root 0 2048 [] () = (.ok ⟨0, [], [], natI (nodes v)⟩, ()) := by
 have hg := walkT_good h.walk
 have hseen := walkT_seen h.walk
 obtain ⟨-, hrow, -⟩ := walkT_okr h.walk
 have hf : fitsT 0 2048 [] = true := fits_mk (by omega) (by omega) (by omega) trivial (fun y hy => by cases hy)
 have hR : replT R 0 2048 [] = [] := by
  rw [repl_eq hrow (by omega) (by omega) (by omega) (by omega)]
  unfold Exts.changeR
  rw [Exts.parts_none _ 0 0 (by omega), Exts.parts_none _ 2048 2048 (by omega)]
  rfl
 have hsh := shape_ok [] h.old
 obtain ⟨-, m2, m3, m4⟩ := hsh.many (by simp)
 have hL0 : (shapeT (lvls v d) [] 0).1.1 = [] := List.eq_nil_of_length_eq_zero (m4.2 (by simp))
 have hr0 : (shapeT (lvls v d) [] 0).1.2 = [] := by
  have := hsh.ch
  rw [hL0] at this
  exact this
 have hm0 : (shapeT (lvls v d) [] 0).2 = 0 := by
  rw [hL0] at m3
  simpa [total] using m3
 obtain ⟨s, v', hst⟩ := set_stands (L := L) (v := v) (row := []) (LV := []) (root := []) (m := 0) (T := [0]) ⟨h.len, hg, fun x hx => rd_old (hseen x hx), trivial, rfl, (fun X hX => by cases hX), (fun X hX => by cases hX), by omega, ⟨by simp, fun i h1 h2 => by simp at h2; omega⟩, by simp, by simp, fun h => absurd rfl h, fun i => by simp, fun i j hij n hn => by simp at hn, fun i n hn => by simp at hn⟩
 have hs : s = ⟨0, [], [], natI (nodes v)⟩ := by
  have e1 := hst.depth
  have e2 := hst.root
  have e3 := hst.freed
  have e4 : s.changes = [] := by
   cases hc : s.changes with
   | nil => rfl
   | cons x C =>
    obtain ⟨i, n, hn, -⟩ := hst.chg x (by rw [hc]; simp)
    simp at hn
  have e5 : ∀ b, has v' b = false := fun b => by
   rw [← Bool.not_eq_true]
   intro hb
   obtain ⟨i, n, hn, -⟩ := (hst.nds b).1 hb
   simp at hn
  rw [List.filter_eq_self.2 (fun b _ => by rw [e5 b]; rfl)] at e3
  obtain ⟨sd, sr, sc, sf⟩ := s
  dsimp only at e1 e2 e3 e4
  rw [e1, e2, e3, e4]
  rfl
 unfold replaceT
 rw [if_neg (by rw [hf]; decide), h.walk]
 dsimp only
 have hmt : meets v [] = false := meets_mk (fun b _ => rfl)
 rw [hR, if_neg (by rw [hmt]; decide)]
 have hpick : pick (lvls v d) [] = (([], []), 0) := by
  unfold pick
  rw [if_neg (by rw [hL0]; simp)]
  exact Prod.ext (Prod.ext hL0 hr0) hm0
 have hkn : known v (lvls v d) [] = [] := by
  unfold known
  rw [if_neg (by rw [hL0]; simp)]
 unfold replaceV
 rw [Int.toNat_natCast, hpick, hkn]
 dsimp only
 have e : (if 0 + 1 - (([] : IL).length + 1) = 0 then (0 : Int) else 2) = 0 := if_pos rfl
 rw [if_pos e, hst.set, hs]
end Go.Proofs.YtgjmeeiejcbjfaaGreat.Forks
namespace Go.Proofs.YtgjmeeiejcbjfaaGreat
open Go.Lib (hid)
open Go Go.RowKit
section
variable {W D U : Nat} {us : List Bool} {L : List ByteArray} {d : Int} {rv lv : Value} {root l : EL} {w wz wy w' : World} {B : Nat}
theorem OnlyW.keepT {T : TypeId} (h : OnlyW W D U w w') (ha : WorldAt B w W D U us L d rv root) (h1 : T ≠ 79) (h2 : T ≠ 9) (h3 : T ≠ 4) : KeepT T w w' := by
 intro b cs fr hb
 rw [h.block b (lt_of_block hb) ?_ ?_ ?_]
 ·exact hb
 ·rintro rfl
  have := ha.blk
  unfold WBlk at this
  rw [this] at hb
  injection hb with hb
  injection hb with _ hb
  exact h1 hb.symm
 ·rintro rfl
  obtain ⟨fr', hd, -⟩ := ha.row
  rw [hd] at hb
  injection hb with hb
  injection hb with _ hb
  exact h2 hb.symm
 ·rintro rfl
  have := ha.use
  unfold UBlk at this
  rw [this] at hb
  injection hb with hb
  injection hb with _ hb
  exact h3 hb.symm
structure WB (w : World) (W D U : Nat) (us : List Bool) (L : List ByteArray) (d : Int) (rv : Value) (root : EL) (lv : Value) (l : EL) (wz : World) : Prop where
 wa : WorldAt w.heap.size wz W D U us L d rv root
 ls : OwnExts w.heap.size wz lv l
 bel : Below w.heap.size w wz
theorem WB.below (h : WB w W D U us L d rv root lv l wz) (hb : Below wz.heap.size wz wy) : WB w W D U us L d rv root lv l wy :=
 ⟨h.wa.below hb, h.ls.below hb, h.bel.trans (hb.mono h.bel.size)⟩
theorem WB.keep (h : WB w W D U us L d rv root lv l wz) (hk : ∀ T, T ≠ 58 → KeepT T wz wy) (hb : Below w.heap.size wz wy) : WB w W D U us L d rv root lv l wy :=
 ⟨⟨hk _ (by decide) _ _ _ h.wa.blk, h.wa.row.keepT (hk _ (by decide)), hk _ (by decide) _ _ _ h.wa.use, own_keepT h.wa.root (hk _ (by decide)), h.wa.loW, h.wa.loD, h.wa.loU, h.wa.neD, h.wa.neU, h.wa.neDU⟩, own_keepT h.ls (hk _ (by decide)), h.bel.trans hb⟩
theorem WB.readP (h : WB w W D U us L d rv root lv l wz) (hL : L.length = 4096) (bad : Int) (P : Nat) (hP : wz.heap.size = P) (wy : World) (hw : wy = (wz.alloc (.cells #[.slice (some ⟨D, 0, none⟩) 4096 4096] 40)).alloc (.cells #[.int .i64 bad] 3)) :
  WB w W D U us L d rv root lv l wy ∧ DiskAt wy.heap.size wy (RDV P (P + 1)) ⟨L, bad⟩ := by
 subst hw
 subst hP
 have h0 := heap_alloc_new wz (.cells #[.slice (some ⟨D, 0, none⟩) 4096 4096] 40)
 have h1 := heap_alloc_new (wz.alloc (.cells #[.slice (some ⟨D, 0, none⟩) 4096 4096] 40)) (.cells #[.int .i64 bad] 3)
 rw [asz] at h1
 have bA : Below wz.heap.size wz ((wz.alloc (.cells #[.slice (some ⟨D, 0, none⟩) 4096 4096] 40)).alloc (.cells #[.int .i64 bad] 3)) := ((Below.refl _ _).alloc (Nat.le_refl _) _).alloc (by simp) _
 have hb := h.below bA
 refine ⟨hb, wz.heap.size, wz.heap.size + 1, D, 4096, rfl, by simp; omega, by simp, hb.wa.row.lt, by dsimp only; omega, ?_, cell_of_row _ _ 0 _ _ _ h1, fun k s hk => hb.wa.row.cellAt k (by rw [List.getElem?_map, hk]; rfl)⟩
 rw [cell_of_row _ _ 0 _ _ _ (heap_alloc_at h0 _)]
 dsimp only
 rw [hL]
 rfl
set_option maxRecDepth 100000 in
theorem WB.rep (h : WB w W D U us L d rv root lv l wz) (hu : us.length = 4096) (hs : SmallsE root) (hl : root.length ≤ 1000000000) (hd : -9223372036854775808 ≤ d ∧ d ≤ 9223372036854775807) (P : Nat) (dk : Forks.Disk) (hdk : DiskAt wz.heap.size wz (RDV P (P + 1)) dk) (hds : ∀ b s, dk.rd b = some s → s.size ≤ 140737488351232)
  (a b : Int) (ha : -9223372036854775808 ≤ a ∧ a ≤ 9223372036854775807) (hb : -9223372036854775808 ≤ b ∧ b ≤ 9223372036854775807) (xv : Value) (x : EL) (hsx : SmallsE x) (hX : ExtsAt wz xv x) (hlx : x.length ≤ 100000)
  (r : Except Int Forks.SetR × List Bool) (hr : Forks.replaceT (Forks.askW us) dk d root a b x us = r) :
  Calls Tryz.prog 28 #[.agg #[.int .i64 d, rv], RDV P (P + 1), .int .i64 a, .int .i64 b, xv, .func (.func 32) #[.pointer (some ⟨W, 0, none⟩)] #[]] wz fun e w' =>
   WB w W D U r.2 L d rv root lv l w' ∧ OnlyM U wz w' ∧ ∃ a1 a2 a3 c1 c2 c3, e = .returned (.tuple #[.agg #[.int .i64 (repD r.1), .slice a1 (repR r.1).length c1, .slice a2 (repC r.1).length c2, .slice a3 (repF r.1).length c3], .int .i64 (repE r.1)]) ∧ RepAt wz.heap.size w' r.1 a1 a2 a3 c1 c2 c3 := by
 subst hr
 refine (replace_any wz ((worldFn W U wz.heap.size (lt_of_block h.wa.blk) (lt_of_block h.wa.use)).ask us (Nat.zero_le _)) (h.wa.fr hu) (.inl ⟨_, _, rfl⟩) P (P + 1) dk d rv root hs (OwnEnts.ents h.wa.root).ext hl hd hdk hds a b ha hb xv x hsx hX hlx).mono ?_
 intro e w' h'
 obtain ⟨h1, h2, h3⟩ := rep_flat h'
 have hk : ∀ {T : TypeId}, T ≠ 4 → KeepT T wz w' := fun hT => h2.keepS h.wa.use hT
 refine ⟨⟨⟨hk (by decide) _ _ _ h.wa.blk, h.wa.row.keepT (hk (by decide)), h1.2.2.1, own_keepT h.wa.root (hk (by decide)), h.wa.loW, h.wa.loD, h.wa.loU, h.wa.neD, h.wa.neU, h.wa.neDU⟩, own_keepT h.ls (hk (by decide)), h.bel.trans (h2.below h.bel.size h.wa.loU)⟩, h2, h3⟩
theorem wb_new {Bz : Nat} {r : Except Int Forks.SetR} {a1 a2 a3 : Option Addr} {c1 c2 c3 : Nat} (h : WB w W D U us L d rv root lv l wz) (hr : RepAt Bz wz r a1 a2 a3 c1 c2 c3) (hB : w.heap.size ≤ Bz) (wt : World) (hwt : wz.alloc (.cells #[.int .i64 (repD r), .slice a1 (repR r).length c1, .slice a2 (repC r).length c2, .slice a3 (repF r).length c3] 58) = wt) :
  WB w W D U us L d rv root lv l wt ∧ SetRow wt wz.heap.size r a1 a2 a3 c1 c2 c3 ∧ RepAt w.heap.size wt r a1 a2 a3 c1 c2 c3 := by
 subst hwt
 have hb : Below wz.heap.size wz (wz.alloc (.cells #[.int .i64 (repD r), .slice a1 (repR r).length c1, .slice a2 (repC r).length c2, .slice a3 (repF r).length c3] 58)) := (Below.refl _ _).alloc (Nat.le_refl _) _
 exact ⟨h.below hb, heap_alloc_new _ _, (hr.mono hB).below hb⟩
theorem wb_put {Bz X : Nat} {r : Except Int Forks.SetR} {a1 a2 a3 : Option Addr} {c1 c2 c3 : Nat} {x y z u : Value} (h : WB w W D U us L d rv root lv l wz) (hX : wz.heap[X]? = some (.cells #[x, y, z, u] 58 (0, 0))) (hlo : w.heap.size ≤ X) (hr : RepAt Bz wz r a1 a2 a3 c1 c2 c3) (hB : w.heap.size ≤ Bz)
  (wt : World) (hwt : Go.Proofs.YtgjmeeiejcbjfaaGreat.put4 wz X (.int .i64 (repD r)) (.slice a1 (repR r).length c1) (.slice a2 (repC r).length c2) (.slice a3 (repF r).length c3) = wt) :
  WB w W D U us L d rv root lv l wt ∧ SetRow wt X r a1 a2 a3 c1 c2 c3 ∧ RepAt w.heap.size wt r a1 a2 a3 c1 c2 c3 := by
 subst hwt
 obtain ⟨h1, h2⟩ := put4_block (a := .int .i64 (repD r)) (b := .slice a1 (repR r).length c1) (c := .slice a2 (repC r).length c2) (d := .slice a3 (repF r).length c3) hX
 exact ⟨h.keep h2 (put4_below wz _ _ _ _ hlo), h1, (hr.mono hB).keep h2⟩
set_option maxRecDepth 100000 in
theorem WB.put {s : Forks.SetR} {a1 a2 a3 : Option Addr} {c1 c2 c3 : Nat} (h : WB w W D U us L d rv root lv l wz) (hr : RepAt w.heap.size wz (.ok s) a1 a2 a3 c1 c2 c3) (hL : L.length = 4096) (hu : us.length = 4096) (hC : ∀ x ∈ s.changes, 0 ≤ x.1 ∧ x.1 < 4096) (hF : ∀ x ∈ s.freed, 0 ≤ x ∧ x < 4096) (hCl : s.changes.length ≤ 4096) (hFl : s.freed.length ≤ 4096) :
  Calls Tryz.prog 33 #[.pointer (some ⟨W, 0, none⟩), .agg #[.int .i64 s.depth, .slice a1 s.root.length c1, .slice a2 s.changes.length c2, .slice a3 s.freed.length c3]] wz fun e w' => e = .returned (.tuple #[]) ∧ WB w W D U (Forks.freeT s.freed us) (Forks.putC s.changes L) s.depth (.slice a1 s.root.length c1) s.root lv l w' ∧ KeepT 58 wz w' := by
 refine (put_any h.wa h.bel.size hr.root hr.chgs hr.free hL hu hC hF (Nat.le_trans hCl (by decide)) (Nat.le_trans hFl (by decide))).mono ?_
 rintro e w' ⟨rfl, h1, h2⟩
 exact ⟨rfl, ⟨h1, own_keepT h.ls (h2.keepT h.wa (by decide) (by decide) (by decide)), h.bel.trans (h2.below h.bel.size h.wa.loW h.wa.loD h.wa.loU)⟩, h2.keepT h.wa (by decide) (by decide) (by decide)⟩
set_option maxRecDepth 100000 in
theorem WB.repOk (h : WB w W D U us L d rv root lv l wz) (hu : us.length = 4096) (hs : SmallsE root) (hl : root.length ≤ 1000000000) (hd : -9223372036854775808 ≤ d ∧ d ≤ 9223372036854775807) (P : Nat) (dk : Forks.Disk) (hdk : DiskAt wz.heap.size wz (RDV P (P + 1)) dk) (hds : ∀ b s, dk.rd b = some s → s.size ≤ 140737488351232)
  (a b : Int) (ha : -9223372036854775808 ≤ a ∧ a ≤ 9223372036854775807) (hb : -9223372036854775808 ≤ b ∧ b ≤ 9223372036854775807) (xv : Value) (x : EL) (hsx : SmallsE x) (hX : ExtsAt wz xv x) (hlx : x.length ≤ 100000)
  (s : Forks.SetR) (us1 : List Bool) (hr : Forks.replaceT (Forks.askW us) dk d root a b x us = (.ok s, us1)) :
  Calls Tryz.prog 28 #[.agg #[.int .i64 d, rv], RDV P (P + 1), .int .i64 a, .int .i64 b, xv, .func (.func 32) #[.pointer (some ⟨W, 0, none⟩)] #[]] wz fun e w' =>
   WB w W D U us1 L d rv root lv l w' ∧ OnlyM U wz w' ∧ ∃ a1 a2 a3 c1 c2 c3, e = .returned (.tuple #[.agg #[.int .i64 s.depth, .slice a1 s.root.length c1, .slice a2 s.changes.length c2, .slice a3 s.freed.length c3], .int .i64 0]) ∧ RepAt wz.heap.size w' (.ok s) a1 a2 a3 c1 c2 c3 :=
 (h.rep hu hs hl hd P dk hdk hds a b ha hb xv x hsx hX hlx _ hr).mono (fun e w' h' => h')
theorem wbo_new {Bz : Nat} {s : Forks.SetR} {a1 a2 a3 : Option Addr} {c1 c2 c3 : Nat} (h : WB w W D U us L d rv root lv l wz) (hr : RepAt Bz wz (.ok s) a1 a2 a3 c1 c2 c3) (hB : w.heap.size ≤ Bz) (wt : World) (hwt : wz.alloc (.cells #[.int .i64 s.depth, .slice a1 s.root.length c1, .slice a2 s.changes.length c2, .slice a3 s.freed.length c3] 58) = wt) :
  WB w W D U us L d rv root lv l wt ∧ wt.heap[wz.heap.size]? = some (.cells #[.int .i64 s.depth, .slice a1 s.root.length c1, .slice a2 s.changes.length c2, .slice a3 s.freed.length c3] 58 (0, 0)) ∧ RepAt w.heap.size wt (.ok s) a1 a2 a3 c1 c2 c3 := wb_new h hr hB wt hwt
theorem wbo_put {Bz X : Nat} {s : Forks.SetR} {a1 a2 a3 : Option Addr} {c1 c2 c3 : Nat} {x y z u : Value} (h : WB w W D U us L d rv root lv l wz) (hX : wz.heap[X]? = some (.cells #[x, y, z, u] 58 (0, 0))) (hlo : w.heap.size ≤ X) (hr : RepAt Bz wz (.ok s) a1 a2 a3 c1 c2 c3) (hB : w.heap.size ≤ Bz)
  (wt : World) (hwt : Go.Proofs.YtgjmeeiejcbjfaaGreat.put4 wz X (.int .i64 s.depth) (.slice a1 s.root.length c1) (.slice a2 s.changes.length c2) (.slice a3 s.freed.length c3) = wt) :
  WB w W D U us L d rv root lv l wt ∧ wt.heap[X]? = some (.cells #[.int .i64 s.depth, .slice a1 s.root.length c1, .slice a2 s.changes.length c2, .slice a3 s.freed.length c3] 58 (0, 0)) ∧ RepAt w.heap.size wt (.ok s) a1 a2 a3 c1 c2 c3 := wb_put h hX hlo hr hB wt hwt
end
theorem WorldAt.mono {B B' W D U : Nat} {us : List Bool} {L : List ByteArray} {d : Int} {rv : Value} {root : EL} {w : World} (h : WorldAt B w W D U us L d rv root) (hB : B' ≤ B) : WorldAt B' w W D U us L d rv root :=
 ⟨h.blk, h.row, h.use, World.ownsRow.mono h.root hB, Nat.le_trans hB h.loW, Nat.le_trans hB h.loD, Nat.le_trans hB h.loU, h.neD, h.neU, h.neDU⟩
theorem own_cap {B n sz c : Nat} {T : TypeId} {a : Option Addr} {w : World} {xs : List Value} (h : w.ownsRow B T sz (.slice a n c) n xs) : n ≤ c := by
 rcases h.2 with ⟨h1, h2⟩ | ⟨g, cap, cur, h1, _, _, h2, _⟩
 ·cases h1; omega
 ·cases h1; exact h2
theorem rootOk_small {d : Int} {root : EL} (h : Forks.RootOk d root) : SmallsE root := fun x hx => by
 have := Ents.may_fits (h.2.2.2.2.may x hx)
 unfold Ents.Fits at this
 unfold SmallE
 omega
theorem small_put {C : CL} {L : List ByteArray} (hL : ∀ s ∈ L, s.size ≤ 140737488351232) (hC : ∀ x ∈ C, x.2.size = 128) : ∀ s ∈ Forks.putC C L, s.size ≤ 140737488351232 := fun s hs => by
 rcases fold_putD_mem C L s hs with h | ⟨x, hx, rfl⟩
 ·exact hL s h
 ·have := hC x hx
  omega
theorem rd_small {L : List ByteArray} (hL : ∀ s ∈ L, s.size ≤ 140737488351232) (b : Nat) (s : ByteArray) (h : (⟨L, -1⟩ : Forks.Disk).rd b = some s) : s.size ≤ 140737488351232 := by
 rw [Forks.rd_new] at h
 exact hL s (List.mem_of_getElem? h)
theorem ExtsAt.dropAt {w : World} {g off n c : Nat} {l : EL} (h : ExtsAt w (.slice (some ⟨g, off, none⟩) n c) l) (k c' : Nat) (hk : k ≤ l.length) : ExtsAt w (.slice (some ⟨g, off + k * 3, none⟩) (n - k) c') (l.drop k) := by
 rcases h with ⟨h, -⟩ | ⟨b, off', cap, h, hc⟩
 ·cases h
 ·cases h
  refine .inr ⟨g, off + k * 3, c', by rw [List.length_drop], fun j u hu => ?_⟩
  have e : ecells l = ecells (l.take k) ++ ecells (l.drop k) := by rw [← ecells_append, List.take_append_drop]
  have hl : (ecells (l.take k)).length = k * 3 := by rw [ecells_length, List.length_take]; omega
  have := hc (k * 3 + j) u (by rw [e, List.getElem?_append_right (by omega), hl, Nat.add_sub_cancel_left]; exact hu)
  rwa [← Nat.add_assoc] at this
theorem ExtsAt.takeAt {w : World} {g off n c : Nat} {l : EL} (h : ExtsAt w (.slice (some ⟨g, off, none⟩) n c) l) (k c' : Nat) (hk : k ≤ l.length) : ExtsAt w (.slice (some ⟨g, off, none⟩) k c') (l.take k) := by
 rcases h with ⟨h, -⟩ | ⟨b, off', cap, h, hc⟩
 ·cases h
 ·cases h
  refine .inr ⟨g, off, c', by rw [List.length_take, Nat.min_eq_left hk], fun j u hu => hc j u ?_⟩
  have e : ecells l = ecells (l.take k) ++ ecells (l.drop k) := by rw [← ecells_append, List.take_append_drop]
  have hj := (List.getElem?_eq_some_iff.1 hu).1
  rw [e, List.getElem?_append_left hj]
  exact hu
end Go.Proofs.YtgjmeeiejcbjfaaGreat
namespace Go.Proofs.YtgjmeeiejcbjfaaGreat
open Go.Lib (hid)
open Go Go.RowKit
section
variable {W D U M : Nat} {us : List Bool} {L : List ByteArray} {d : Nat} {rv lv nv ov : Value} {root l R : EL} {O : IL} {w wz wy w' : World} {cs : Array Value}
structure WN (w : World) (W D U : Nat) (us : List Bool) (L : List ByteArray) (d : Int) (rv : Value) (root : EL) (lv : Value) (l : EL) (nv : Value) (R : EL) (ov : Value) (O : IL) (wz : World) : Prop where
 wb : WB w W D U us L d rv root lv l wz
 now : OwnExts w.heap.size wz nv R
 nod : OwnInts w.heap.size wz ov O
theorem WN.below {d : Int} (h : WN w W D U us L d rv root lv l nv R ov O wz) (hb : Below wz.heap.size wz wy) : WN w W D U us L d rv root lv l nv R ov O wy := ⟨h.wb.below hb, h.now.below hb, h.nod.below hb⟩
theorem WN.keep {d : Int} (h : WN w W D U us L d rv root lv l nv R ov O wz) (hk : ∀ T, T ≠ 58 → KeepT T wz wy) (hb : Below w.heap.size wz wy) : WN w W D U us L d rv root lv l nv R ov O wy := ⟨h.wb.keep hk hb, own_keepT h.now (hk _ (by decide)), own_keepT h.nod (hk _ (by decide))⟩
structure WNX (w : World) (W D U M : Nat) (us : List Bool) (L : List ByteArray) (d : Int) (rv : Value) (root : EL) (lv : Value) (l : EL) (nv : Value) (R : EL) (ov : Value) (O : IL) (cs : Array Value) (wz : World) : Prop where
 wn : WN w W D U us L d rv root lv l nv R ov O wz
 st : wz.heap[M]? = some (.cells cs 58 (0, 0))
theorem WNX.below {d : Int} (h : WNX w W D U M us L d rv root lv l nv R ov O cs wz) (hb : Below wz.heap.size wz wy) : WNX w W D U M us L d rv root lv l nv R ov O cs wy := ⟨h.wn.below hb, (hb.block _ (lt_of_block h.st)).trans h.st⟩
theorem WNX.bel {d : Int} (h : WNX w W D U M us L d rv root lv l nv R ov O cs wz) : Below w.heap.size w wz := h.wn.wb.bel
theorem WNX.wa {d : Int} (h : WNX w W D U M us L d rv root lv l nv R ov O cs wz) : WorldAt w.heap.size wz W D U us L d rv root := h.wn.wb.wa
theorem WNX.readP {d : Int} (h : WNX w W D U M us L d rv root lv l nv R ov O cs wz) (hL : L.length = 4096) (bad : Int) (P : Nat) (hP : wz.heap.size = P) (wy : World) (hw : wy = (wz.alloc (.cells #[.slice (some ⟨D, 0, none⟩) 4096 4096] 40)).alloc (.cells #[.int .i64 bad] 3)) :
  WNX w W D U M us L d rv root lv l nv R ov O cs wy ∧ DiskAt wy.heap.size wy (RDV P (P + 1)) ⟨L, bad⟩ :=
 ⟨h.below ((read_below hw).mono (Nat.le_refl _)), (h.wn.wb.readP hL bad P hP wy hw).2⟩
theorem wn_new {Bz : Nat} {d : Int} {r : Except Int Forks.SetR} {a1 a2 a3 : Option Addr} {c1 c2 c3 : Nat} (h : WN w W D U us L d rv root lv l nv R ov O wz) (hr : RepAt Bz wz r a1 a2 a3 c1 c2 c3) (hB : w.heap.size ≤ Bz) (wt : World) (hwt : wz.alloc (.cells #[.int .i64 (repD r), .slice a1 (repR r).length c1, .slice a2 (repC r).length c2, .slice a3 (repF r).length c3] 58) = wt) :
  WN w W D U us L d rv root lv l nv R ov O wt ∧ SetRow wt wz.heap.size r a1 a2 a3 c1 c2 c3 ∧ RepAt w.heap.size wt r a1 a2 a3 c1 c2 c3 := by
 subst hwt
 have hb : Below wz.heap.size wz (wz.alloc (.cells #[.int .i64 (repD r), .slice a1 (repR r).length c1, .slice a2 (repC r).length c2, .slice a3 (repF r).length c3] 58)) := (Below.refl _ _).alloc (Nat.le_refl _) _
 exact ⟨h.below hb, heap_alloc_new _ _, (hr.mono hB).below hb⟩
theorem wn_put {Bz X : Nat} {d : Int} {r : Except Int Forks.SetR} {a1 a2 a3 : Option Addr} {c1 c2 c3 : Nat} {x y z u : Value} (h : WN w W D U us L d rv root lv l nv R ov O wz) (hX : wz.heap[X]? = some (.cells #[x, y, z, u] 58 (0, 0))) (hlo : w.heap.size ≤ X) (hr : RepAt Bz wz r a1 a2 a3 c1 c2 c3) (hB : w.heap.size ≤ Bz)
  (wt : World) (hwt : Go.Proofs.YtgjmeeiejcbjfaaGreat.put4 wz X (.int .i64 (repD r)) (.slice a1 (repR r).length c1) (.slice a2 (repC r).length c2) (.slice a3 (repF r).length c3) = wt) :
  WN w W D U us L d rv root lv l nv R ov O wt ∧ SetRow wt X r a1 a2 a3 c1 c2 c3 ∧ RepAt w.heap.size wt r a1 a2 a3 c1 c2 c3 := by
 subst hwt
 obtain ⟨h1, h2⟩ := put4_block (a := .int .i64 (repD r)) (b := .slice a1 (repR r).length c1) (c := .slice a2 (repC r).length c2) (d := .slice a3 (repF r).length c3) hX
 exact ⟨h.keep h2 (put4_below wz _ _ _ _ hlo), h1, (hr.mono hB).keep h2⟩
theorem wno_new {Bz m : Nat} {d : Int} {a1 a2 a3 : Option Addr} {c1 c2 c3 : Nat} (hm : O.length = m) (h : WN w W D U us L d rv root lv l nv R ov O wz) (hr : RepAt Bz wz (.ok ⟨0, [], [], O⟩) a1 a2 a3 c1 c2 c3) (hB : w.heap.size ≤ Bz) (wt : World) (hwt : wz.alloc (.cells #[.int .i64 0, .slice a1 0 c1, .slice a2 0 c2, .slice a3 m c3] 58) = wt) :
  WN w W D U us L d rv root lv l nv R ov O wt ∧ wt.heap[wz.heap.size]? = some (.cells #[.int .i64 0, .slice a1 0 c1, .slice a2 0 c2, .slice a3 m c3] 58 (0, 0)) ∧ RepAt w.heap.size wt (.ok ⟨0, [], [], O⟩) a1 a2 a3 c1 c2 c3 := by
 subst hm
 exact wn_new h hr hB wt hwt
theorem wno_put {Bz X m : Nat} {d : Int} {a1 a2 a3 : Option Addr} {c1 c2 c3 : Nat} {x y z u : Value} (hm : O.length = m) (h : WN w W D U us L d rv root lv l nv R ov O wz) (hX : wz.heap[X]? = some (.cells #[x, y, z, u] 58 (0, 0))) (hlo : w.heap.size ≤ X) (hr : RepAt Bz wz (.ok ⟨0, [], [], O⟩) a1 a2 a3 c1 c2 c3) (hB : w.heap.size ≤ Bz)
  (wt : World) (hwt : Go.Proofs.YtgjmeeiejcbjfaaGreat.put4 wz X (.int .i64 0) (.slice a1 0 c1) (.slice a2 0 c2) (.slice a3 m c3) = wt) :
  WN w W D U us L d rv root lv l nv R ov O wt ∧ wt.heap[X]? = some (.cells #[.int .i64 0, .slice a1 0 c1, .slice a2 0 c2, .slice a3 m c3] 58 (0, 0)) ∧ RepAt w.heap.size wt (.ok ⟨0, [], [], O⟩) a1 a2 a3 c1 c2 c3 := by
 subst hm
 exact wn_put h hX hlo hr hB wt hwt
set_option maxRecDepth 100000 in
theorem WB.walk {k m : Nat} (h : WB w W D U us L d rv root lv l wz) (hs : SmallsE root) (hl : root.length ≤ 1000000000) (hd : d ≤ 4) (P : Nat) (hdk : DiskAt wz.heap.size wz (RDV P (P + 1)) ⟨L, -1⟩) (hds : ∀ b s, (⟨L, -1⟩ : Forks.Disk).rd b = some s → s.size ≤ 140737488351232) (v : Forks.V) (R : EL) (hw : Forks.walkT ⟨L, -1⟩ d root = .ok (v, R)) (hk : R.length = k) (hm : (natI (Forks.nodes v)).length = m) :
  Calls Tryz.prog 19 #[.agg #[.int .i64 (d : Int), rv], RDV P (P + 1)] wz fun e w' => Below wz.heap.size wz w' ∧ ∃ a1 c1 a2 c2, e = .returned (.tuple #[.slice a1 k c1, .slice a2 m c2, .int .i64 0]) ∧ WN w W D U us L d rv root lv l (.slice a1 k c1) R (.slice a2 m c2) (natI (Forks.nodes v)) w' := by
 subst hk
 subst hm
 refine (Walk_any P (P + 1) ⟨L, -1⟩ d rv root hs (OwnEnts.ents h.wa.root).ext hl (by omega) hdk hds).mono ?_
 intro e w' h'
 rw [hw] at h'
 obtain ⟨h1, a1, c1, a2, c2, rfl, o1, o2⟩ := WalkTold.flat h'
 exact ⟨h1, a1, c1, a2, c2, rfl, h.below h1, World.ownsRow.mono o1 h.bel.size, World.ownsRow.mono o2 h.bel.size⟩
set_option maxRecDepth 100000 in
theorem WNX.repNone {m : Nat} {v : Forks.V} {R' : EL} (h : WNX w W D U M us L d rv root lv l nv R ov (natI (Forks.nodes v)) cs wz) (hlo : w.heap.size ≤ M) (hW : Forks.WorldOk us L d root v R') (hs : SmallsE root) (hl : root.length ≤ 1000000000) (hd : d ≤ 4) (P : Nat) (hdk : DiskAt wz.heap.size wz (RDV P (P + 1)) ⟨L, -1⟩) (hds : ∀ b s, (⟨L, -1⟩ : Forks.Disk).rd b = some s → s.size ≤ 140737488351232) (hm : (natI (Forks.nodes v)).length = m) :
  Calls Tryz.prog 28 #[.agg #[.int .i64 (d : Int), rv], RDV P (P + 1), .int .i64 0, .int .i64 2048, .slice none 0 0, .nilFunc] wz fun e w' => WN w W D U us L d rv root lv l nv R ov (natI (Forks.nodes v)) w' ∧ OnlyM M wz w' ∧ ∃ a1 a2 a3 c1 c2 c3, e = .returned (.tuple #[.agg #[.int .i64 0, .slice a1 0 c1, .slice a2 0 c2, .slice a3 m c3], .int .i64 0]) ∧ RepAt wz.heap.size w' (.ok ⟨0, [], [], natI (Forks.nodes v)⟩) a1 a2 a3 c1 c2 c3 := by
 subst hm
 have hr := Forks.none_world hW
 refine (replace_any wz (nilAsk wz.heap.size M (lt_of_block h.st)) trivial (.inr rfl) P (P + 1) ⟨L, -1⟩ d rv root hs (OwnEnts.ents h.wa.root).ext hl (by omega) hdk hds 0 2048 (by omega) (by omega) (.slice none 0 0) [] (fun x hx => by cases hx) (.inl ⟨rfl, rfl⟩) (by simp)).mono ?_
 intro e w' h'
 rw [hr] at h'
 obtain ⟨h1, h2, h3⟩ := rep_flat h'
 exact ⟨h.wn.keep (fun T hT => h2.keepS h.st hT) (h2.below h.bel.size hlo), h2, h3⟩
end
end Go.Proofs.YtgjmeeiejcbjfaaGreat
