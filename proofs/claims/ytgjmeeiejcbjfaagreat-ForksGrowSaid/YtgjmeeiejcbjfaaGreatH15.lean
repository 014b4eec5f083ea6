/- Nodes in memory: lists, parts, levels; Clone, parted. -/
import Derived.Test.YtgjmeeiejcbjfaaGreatH07
import Derived.Test.YtgjmeeiejcbjfaaGreatH12
import Derived.Test.YtgjmeeiejcbjfaaGreatH05
import Derived.Test.YtgjmeeiejcbjfaaGreatH14
set_option linter.unusedSimpArgs false
set_option linter.unusedVariables false
namespace Go.Proofs.YtgjmeeiejcbjfaaGreat
open Go.Lib (hid)
open Go Go.RowKit
def KeepT (T : TypeId) (w w' : World) : Prop := ∀ (b : Nat) cs fr, w.heap[b]? = some (.cells cs T fr) → w'.heap[b]? = some (.cells cs T fr)
theorem KeepT.refl (T : TypeId) (w : World) : KeepT T w w := fun _ _ _ h => h
theorem KeepT.trans {T : TypeId} {a b c : World} (h1 : KeepT T a b) (h2 : KeepT T b c) : KeepT T a c := fun k cs fr h => h2 k cs fr (h1 k cs fr h)
theorem KeepT.of_below {T : TypeId} {w w' : World} (h : Below w.heap.size w w') : KeepT T w w' := fun b cs fr hb => by rw [h.block b (lt_of_block hb)]; exact hb
def NodesT (w : World) (v : Value) (L : List Node) : Prop :=
 (v = .slice none 0 0 ∧ L = []) ∨ ∃ (b off cap : Nat) (arr : Array Value) (fr : Nat × Nat) (cs : List Value), v = .slice (some ⟨b, off, none⟩) L.length cap ∧ L.length ≤ cap ∧ w.heap[b]? = some (.cells arr 131 fr) ∧ (∀ j u, cs[j]? = some u → arr[off + j]? = some u) ∧ NodeCells w cs L
theorem NodesT.nodes {w : World} {v : Value} {L : List Node} (h : NodesT w v L) : NodesAt w v L := by
 rcases h with h | ⟨b, off, cap, arr, fr, cs, rfl, _, hb, hc, hn⟩
 ·exact .inl h
 ·exact .inr ⟨b, off, cap, cs, rfl, fun j u hu => by rw [cell_of_row w b (off + j) _ _ _ hb]; exact hc j u hu, hn⟩
theorem NodesT.keep {w w' : World} {v : Value} {L : List Node} (h : NodesT w v L) (h1 : KeepT 131 w w') (h2 : KeepE w w') : NodesT w' v L := by
 rcases h with h | ⟨b, off, cap, arr, fr, cs, rfl, hcap, hb, hc, hn⟩
 ·exact .inl h
 ·exact .inr ⟨b, off, cap, arr, fr, cs, rfl, hcap, h1 _ _ _ hb, hc, hn.keep h2⟩
theorem NodesT.below {w w' : World} {v : Value} {L : List Node} (h : NodesT w v L) (hb : Below w.heap.size w w') : NodesT w' v L := h.keep (.of_below hb) (.of_below hb)
theorem NodesT.form {w : World} {v : Value} {L : List Node} (h : NodesT w v L) : ∃ ad cap, v = .slice ad L.length cap := h.nodes.form
theorem OwnNodes.typed {B : Nat} {w : World} {v : Value} {L : List Node} (h : OwnNodes B w v L) : NodesT w v L := by
 obtain ⟨cs, ho, hc⟩ := h
 rcases ho.2 with ⟨rfl, hn⟩ | ⟨g, cap, cur, rfl, hg, hh, h1, h2, h3, h4⟩
 ·exact .inl ⟨rfl, List.eq_nil_of_length_eq_zero hn⟩
 ·refine .inr ⟨g, 0, cap, cur, _, cs, rfl, h1, hh, fun j u hu => ?_, hc⟩
  have hj : j < L.length * 2 := by
   have := (List.getElem?_eq_some_iff.1 hu).1
   rwa [hc.length] at this
  rw [Nat.zero_add]
  have e : (cur.toList.take (L.length * 2))[j]? = some u := by rw [h4]; exact hu
  rw [List.getElem?_take, if_pos hj, Array.getElem?_toList] at e
  exact e
theorem NodeCells.take {w : World} : ∀ {cs : List Value} {L : List Node} (k : Nat), NodeCells w cs L → NodeCells w (cs.take (k * 2)) (L.take k)
 | [], [], k, _ => by simp [NodeCells]
 | [], _ :: _, _, h => h.elim
 | [_], _ :: _, _, h => h.elim
 | [_], [], _, h => h.elim
 | _ :: _ :: _, [], _, h => h.elim
 | _ :: _ :: _, _ :: _, 0, _ => by simp [NodeCells]
 | _ :: _ :: cs, _ :: L, k + 1, h => by
  rw [show (k + 1) * 2 = k * 2 + 1 + 1 by omega]
  exact ⟨h.1, h.2.1, NodeCells.take k h.2.2⟩
theorem NodeCells.drop {w : World} : ∀ {cs : List Value} {L : List Node} (k : Nat), NodeCells w cs L → NodeCells w (cs.drop (k * 2)) (L.drop k)
 | [], [], k, _ => by simp [NodeCells]
 | [], _ :: _, _, h => h.elim
 | [_], _ :: _, _, h => h.elim
 | [_], [], _, h => h.elim
 | _ :: _ :: _, [], _, h => h.elim
 | _ :: _ :: _, _ :: _, 0, h => h
 | _ :: _ :: cs, _ :: L, k + 1, h => by
  rw [show (k + 1) * 2 = k * 2 + 1 + 1 by omega]
  exact NodeCells.drop k h.2.2
theorem NodesT.takeS {w : World} {ad : Option Addr} {n cap : Nat} {L : List Node} (h : NodesT w (.slice ad n cap) L) (k : Nat) (hk : k ≤ L.length) : NodesT w (.slice ad k cap) (L.take k) := by
 have e : (L.take k).length = k := by rw [List.length_take]; omega
 rcases h with ⟨h, rfl⟩ | ⟨b, off, c, arr, fr, cs, h, hcap, hb, hc, hn⟩
 ·cases h
  simp at hk; subst hk
  exact .inl ⟨rfl, rfl⟩
 ·cases h
  refine .inr ⟨b, off, cap, arr, fr, cs.take (k * 2), by rw [e], by omega, hb, fun j u hu => ?_, hn.take k⟩
  rw [List.getElem?_take] at hu
  split at hu
  ·exact hc j u hu
  ·cases hu
theorem NodesT.dropS {w : World} {b off n cap : Nat} {L : List Node} (h : NodesT w (.slice (some ⟨b, off, none⟩) n cap) L) (k : Nat) (hk : k ≤ L.length) (o : Nat) (ho : o = off + k * 2 ∨ k = cap) : NodesT w (.slice (some ⟨b, o, none⟩) (L.length - k) (cap - k)) (L.drop k) := by
 have e : (L.drop k).length = L.length - k := List.length_drop
 rcases h with ⟨h, rfl⟩ | ⟨b, off, c, arr, fr, cs, h, hcap, hb, hc, hn⟩
 ·cases h
 ·cases h
  refine .inr ⟨b, o, cap - k, arr, fr, cs.drop (k * 2), by rw [e], by rw [e]; omega, hb, fun j u hu => ?_, hn.drop k⟩
  rw [List.getElem?_drop] at hu
  rcases ho with rfl | rfl
  ·have := hc _ u hu
   rwa [← Nat.add_assoc] at this
  ·have h1 := (List.getElem?_eq_some_iff.1 hu).1
   rw [hn.length] at h1
   omega
theorem EntsAt.takeS {w : World} {ad : Option Addr} {n cap cap' : Nat} {l : EL} (h : EntsAt w (.slice ad n cap) l) (k : Nat) (hk : k ≤ l.length) (hnil : ad = none → cap' = 0) : EntsAt w (.slice ad k cap') (l.take k) := by
 have e : (l.take k).length = k := by rw [List.length_take]; omega
 rcases h with ⟨h, rfl⟩ | ⟨b, off, c, cs, fr, h, hb, hc⟩
 ·cases h
  simp at hk; subst hk
  rw [hnil rfl]
  exact .inl ⟨rfl, rfl⟩
 ·cases h
  refine .inr ⟨b, off, cap', cs, fr, by rw [e], hb, fun j u hu => hc j u ?_⟩
  have e2 : ecells l = ecells (l.take k) ++ ecells (l.drop k) := by rw [← ecells_append, List.take_append_drop]
  rw [e2, List.getElem?_append_left (List.getElem?_eq_some_iff.1 hu).1]
  exact hu
theorem EntsAt.dropS {w : World} {b off n cap : Nat} {l : EL} (h : EntsAt w (.slice (some ⟨b, off, none⟩) n cap) l) (k : Nat) (hk : k ≤ l.length) (o c' : Nat) (ho : o = off + k * 3 ∨ k = l.length) : EntsAt w (.slice (some ⟨b, o, none⟩) (l.length - k) c') (l.drop k) := by
 have e : (l.drop k).length = l.length - k := List.length_drop
 rcases h with ⟨h, rfl⟩ | ⟨b, off, c, cs, fr, h, hb, hc⟩
 ·cases h
 ·cases h
  refine .inr ⟨b, o, c', cs, fr, by rw [e], hb, fun j u hu => ?_⟩
  rcases ho with rfl | rfl
  ·have e2 : ecells l = ecells (l.take k) ++ ecells (l.drop k) := by rw [← ecells_append, List.take_append_drop]
   have := hc (k * 3 + j) u (by
    rw [e2, List.getElem?_append_right (by rw [ecells_length, List.length_take]; omega), ecells_length, List.length_take, Nat.min_eq_left hk]
    rw [show k * 3 + j - k * 3 = j by omega]
    exact hu)
   rwa [← Nat.add_assoc] at this
  ·rw [List.drop_length] at hu
   simp [ecells] at hu
theorem EntsAt.one {w : World} {v : Value} {l : EL} (h : EntsAt w v l) : v.oneCell' = true := by
 rcases h with ⟨rfl, _⟩ | ⟨b, off, cap, cs, fr, rfl, _⟩ <;> rfl
theorem NodeCells.one {w : World} : ∀ {cs : List Value} {L : List Node}, NodeCells w cs L → ∀ u ∈ cs, u.oneCell' = true
 | [], [], _, u, hu => by cases hu
 | [], _ :: _, h, _, _ => h.elim
 | [_], _ :: _, h, _, _ => h.elim
 | [_], [], h, _, _ => h.elim
 | _ :: _ :: _, [], h, _, _ => h.elim
 | a :: b :: cs, _ :: _, h, u, hu => by
  rcases List.mem_cons.1 hu with rfl | hu
  ·rw [h.1]; rfl
  ·rcases List.mem_cons.1 hu with rfl | hu
   ·exact h.2.1.one
   ·exact NodeCells.one h.2.2 u hu
set_option maxHeartbeats 1000000 in
theorem cloneNodes_any (v : Value) (L : List Node) (w : World) (h : NodesT w v L) (hl : L.length ≤ 1000000000) : Calls Tryz.prog 146 #[v] w fun e w' => ∃ v', e = .returned v' ∧ OwnNodes w.heap.size w' v' L ∧ Below w.heap.size w w' := by
 obtain ⟨i0, hi0, hz0, hz1, hz2⟩ := info_parts info_node
 rcases h with ⟨rfl, rfl⟩ | ⟨b, off, cap, arr, fr, cs, rfl, hcap, hb, hc, hn⟩
 ·have hnil : ∀ w : World, (binOp .eql 128 (.slice none 0 0) (.slice none 0 0)).run Tryz.prog w = .ok (.bool true) w := fun w => Lib.run_eql_slice_nil (P := Tryz.prog) w 128 131 none 0 0 0 0 Tryz.underlying128
  go_enter Tryz.func146, Tryz.ntmps146
  go_wp2_with fail
  go_ret
  exact ⟨_, rfl, OwnNodes.nil _ _, Below.refl _ _⟩
 ·have hnil : ∀ w : World, (binOp .eql 128 (.slice (some ⟨b, off, none⟩) L.length cap) (.slice none 0 0)).run Tryz.prog w = .ok (.bool false) w := fun w => Lib.run_eql_slice_nil (P := Tryz.prog) w 128 131 (some ⟨b, off, none⟩) L.length cap 0 0 Tryz.underlying128
  have hcell : ∀ j u, cs[j]? = some u → w.cell? ⟨b, off + j, none⟩ = some u := fun j u hu => by rw [cell_of_row w b (off + j) _ _ _ hb]; exact hc j u hu
  have hnews : ∀ j u, cs[j]? = some u → (w.alloc (.cells #[] 131)).cell? ((⟨b, off, none⟩ : Addr).add j) = some u := fun j u hu => by
   have e1 : (⟨b, off, none⟩ : Addr).add j = ⟨b, off + j, none⟩ := by unfold Addr.add; split <;> simp_all
   rw [e1]
   exact Lib.cell?_alloc_some _ (hcell j u hu)
  have hown : (w.alloc (.cells #[] 131)).ownsRow w.heap.size 131 2 (.slice (some ⟨w.heap.size, 0, none⟩) 0 0) 0 [] := World.ownsRow_lit w #[] 0 (Nat.le_refl _) (Nat.zero_le _) rfl
  have hone : ∀ u ∈ cs, u.oneCell' = true := NodeCells.one hn
  have hrl := hn.length
  have HH := hid hl
  have HN := hid hn
  clear hc hcell hb hn
  go_enter Tryz.func146, Tryz.ntmps146
  go_wp2_with (first
   | (at_builtin; refine wpList_append_own _ rfl (.tmp 5) (.tmp 6) 128 rfl w.heap.size 131 i0 (.agg #[.int .i64 0, .slice none 0 0]) 2 32 Tryz.underlying128 hi0 hz0 hz1 hz2 rfl (by decide) _ 0 _ rfl hown ⟨b, off, none⟩ L.length cap cs rfl hrl hnews hone (by have := HH.out; unfold maxLen; omega) (by have := HH.out; omega) (by simp) ?_))
  intro v' w1 hown1 hgrow _
  have hW : Hid (Below w.heap.size w w1) := hid (((Below.refl _ _).alloc (Nat.le_refl _) (.cells #[] 131)).grown hgrow (by simp) (fun k hk => by have := (hown.lt k hk).1; exact this))
  have hG : Hid (OwnNodes w.heap.size w1 v' L) := hid ⟨cs, by simpa using hown1, HN.out.keep (.of_below hW.out)⟩
  clear hown1 hgrow hown hnews
  go_wp2_with fail
  go_ret
  exact ⟨_, rfl, hG.out, hW.out⟩
def PartCells (w : World) : List Value → List EL → Prop
 | [], [] => True
 | a :: cs, p :: P => EntsAt w a p ∧ PartCells w cs P
 | _, _ => False
theorem PartCells.keep {w w' : World} (hk : KeepE w w') : ∀ {cs : List Value} {P : List EL}, PartCells w cs P → PartCells w' cs P
 | [], [], _ => trivial
 | [], _ :: _, h => h.elim
 | _ :: _, [], h => h.elim
 | _ :: _, _ :: _, h => ⟨h.1.keep hk, PartCells.keep hk h.2⟩
theorem PartCells.length {w : World} : ∀ {cs : List Value} {P : List EL}, PartCells w cs P → cs.length = P.length
 | [], [], _ => rfl
 | [], _ :: _, h => h.elim
 | _ :: _, [], h => h.elim
 | _ :: _, _ :: _, h => by simp [PartCells.length h.2]
theorem PartCells.snoc {w : World} {a : Value} {p : EL} (ha : EntsAt w a p) : ∀ {cs : List Value} {P : List EL}, PartCells w cs P → PartCells w (cs ++ [a]) (P ++ [p])
 | [], [], _ => ⟨ha, trivial⟩
 | [], _ :: _, h => h.elim
 | _ :: _, [], h => h.elim
 | _ :: _, _ :: _, h => ⟨h.1, PartCells.snoc ha h.2⟩
theorem PartCells.at {w : World} : ∀ {cs : List Value} {P : List EL}, PartCells w cs P → ∀ (i : Nat) (p : EL), P[i]? = some p → ∃ u, cs[i]? = some u ∧ EntsAt w u p
 | [], [], _, i, p, h => by simp at h
 | [], _ :: _, h, _, _, _ => h.elim
 | _ :: _, [], h, _, _, _ => h.elim
 | a :: _, q :: _, h, 0, p, hp => by simp at hp; subst hp; exact ⟨a, rfl, h.1⟩
 | _ :: _, _ :: _, h, i + 1, p, hp => by
  obtain ⟨u, h1, h2⟩ := PartCells.at h.2 i p (by simpa using hp)
  exact ⟨u, by simpa using h1, h2⟩
theorem PartCells.one {w : World} : ∀ {cs : List Value} {P : List EL}, PartCells w cs P → ∀ u ∈ cs, u.oneCell' = true
 | [], [], _, u, hu => by cases hu
 | [], _ :: _, h, _, _ => h.elim
 | _ :: _, [], h, _, _ => h.elim
 | a :: _, _ :: _, h, u, hu => by
  rcases List.mem_cons.1 hu with rfl | hu
  ·exact h.1.one
  ·exact PartCells.one h.2 u hu
def OwnParts (B : Nat) (w : World) (v : Value) (P : List EL) : Prop := ∃ cs, w.ownsRow B 22 1 v P.length cs ∧ PartCells w cs P
theorem OwnParts.below {B : Nat} {w w' : World} {v : Value} {P : List EL} (h : OwnParts B w v P) (hb : Below w.heap.size w w') : OwnParts B w' v P := by
 obtain ⟨cs, ho, hc⟩ := h
 exact ⟨cs, own_below ho hb, hc.keep (.of_below hb)⟩
theorem OwnParts.form {B : Nat} {w : World} {v : Value} {P : List EL} (h : OwnParts B w v P) : ∃ ad c, v = .slice ad P.length c := by
 obtain ⟨cs, ho, hc⟩ := h
 rcases ho.2 with ⟨rfl, hn⟩ | ⟨g, cap, cur, rfl, _⟩
 ·exact ⟨_, _, by rw [hn]⟩
 ·exact ⟨_, _, rfl⟩
theorem info_ents : (Tryz.prog.info? 22).map (fun i => (i.zero, i.size, i.bytes)) = some (some (.slice none 0 0), 1, 24) := by kernel_rfl
theorem after_push {B n : Nat} {e e' : TypeId} {w0 w w1 : World} {v : Value} {xs : List Value} {cells : Array Value} {size : Nat} (hb : Below B w0 w) (hB : B ≤ w.heap.size) (hown : w.ownsRow B e size v n xs) (hg : (w.alloc (.cells cells e')).grownBy w1 v.ownBlock) : Below B w0 w1 :=
 (hb.alloc hB (.cells cells e')).grown hg (by simp; omega) (fun k hk => (hown.lt k hk).1)
theorem after_keepE {B n : Nat} {e e' : TypeId} {w w1 : World} {v : Value} {xs : List Value} {cells : Array Value} {size : Nat} (hown : w.ownsRow B e size v n xs) (hg : (w.alloc (.cells cells e')).grownBy w1 v.ownBlock) (he : 31 ≠ e) : KeepE w w1 :=
 (KeepE.of_below ((Below.refl _ _).alloc (Nat.le_refl _) (.cells cells e'))).trans (KeepE.grown (hown.alloc _) hg he)
set_option maxRecDepth 100000 in
set_option maxHeartbeats 4000000 in
theorem parted_nil (w : World) : Calls Tryz.prog 147 #[.slice none 0 0, .int .i64 10] w fun e w' => (∃ v', e = .returned v' ∧ OwnParts w.heap.size w' v' (Forks.parted 10 [])) ∧ Below w.heap.size w w' := by
 have hP : Hid (OwnParts w.heap.size w (.slice none 0 0) (Forks.parted 10 [])) := hid ⟨[], World.ownsRow_nil _ _ _ _, trivial⟩
 go_enter Tryz.func147, Tryz.ntmps147
 go_wp2_with fail
 refine wp_loop_rounds 1 ?_
 rw [rounds_succ]
 go_wp2_with fail
 go_ret
 exact ⟨⟨_, rfl, hP.out⟩, Below.refl _ _⟩
set_option maxRecDepth 100000 in
set_option maxHeartbeats 4000000 in
theorem parted_some (b off n cap : Nat) (l : EL) (w : World) (hn : n = l.length) (h : EntsAt w (.slice (some ⟨b, off, none⟩) n cap) l) (hl : l.length ≤ 1000000) (hcap : l.length ≤ cap) (hcap2 : cap ≤ 9223372036854775807) :
  Calls Tryz.prog 147 #[.slice (some ⟨b, off, none⟩) n cap, .int .i64 10] w fun e w' => (∃ v', e = .returned v' ∧ OwnParts w.heap.size w' v' (Forks.parted 10 l)) ∧ Below w.heap.size w w' := by
 obtain ⟨i0, hi0, hz0, hz1, hz2⟩ := info_parts info_ents
 subst hn
 have H := hid h
 obtain ⟨M, hM⟩ : ∃ M, (l.length + 10 - 1) / 10 = M := ⟨_, rfl⟩
 have hMl : M ≤ 100001 := by omega
 have hMz : M = 0 → l.length = 0 := by omega
 have hMi : ((l.length : Int) + 9) / 10 = (M : Int) := by omega
 have hG : Hid (Forks.parted 10 l = Forks.partN M l) := hid (by unfold Forks.parted; rw [hM])
 have hMi2 : ((l.length : Int) + 10 - 1) / 10 = (M : Int) := by omega
 clear h hM
 generalize Forks.parted 10 l = G at *
 go_enter Tryz.func147, Tryz.ntmps147
 go_wp2_with fail
 rw [hMi2]
 go_loopw [0, 6, 17] (fun p o q wr => ∃ (j o' c' : Nat) (u : Value) (rest : EL) (done : List EL), j ≤ M ∧ u = o ∧ q = .int .i64 j ∧ p = .slice (some ⟨b, o', none⟩) rest.length c' ∧ rest.length ≤ c' ∧ c' ≤ 9223372036854775807 ∧ rest.length ≤ 1000000 ∧ Hid (EntsAt wr (.slice (some ⟨b, o', none⟩) rest.length c') rest) ∧ Hid (OwnParts w.heap.size wr u done ∧ done.length = j) ∧ Hid (done ++ Forks.partN (M - j) rest = G) ∧ Hid (Below w.heap.size w wr)) (fun _ _ q _ => M - (intOf q).toNat)
 case atStart => exact ⟨0, off, cap, _, l, [], by omega, rfl, rfl, rfl, hcap, hcap2, hl, H, hid ⟨⟨[], World.ownsRow_nil _ _ _ _, trivial⟩, rfl⟩, hid hG.out.symm, hid (Below.refl _ _)⟩
 case round =>
  obtain ⟨j, o', c', o, rest, done, hj, rfl, rfl, rfl, hc1, hc2, hrl, hE, ho, hd, hb⟩ := hrel
  by_cases hlt : j < M
  ·obtain ⟨k, hk⟩ : ∃ k, M - j = k + 1 := ⟨M - j - 1, by omega⟩
   have hd' := hd.out
   rw [hk] at hd'
   unfold Forks.partN at hd'
   have hnr : rest.length / (k + 1) ≤ rest.length := Nat.div_le_self _ _
   have hni : (rest.length : Int) / ((M : Int) - (j : Int)) = ((rest.length / (k + 1) : Nat) : Int) := by
    rw [show (M : Int) - (j : Int) = ((k + 1 : Nat) : Int) by omega]
    exact (Int.natCast_ediv _ _).symm
   generalize hN : rest.length / (k + 1) = n at *
   have HD := hid hd'
   have HN := hid hN
   clear hd hd' hN
   have hMj : ¬ (M : Int) - (j : Int) = 0 := by omega
   have hlt' : (j : Int) < (M : Int) := by omega
   have n0 : (0 : Int) ≤ (n : Int) := by omega
   have n1 : (n : Int) ≤ (rest.length : Int) := by omega
   have n2 : (n : Int) ≤ (c' : Int) := by omega
   have n3 : (rest.length : Int) ≤ (c' : Int) := by omega
   obtain ⟨⟨cs, hro, hpc⟩, hdl⟩ := ho.out
   have HO := hid hro
   have HPC := hid hpc
   have HDL := hid hdl
   obtain ⟨ado, co, rfl⟩ := (show OwnParts w.heap.size wr o done from ⟨cs, hro, hpc⟩).form
   clear ho hro hpc hdl
   generalize hDN : done.length = dn at *
   have HDN := hid hDN
   clear hDN
   have hE1 := hid (hE.out.takeS (cap' := n) n (by omega) (fun h => nomatch h))
   have hone : ∀ u ∈ [Value.slice (some ⟨b, o', none⟩) n n], u.oneCell' = true := by
    intro u hu
    obtain rfl := List.mem_singleton.1 hu
    rfl
   have hdl2 : dn ≤ 1000000 := by have := HDL.out; omega
   have hbz := hb.out.size
   by_cases hcn : c' = n
   ·have hcn' : (c' : Int) = (n : Int) := by omega
    go_wp2_with (first
     | (at_builtin; refine wpList_append_own _ rfl (.tmp 26) (.tmp 31) 229 rfl w.heap.size 22 i0 (.slice none 0 0) 1 24 Tryz.underlying229 hi0 hz0 hz1 hz2 rfl (by decide) _ dn cs rfl (HO.out.alloc _) ⟨wr.heap.size, 0, none⟩ 1 1 [.slice (some ⟨b, o', none⟩) n n] rfl rfl (World.news_of_block (heap_alloc_new _ _)) hone (by unfold maxLen; omega) (by omega) (by simp; omega) ?_))
    intro v' w1 hown hgrow _
    have hW := hid (after_push hb.out hbz HO.out hgrow)
    have hK := hid (after_keepE HO.out hgrow (by decide))
    have hP : Hid (OwnParts w.heap.size w1 v' (done ++ [rest.take n]) ∧ (done ++ [rest.take n]).length = j + 1) := hid ⟨⟨cs ++ [.slice (some ⟨b, o', none⟩) n n], by rw [List.length_append, HDN.out]; exact hown, (HPC.out.keep hK.out).snoc (hE1.out.keep hK.out)⟩, by rw [List.length_append, HDN.out, HDL.out]; rfl⟩
    have hE2 := hid ((hE.out.dropS n (by omega) (o') 0 (.inr (by omega))).keep hK.out)
    have hd2 : Hid ((done ++ [rest.take n]) ++ Forks.partN (M - (j + 1)) (rest.drop n) = G) := hid (by
     rw [show M - (j + 1) = k by omega, List.append_assoc]
     exact HD.out)
    have hdl3 : (rest.drop n).length = rest.length - n := List.length_drop
    have hE3 : Hid (EntsAt w1 (.slice (some ⟨b, o', none⟩) (rest.drop n).length 0) (rest.drop n)) := hid (by rw [hdl3]; exact hE2.out)
    have HDL3 := hid hdl3
    clear hown hgrow hdl3
    go_wp2_with fail
    go_roundw
    case rel => exact ⟨j + 1, o', 0, v', rest.drop n, done ++ [rest.take n], by omega, rfl, by go_num, by rw [HDL3.out], by rw [HDL3.out]; omega, by omega, by rw [HDL3.out]; omega, hE3, hP, hd2, hW⟩
    case measure => simp [intOf]; omega
   ·have hcn' : ¬ (c' : Int) = (n : Int) := by omega
    go_wp2_with (first
     | (at_builtin; refine wpList_append_own _ rfl (.tmp 26) (.tmp 31) 229 rfl w.heap.size 22 i0 (.slice none 0 0) 1 24 Tryz.underlying229 hi0 hz0 hz1 hz2 rfl (by decide) _ dn cs rfl (HO.out.alloc _) ⟨wr.heap.size, 0, none⟩ 1 1 [.slice (some ⟨b, o', none⟩) n n] rfl rfl (World.news_of_block (heap_alloc_new _ _)) hone (by unfold maxLen; omega) (by omega) (by simp; omega) ?_))
    intro v' w1 hown hgrow _
    have hW := hid (after_push hb.out hbz HO.out hgrow)
    have hK := hid (after_keepE HO.out hgrow (by decide))
    have hP : Hid (OwnParts w.heap.size w1 v' (done ++ [rest.take n]) ∧ (done ++ [rest.take n]).length = j + 1) := hid ⟨⟨cs ++ [.slice (some ⟨b, o', none⟩) n n], by rw [List.length_append, HDN.out]; exact hown, (HPC.out.keep hK.out).snoc (hE1.out.keep hK.out)⟩, by rw [List.length_append, HDN.out, HDL.out]; rfl⟩
    have hE2 := hid ((hE.out.dropS n (by omega) (o' + n * 3) (c' - n) (.inl rfl)).keep hK.out)
    have hd2 : Hid ((done ++ [rest.take n]) ++ Forks.partN (M - (j + 1)) (rest.drop n) = G) := hid (by
     rw [show M - (j + 1) = k by omega, List.append_assoc]
     exact HD.out)
    have hdl3 : (rest.drop n).length = rest.length - n := List.length_drop
    have hE3 : Hid (EntsAt w1 (.slice (some ⟨b, o' + n * 3, none⟩) (rest.drop n).length (c' - n)) (rest.drop n)) := hid (by rw [hdl3]; exact hE2.out)
    have HDL3 := hid hdl3
    clear hown hgrow hdl3
    go_wp2_with fail
    go_roundw
    case rel => exact ⟨j + 1, o' + n * 3, c' - n, v', rest.drop n, done ++ [rest.take n], by omega, rfl, by go_num, by rw [HDL3.out], by rw [HDL3.out]; omega, by omega, by rw [HDL3.out]; omega, hE3, hP, hd2, hW⟩
    case measure => simp [intOf]; omega
  ·obtain rfl : j = M := by omega
   have hd' := hd.out
   rw [Nat.sub_self] at hd'
   have HD : Hid (done = G) := hid (by rw [← hd']; simp [Forks.partN])
   have HO : Hid (OwnParts w.heap.size wr o G) := hid (by rw [← HD.out]; exact ho.out.1)
   clear hd hd' ho
   go_wp2_with fail
   go_ret
   exact ⟨⟨_, rfl, HO.out⟩, hb.out⟩
theorem parted_any (v : Value) (l : EL) (w : World) (h : EntsAt w v l) (hl : l.length ≤ 1000000) (hc : ∀ ad n c, v = .slice ad n c → n ≤ c ∧ c ≤ 9223372036854775807) :
  Calls Tryz.prog 147 #[v, .int .i64 10] w fun e w' => (∃ v', e = .returned v' ∧ OwnParts w.heap.size w' v' (Forks.parted 10 l)) ∧ Below w.heap.size w w' := by
 rcases h with ⟨rfl, rfl⟩ | ⟨b, off, cap, cs, fr, rfl, hb, hc2⟩
 ·exact parted_nil w
 ·obtain ⟨h1, h2⟩ := hc _ _ _ rfl
  exact parted_some b off l.length cap l w rfl (.inr ⟨b, off, cap, cs, fr, rfl, hb, hc2⟩) hl h1 h2
end Go.Proofs.YtgjmeeiejcbjfaaGreat
namespace Go.Proofs.YtgjmeeiejcbjfaaGreat
open Go.Lib (hid)
open Go Go.RowKit
theorem own_keepT {w w' : World} {B sz n : Nat} {T : TypeId} {v : Value} {xs : List Value} (h : w.ownsRow B T sz v n xs) (hk : KeepT T w w') : w'.ownsRow B T sz v n xs :=
 ⟨h.1, h.2.imp id (fun ⟨g, cap, cur, hv, hg, hh, r⟩ => ⟨g, cap, cur, hv, hg, hk _ _ _ hh, r⟩)⟩
theorem KeepT.grown {w w' : World} {base size n : Nat} {e T : TypeId} {v : Value} {xs : List Value} (hown : w.ownsRow base e size v n xs) (hg : w.grownBy w' v.ownBlock) (hT : T ≠ e) : KeepT T w w' := fun b cs fr hb => kept_other hown hg hb hT
theorem KeepT.alloc (T : TypeId) (w : World) (o : Obj) : KeepT T w (w.alloc o) := .of_below ((Below.refl _ _).alloc (Nat.le_refl _) o)
theorem KeepT.set {w : World} {a : Addr} {u : Value} {S T : TypeId} {cs' : Array Value} {fr' : Nat × Nat} (ha : w.heap[a.block]? = some (.cells cs' S fr')) (hT : T ≠ S) : KeepT T w (w.setCell a u) := fun b cs fr hb => set_other ha hb hT
namespace Forks
open Go.Lib (hid)
theorem nameN_app : ∀ (a : List EL) (bs : List Int) (m : Nat) (x : EL), nameN bs m (a ++ [x]) = if a.length < bs.length then ((nameN bs m a).1 ++ [(bs.getD a.length 0, x)], (nameN bs m a).2) else ((nameN bs m a).1 ++ [(-(((nameN bs m a).2 : Int) + 1), x)], (nameN bs m a).2 + 1)
 | [], [], m, x => by simp [nameN]
 | [], b :: bs, m, x => by cases bs <;> simp [nameN]
 | l :: a, [], m, x => by
  have h := nameN_app a [] (m + 1) x
  rw [if_neg (by simp)] at h
  rw [if_neg (by simp), List.cons_append, nameN, h]
  simp [nameN]
 | l :: a, b :: bs, m, x => by
  have h := nameN_app a bs m x
  rw [List.cons_append, nameN, h]
  by_cases hl : a.length < bs.length
  ·rw [if_pos hl, if_pos (by simp; exact hl)]
   simp [nameN]
  ·rw [if_neg hl, if_neg (by simp; omega)]
   simp [nameN]
theorem nameN_step (bs : List Int) (m : Nat) (P : List EL) (j : Nat) (hj : j < P.length) : nameN bs m (P.take (j + 1)) = if j < bs.length then ((nameN bs m (P.take j)).1 ++ [(bs.getD j 0, P.getD j [])], (nameN bs m (P.take j)).2) else ((nameN bs m (P.take j)).1 ++ [(-(((nameN bs m (P.take j)).2 : Int) + 1), P.getD j [])], (nameN bs m (P.take j)).2 + 1) := by
 have e : P.getD j [] = P[j] := by simp [List.getD, hj]
 have hl : (P.take j).length = j := by rw [List.length_take]; omega
 rw [List.take_succ_eq_append_getElem hj, nameN_app, hl, e]
theorem nameN_le (bs : List Int) (m : Nat) : ∀ P : List EL, (nameN bs m P).2 ≤ m + P.length
 | [] => by cases bs <;> simp [nameN]
 | l :: P => by
  cases bs with
  | nil =>
   have := nameN_le [] (m + 1) P
   simp only [nameN, List.length_cons]
   omega
  | cons b bs =>
   have := nameN_le bs m P
   simp only [nameN, List.length_cons]
   omega
theorem nameN_zero (bs : List Int) (m : Nat) : nameN bs m [] = ([], m) := by cases bs <;> rfl
end Forks
end Go.Proofs.YtgjmeeiejcbjfaaGreat
namespace Go.Proofs.YtgjmeeiejcbjfaaGreat
open Go.Lib (hid)
open Go Go.RowKit
variable {B X : Nat} {w : World} {d : Nat} {v : Forks.V} {dk : Forks.Disk}
theorem node_any (pl pb : Nat) (hw : WAt B X w (.func (.func 49) #[] #[.pointer (some ⟨pl, 0, none⟩), .pointer (some ⟨pb, 0, none⟩)]) d v) (hg : Forks.Good v) (hdk : DiskAt B w (.func (.func 49) #[] #[.pointer (some ⟨pl, 0, none⟩), .pointer (some ⟨pb, 0, none⟩)]) dk) (hds : ∀ b s, dk.rd b = some s → s.size ≤ 140737488351232) (x : Exts.E) (hx : Ents.may false x = true) (k : Nat) (hB : B ≤ w.heap.size) (hkd : k < d) (hd4 : d ≤ 4) (child : EL → Forks.V → Except Int Forks.V)
  (hall : k ≠ 0 → ∀ wz ev v1 l1, WAt B X wz (.func (.func 49) #[] #[.pointer (some ⟨pl, 0, none⟩), .pointer (some ⟨pb, 0, none⟩)]) d v1 → Forks.Good v1 → DiskAt B wz (.func (.func 49) #[] #[.pointer (some ⟨pl, 0, none⟩), .pointer (some ⟨pb, 0, none⟩)]) dk → EntsAt wz ev l1 → Ents.EncOk l1 false → B ≤ wz.heap.size → Calls Tryz.prog 95 #[.pointer (some ⟨X, 0, none⟩), ev, .int .i64 (k : Int)] wz (WOut B X wz (.func (.func 49) #[] #[.pointer (some ⟨pl, 0, none⟩), .pointer (some ⟨pb, 0, none⟩)]) d (child l1 v1))) :
  Calls Tryz.prog 126 #[.pointer (some ⟨X, 0, none⟩), .agg #[.int .i64 x.1, .int .i64 x.2.1, .int .i64 x.2.2], .int .i64 ((k : Int) + 1)] w (WOut B X w (.func (.func 49) #[] #[.pointer (some ⟨pl, 0, none⟩), .pointer (some ⟨pb, 0, none⟩)]) d (Forks.nodeW dk child (k + 1) x v)) := by
 have hxp := of_decide_eq_true hx
 unfold Ents.mayN at hxp
 obtain ⟨xa, xb, xc⟩ := x
 dsimp only at *
 obtain ⟨rfl, _, _, _, _⟩ := hxp
 obtain ⟨b, rfl⟩ : ∃ b : Nat, xb = (b : Int) := ⟨xb.toNat, by omega⟩
 have b1 : 1 ≤ b := by omega
 have b2 : b ≤ 4095 := by omega
 cases hh : Forks.has v b
 case true => exact node_has pl pb hw hg hdk xa b k b1 b2 hB hkd hd4 child hh
 cases ho : dk.rd b with
 | none => exact node_none pl pb hw hg hdk xa b k b1 b2 hB hkd hd4 child hh ho
 | some s =>
  have hss := hds b s ho
  cases hd : Ents.dec s.data.toList with
  | none => exact node_bad pl pb hw hg hdk xa b k b1 b2 hB hkd hd4 child hh ho hss hd
  | some y =>
   obtain ⟨l, leaf⟩ := y
   by_cases hk : k = 0
   ·cases leaf
    ·exact node_ne_false pl pb hw hg hdk xa b k b1 b2 hB hkd hd4 child hh ho hss hd hk
    ·by_cases hl : (l.getD 0 (0, 0, 0)).1 = xa
     ·exact node_ok pl pb hw hg hdk xa b k b1 b2 hB hkd hd4 child hh ho hss hd (by simp [hk]) hl (fun h => nomatch h)
     ·exact node_log_true pl pb hw hg hdk xa b k b1 b2 hB hkd hd4 child hh ho hss hd hk hl
   ·cases leaf
    ·by_cases hl : (l.getD 0 (0, 0, 0)).1 = xa
     ·exact node_ok pl pb hw hg hdk xa b k b1 b2 hB hkd hd4 child hh ho hss hd (by simp [hk]) hl (fun _ => hall hk)
     ·exact node_log_false pl pb hw hg hdk xa b k b1 b2 hB hkd hd4 child hh ho hss hd hk hl
    ·exact node_ne_true pl pb hw hg hdk xa b k b1 b2 hB hkd hd4 child hh ho hss hd hk
theorem foldW_drop {f : Exts.E → Forks.V → Except Int Forks.V} (l : EL) (i : Nat) (hi : i < l.length) (v : Forks.V) : Forks.foldW f (l.drop i) v = match f (l.getD i (0, 0, 0)) v with
  | .error e => .error e
  | .ok v' => Forks.foldW f (l.drop (i + 1)) v' := by
 rw [List.drop_eq_getElem_cons hi, show l.getD i (0, 0, 0) = l[i] by simp [List.getD, hi]]
 rfl
set_option maxRecDepth 100000 in
set_option maxHeartbeats 4000000 in
theorem all_step (rdv : Value) (hw : WAt B X w rdv d v) (hg : Forks.Good v) (hdk : DiskAt B w rdv dk) (k : Nat) (hB : B ≤ w.heap.size) (hkd : k < d) (hd4 : d ≤ 4) (f : Exts.E → Forks.V → Except Int Forks.V)
  (hnode : ∀ wz v1 x, WAt B X wz rdv d v1 → Forks.Good v1 → DiskAt B wz rdv dk → Ents.may false x = true → B ≤ wz.heap.size → Calls Tryz.prog 126 #[.pointer (some ⟨X, 0, none⟩), .agg #[.int .i64 x.1, .int .i64 x.2.1, .int .i64 x.2.2], .int .i64 ((k : Int) + 1)] wz (WOut B X wz rdv d (f x v1)))
  (ev : Value) (l : EL) (hev : ∀ wz, Below B w wz → KeepE w wz → ExtsAt wz ev l) (hm : ∀ x ∈ l, Ents.may false x = true) (hl : l.length ≤ 1000000) :
  Calls Tryz.prog 95 #[.pointer (some ⟨X, 0, none⟩), ev, .int .i64 ((k : Int) + 1)] w (WOut B X w rdv d (Forks.foldW f l v)) := by
 have HN := hid hnode
 have HE := hid hev
 have HM := hid hm
 have HD := hid hdk
 have H0 := hid (And.intro hw hg)
 obtain ⟨ad, cap, rfl⟩ := (hev w (Below.refl _ _) (.refl _)).form
 have hk3 : (k : Int) ≤ 3 := by omega
 clear hnode hev hm hdk hw hg
 generalize hR : Forks.foldW f l v = R at *
 have HR := hid hR
 clear hR
 go_enter Tryz.func95, Tryz.ntmps95
 go_wp2_with fail
 go_loopw [12] (fun q wr => ∃ (j : Nat) (v' : Forks.V), j ≤ l.length ∧ q = .int .i64 j ∧ Hid (R = Forks.foldW f (l.drop j) v') ∧ Hid (WAt B X wr rdv d v' ∧ Forks.Good v') ∧ Hid (Below B w wr ∧ KeepE w wr)) (fun q _ => l.length - (intOf q).toNat)
 case atStart => exact ⟨0, v, by omega, rfl, hid (by rw [List.drop_zero]; exact HR.out.symm), H0, hid ⟨Below.refl _ _, .refl _⟩⟩
 case round =>
  obtain ⟨j, v', hj, rfl, hR, hw, hb⟩ := hrel
  by_cases hlt : j < l.length
  ·have i0 : (0 : Int) ≤ (j : Int) := by omega
   have i1 : (j : Int) < (l.length : Int) := by omega
   obtain ⟨hll, g, off, rfl, c0, c1, c2⟩ := (HE.out wr hb.out.1 hb.out.2).cells j hlt
   clear hll
   have hfd := hid (foldW_drop (f := f) l j hlt v')
   have hmx := HM.out (l.getD j (0, 0, 0)) (by rw [show l.getD j (0, 0, 0) = l[j] by simp [List.getD, hlt]]; exact List.getElem_mem hlt)
   have hBw := hb.out.1.size
   have bA : Below wr.heap.size wr (wr.alloc (.cells #[.int .i64 (l.getD j (0, 0, 0)).1, .int .i64 (l.getD j (0, 0, 0)).2.1, .int .i64 (l.getD j (0, 0, 0)).2.2] 31)) := (Below.refl _ _).alloc (Nat.le_refl _) _
   have hb1 := And.intro (hb.out.1.trans (bA.mono (by omega))) (hb.out.2.trans (.of_below bA))
   have hc := hid (HN.out _ v' (l.getD j (0, 0, 0)) (hw.out.1.below bA) hw.out.2 (HD.out.below hb1.1) hmx (by simp; omega))
   have HB1 := hid hb1
   clear bA hb1 hmx hb hw
   generalize l.getD j (0, 0, 0) = x at *
   obtain ⟨xa, xb, xc⟩ := x
   dsimp only at *
   go_wp2_with fail
   refine hc.out.mono ?_
   rintro e w4 h4
   have HFD := hfd.out
   cases hfx : f (xa, xb, xc) v' with
   | error q =>
    rw [hfx] at h4 HFD
    obtain ⟨hb4, hk4, rfl, hq⟩ := h4
    have hqb : (q != 0) = true := by rw [bne_iff_ne]; exact hq
    have F := hid (WOut.err (w := w) (w' := w4) (X := X) (rdv := rdv) (d := d) (hR.out.trans HFD) hq ⟨HB1.out.1.trans hb4, HB1.out.2.trans hk4⟩)
    clear hb4 hk4 hc hfd HFD hfx
    go_wp2_with fail
    go_ret
    exact F.out
   | ok v2 =>
    rw [hfx] at h4 HFD
    obtain ⟨hb4, hk4, rfl, hw4, hg4⟩ := h4
    have R4 := hid (hR.out.trans HFD)
    have W4 := hid (And.intro hw4 hg4)
    have B4 := hid (And.intro (HB1.out.1.trans hb4) (HB1.out.2.trans hk4))
    clear hb4 hk4 hc hfd HFD hfx hw4 hg4
    go_wp2_with fail
    go_roundw
    case rel => exact ⟨j + 1, v2, by omega, by go_num, R4, W4, B4⟩
    case measure => simp [intOf]; omega
  ·obtain rfl : j = l.length := by omega
   have F := hid (WOut.ok (w := w) (w' := wr) (X := X) (rdv := rdv) (d := d) (r := R) (v := v') (by rw [hR.out, List.drop_length]; rfl) hb.out hw.out.1 hw.out.2)
   go_wp2_with fail
   go_ret
   exact F.out
theorem all_any (pl pb : Nat) (hd4 : d ≤ 4) (hds : ∀ b s, dk.rd b = some s → s.size ≤ 140737488351232) : ∀ (k : Nat) (w : World) (v : Forks.V) (ev : Value) (l : EL), k < d → WAt B X w (.func (.func 49) #[] #[.pointer (some ⟨pl, 0, none⟩), .pointer (some ⟨pb, 0, none⟩)]) d v → Forks.Good v → DiskAt B w (.func (.func 49) #[] #[.pointer (some ⟨pl, 0, none⟩), .pointer (some ⟨pb, 0, none⟩)]) dk → B ≤ w.heap.size → (∀ wz, Below B w wz → KeepE w wz → ExtsAt wz ev l) → (∀ x ∈ l, Ents.may false x = true) → l.length ≤ 1000000 →
  Calls Tryz.prog 95 #[.pointer (some ⟨X, 0, none⟩), ev, .int .i64 ((k : Int) + 1)] w (WOut B X w (.func (.func 49) #[] #[.pointer (some ⟨pl, 0, none⟩), .pointer (some ⟨pb, 0, none⟩)]) d (Forks.allW dk (k + 1) l v))
 | 0, w, v, ev, l, hk, hw, hg, hdk, hB, hev, hm, hl => by
  have := all_step _ hw hg hdk 0 hB hk hd4 (Forks.nodeW dk (Forks.allW dk 0) 1) (fun wz v1 x h1 h2 h3 h4 h5 => node_any pl pb h1 h2 h3 hds x h4 0 h5 hk hd4 (Forks.allW dk 0) (fun h => absurd rfl h)) ev l hev hm hl
  exact this
 | k + 1, w, v, ev, l, hk, hw, hg, hdk, hB, hev, hm, hl => by
  have := all_step _ hw hg hdk (k + 1) hB hk hd4 (Forks.nodeW dk (Forks.allW dk (k + 1)) (k + 1 + 1)) (fun wz v1 x h1 h2 h3 h4 h5 => node_any pl pb h1 h2 h3 hds x h4 (k + 1) h5 hk hd4 (Forks.allW dk (k + 1)) (fun _ wy ev1 v2 l1 g1 g2 g3 g4 g5 g6 => by
   have := all_any pl pb hd4 hds k wy v2 ev1 l1 (by omega) g1 g2 g3 g6 (fun wz _ hz => (g4.keep hz).ext) (fun y hy => g5.2.2.may y hy) (by have := g5.2.1; omega)
   exact this)) ev l hev hm hl
  exact this
end Go.Proofs.YtgjmeeiejcbjfaaGreat
