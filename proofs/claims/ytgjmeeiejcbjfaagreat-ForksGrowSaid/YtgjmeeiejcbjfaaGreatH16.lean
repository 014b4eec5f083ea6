/- Forks: a level of nodes. -/
import Derived.Test.YtgjmeeiejcbjfaaGreatH15
import Derived.Deep.CutBlock
import Derived.Laws.AppendOwnNone
set_option linter.unusedSimpArgs false
set_option linter.unusedVariables false
namespace Go.Proofs.YtgjmeeiejcbjfaaGreat
open Go.Lib (hid)
open Go Go.RowKit
structure OnlyM (M : Nat) (w w' : World) : Prop where
 os : w'.os = w.os
 tape : w'.tape = w.tape
 output : w'.output = w.output
 size : w.heap.size ≤ w'.heap.size
 block : ∀ k, k < w.heap.size → k ≠ M → w'.heap[k]? = w.heap[k]?
theorem OnlyM.refl (M : Nat) (w : World) : OnlyM M w w := ⟨rfl, rfl, rfl, Nat.le_refl _, fun _ _ _ => rfl⟩
theorem OnlyM.trans {M : Nat} {a b c : World} (h1 : OnlyM M a b) (h2 : OnlyM M b c) : OnlyM M a c :=
 ⟨h2.os.trans h1.os, h2.tape.trans h1.tape, h2.output.trans h1.output, Nat.le_trans h1.size h2.size, fun k hk hM => (h2.block k (Nat.lt_of_lt_of_le hk h1.size) hM).trans (h1.block k hk hM)⟩
theorem OnlyM.of_below {M : Nat} {w w' : World} (h : Below w.heap.size w w') : OnlyM M w w' := ⟨h.os, h.tape, h.output, h.size, fun k hk _ => h.block k hk⟩
theorem OnlyM.set {M : Nat} (w : World) (k : Nat) (v : Value) : OnlyM M w (w.setCell ⟨M, k, none⟩ v) := ⟨rfl, rfl, rfl, by simp, fun j hj hM => Below.heap_setCell _ _ _ _ hM⟩
theorem OnlyM.below {M B : Nat} {w w' : World} (h : OnlyM M w w') (hB : B ≤ w.heap.size) (hM : B ≤ M) : Below B w w' := ⟨h.os, h.tape, h.output, h.size, fun k hk => h.block k (by omega) (by omega)⟩
theorem OnlyM.grown {M B sz n : Nat} {e : TypeId} {w0 w w' : World} {v : Value} {xs : List Value} (h : OnlyM M w0 w) (hown : w.ownsRow B e sz v n xs) (hB : w0.heap.size ≤ B) (hg : w.grownBy w' v.ownBlock) : OnlyM M w0 w' :=
 ⟨hg.os.trans h.os, hg.tape.trans h.tape, hg.output.trans h.output, Nat.le_trans h.size hg.size, fun k hk hM => (hg.block k (Nat.lt_of_lt_of_le hk h.size) (fun e => by have := (hown.lt k e.symm).1; omega)).trans (h.block k hk hM)⟩
theorem OnlyM.alloc {M : Nat} {w0 w : World} (h : OnlyM M w0 w) (o : Obj) : OnlyM M w0 (w.alloc o) := h.trans (.of_below ((Below.refl _ _).alloc (Nat.le_refl _) o))
def MakerAt (w : World) (M : Nat) (m : Nat) : Prop := w.heap[M]? = some (.cells #[.int .i64 (m : Int)] 144 (0, 0))
theorem OnlyM.keep {M m : Nat} {w w' : World} {T : TypeId} (h : OnlyM M w w') (hM : MakerAt w M m) (hT : T ≠ 144) : KeepT T w w' := fun b cs fr hb => by
 rw [h.block b (lt_of_block hb) (fun e => ?_)]
 ·exact hb
 subst e
 rw [hM] at hb
 cases hb
 exact hT rfl
theorem MakerAt.below {w w' : World} {M m : Nat} (h : MakerAt w M m) (hb : Below w.heap.size w w') : MakerAt w' M m := by
 unfold MakerAt; rw [hb.block M (lt_of_block h)]; exact h
theorem NodesT.cellsAt {w : World} {ad : Option Addr} {n cap : Nat} {L : List Node} (h : NodesT w (.slice ad n cap) L) (i : Nat) (hi : i < L.length) : ∃ b off au cu, ad = some ⟨b, off, none⟩ ∧ w.cell? ⟨b, off + i * 2, none⟩ = some (.int .i64 (L.getD i (0, [])).1) ∧ w.cell? ⟨b, off + i * 2 + 1, none⟩ = some (.slice au (L.getD i (0, [])).2.length cu) ∧ EntsAt w (.slice au (L.getD i (0, [])).2.length cu) (L.getD i (0, [])).2 := by
 rcases h with ⟨h, rfl⟩ | ⟨b, off, c, arr, fr, cs, h, hcap, hb, hc, hn⟩
 ·simp at hi
 ·cases h
  have e : L[i]? = some (L.getD i (0, [])) := by rw [List.getD, List.getElem?_eq_getElem hi]; rfl
  obtain ⟨h1, u, h2, h3⟩ := hn.at i _ e
  obtain ⟨au, cu, rfl⟩ := h3.form
  refine ⟨b, off, au, cu, rfl, ?_, ?_, h3⟩
  ·rw [cell_of_row w b _ _ _ _ hb]; exact hc _ _ h1
  ·rw [Nat.add_assoc, cell_of_row w b _ _ _ _ hb]; exact hc _ _ h2
theorem NodesT.cap {w : World} {ad : Option Addr} {n cap : Nat} {L : List Node} (h : NodesT w (.slice ad n cap) L) : L.length ≤ cap := by
 rcases h with ⟨h, rfl⟩ | ⟨b, off, c, arr, fr, cs, h, hcap, _⟩
 ·simp
 ·cases h; exact hcap
theorem EntsAt.sub {w : World} {b off n cap : Nat} {l : EL} (h : EntsAt w (.slice (some ⟨b, off, none⟩) n cap) l) (i k c' : Nat) (hi : i + k ≤ l.length) : EntsAt w (.slice (some ⟨b, off + i * 3, none⟩) k c') ((l.drop i).take k) := by
 have h1 := h.dropS i (by omega) (off + i * 3) c' (.inl rfl)
 exact h1.takeS k (by rw [List.length_drop]; omega) (fun h => nomatch h)
theorem MakerAt.keep {w w' : World} {M m : Nat} (h : MakerAt w M m) (hk : KeepT 144 w w') : MakerAt w' M m := hk _ _ _ h
theorem MakerAt.set {w : World} {M m : Nat} (h : MakerAt w M m) (k : Nat) : MakerAt (w.setCell ⟨M, 0, none⟩ (.int .i64 (k : Int))) M k := by
 unfold MakerAt at *
 exact one_setCell h
theorem heap_alloc_new3 (w : World) (a : Addr) (v : Value) (o o' : Obj) : (((w.setCell a v).alloc o).alloc o').heap[w.heap.size + 1]? = some o' := by
 have := heap_alloc_new2 (w.setCell a v) o o'
 have e : (w.setCell a v).heap.size = w.heap.size := by simp
 rwa [e] at this
theorem node_push {M B : Nat} {w0 w2 w4 : World} {u e v4 : Value} {cs : List Value} {L : List Node} {x : Node} {m : Nat} {cells : Array Value} (ho : w2.ownsRow B 131 2 u L.length cs) (hc : NodeCells w2 cs L) (he : EntsAt w2 e x.2) (hB : w0.heap.size ≤ B) (hM : MakerAt w2 M m) (h0 : OnlyM M w0 w2)
  (hg : (w2.alloc (.cells cells 131)).grownBy w4 u.ownBlock) (hown : w4.ownsRow B 131 2 v4 (L.length + 1) (cs ++ [.int .i64 x.1, e])) :
  OwnNodes B w4 v4 (L ++ [x]) ∧ MakerAt w4 M m ∧ OnlyM M w0 w4 ∧ KeepT 22 w2 w4 ∧ KeepE w2 w4 := by
 have ho' := ho.alloc (.cells cells 131)
 have k1 : KeepE w2 w4 := (KeepT.alloc _ w2 (.cells cells 131)).trans (KeepT.grown ho' hg (by decide))
 refine ⟨⟨cs ++ [.int .i64 x.1, e], by rw [List.length_append]; exact hown, (hc.append (show NodeCells w2 [.int .i64 x.1, e] [x] from ⟨rfl, he, trivial⟩)).keep k1⟩, hM.keep ((KeepT.alloc _ w2 (.cells cells 131)).trans (KeepT.grown ho' hg (by decide))), (h0.alloc _).grown ho' hB hg, (KeepT.alloc _ w2 (.cells cells 131)).trans (KeepT.grown ho' hg (by decide)), k1⟩
theorem nodes_push {M B : Nat} {w0 w2 w4 : World} {u v4 : Value} {cs ds : List Value} {L N : List Node} {m k : Nat} (ho : w2.ownsRow B 131 2 u L.length cs) (hc : NodeCells w2 cs L) (hd : NodeCells w2 ds N) (hk : k = N.length) (hB : w0.heap.size ≤ B) (hM : MakerAt w2 M m) (h0 : OnlyM M w0 w2)
  (hg : w2.grownBy w4 u.ownBlock) (hown : w4.ownsRow B 131 2 v4 (L.length + k) (cs ++ ds)) :
  OwnNodes B w4 v4 (L ++ N) ∧ MakerAt w4 M m ∧ OnlyM M w0 w4 := by
 subst hk
 refine ⟨⟨cs ++ ds, by rw [List.length_append]; exact hown, (hc.append hd).keep (KeepT.grown ho hg (by decide))⟩, hM.keep (KeepT.grown ho hg (by decide)), h0.grown ho hB hg⟩
namespace Forks
open Go.Lib (hid)
theorem preN_step {old : List Node} {want : EL} {j : Nat} (hj : j < old.length) : preN (old.drop j) (want.drop (lens (old.take j))) = if (old.getD j (0, [])).2.length ≤ want.length - lens (old.take j) ∧ (want.drop (lens (old.take j))).take (old.getD j (0, [])).2.length = (old.getD j (0, [])).2 then preN (old.drop (j + 1)) (want.drop (lens (old.take (j + 1)))) + 1 else 0 := by
 have e : old.getD j (0, []) = old[j] := by simp [List.getD, hj]
 rw [e, List.drop_eq_getElem_cons hj, preN, List.length_drop, List.take_succ_eq_append_getElem hj, lens_append, List.drop_drop]
 simp only [lens, Nat.add_zero]
theorem lens_step {old : List Node} {j : Nat} (hj : j < old.length) : lens (old.take (j + 1)) = lens (old.take j) + (old.getD j (0, [])).2.length := by
 have e : old.getD j (0, []) = old[j] := by simp [List.getD, hj]
 rw [e, List.take_succ_eq_append_getElem hj, lens_append]
 simp [lens]
theorem sufN_step {old : List Node} {want : EL} {j F G T : Nat} (h1 : F < j) (h2 : j ≤ old.length) (h3 : G ≤ T) (h4 : T ≤ want.length) :
  sufN ((old.take j).drop F).reverse ((want.take T).drop G) = if (old.getD (j - 1) (0, [])).2.length ≤ T - G ∧ (want.drop (T - (old.getD (j - 1) (0, [])).2.length)).take (old.getD (j - 1) (0, [])).2.length = (old.getD (j - 1) (0, [])).2 then sufN ((old.take (j - 1)).drop F).reverse ((want.take (T - (old.getD (j - 1) (0, [])).2.length)).drop G) + 1 else 0 := by
 have hj : j - 1 < old.length := by omega
 have e : old.getD (j - 1) (0, []) = old[j - 1] := by simp [List.getD, hj]
 have e1 : old.take j = old.take (j - 1) ++ [old[j - 1]] := by
  have := List.take_succ_eq_append_getElem hj
  rwa [show j - 1 + 1 = j by omega] at this
 have e2 : ((old.take j).drop F).reverse = old[j - 1] :: ((old.take (j - 1)).drop F).reverse := by
  rw [e1, List.drop_append_of_le_length (by rw [List.length_take]; omega), List.reverse_append]
  rfl
 have hl : ((want.take T).drop G).length = T - G := by rw [List.length_drop, List.length_take]; omega
 rw [e, e2, sufN, hl]
 generalize old[j - 1] = x
 by_cases hx : x.2.length ≤ T - G
 ·have e3 : ((want.take T).drop G).drop (T - G - x.2.length) = (want.drop (T - x.2.length)).take x.2.length := by
   rw [List.drop_drop, show G + (T - G - x.2.length) = T - x.2.length by omega, List.drop_take, show T - (T - x.2.length) = x.2.length by omega]
  have e4 : ((want.take T).drop G).take (T - G - x.2.length) = (want.take (T - x.2.length)).drop G := by
   rw [List.take_drop, List.take_take, show G + (T - G - x.2.length) = T - x.2.length by omega, Nat.min_eq_left (by omega)]
  rw [e3, e4]
 ·rw [if_neg (fun h => hx h.1), if_neg (fun h => hx h.1)]
structure CutsOk (old : List Node) (want : EL) (c : Cuts) : Prop where
 fl : c.first ≤ c.last
 lo : c.last ≤ old.length
 gt : c.from_ ≤ c.to_
 gf : c.from_ = lens (old.take c.first)
 tl : c.to_ + lens (old.drop c.last) = want.length
theorem lens_drop_step {old : List Node} {j : Nat} (h1 : 0 < j) (h2 : j ≤ old.length) : lens (old.drop (j - 1)) = (old.getD (j - 1) (0, [])).2.length + lens (old.drop j) := by
 have hj : j - 1 < old.length := by omega
 have e : old.getD (j - 1) (0, []) = old[j - 1] := by simp [List.getD, hj]
 rw [e, List.drop_eq_getElem_cons hj, show j - 1 + 1 = j by omega]
 rfl
theorem cuts1_ok {old : List Node} {want : EL} {c : Cuts} (h : CutsOk old want c) : CutsOk old want (cuts1 old c) := by
 obtain ⟨h1, h2, h3, h4, h5⟩ := h
 unfold cuts1
 split
 ·split
  ·rename_i hf
   have e := lens_step (old := old) (j := c.first - 1) (by omega)
   rw [show c.first - 1 + 1 = c.first by omega, ← h4] at e
   exact ⟨by dsimp only; omega, h2, by dsimp only; omega, by dsimp only; omega, h5⟩
  ·split
   ·rename_i hl
    have e := lens_drop_step (old := old) (j := c.last + 1) (by omega) (by omega)
    rw [Nat.add_sub_cancel] at e
    exact ⟨by dsimp only; omega, hl, by dsimp only; omega, h4, by dsimp only; omega⟩
   ·exact ⟨h1, h2, h3, h4, h5⟩
 ·exact ⟨h1, h2, h3, h4, h5⟩
end Forks
theorem partN_mem_len : ∀ (k : Nat) (l : EL), ∀ p ∈ Forks.partN k l, p.length ≤ l.length
 | 0, _, p, hp => by cases hp
 | k + 1, l, p, hp => by
  unfold Forks.partN at hp
  rcases List.mem_cons.1 hp with rfl | hp
  ·exact List.length_take_le' _ _
  ·exact Nat.le_trans (partN_mem_len k _ p hp) (List.length_drop ▸ Nat.sub_le _ _)
theorem parted_mem_len {n : Nat} {l p : EL} (h : p ∈ Forks.parted n l) : p.length ≤ l.length := partN_mem_len _ _ p h
theorem neq_quiet (w : World) (v1 v2 : Value) (l1 l2 : EL) (h1 : ExtsAt w v1 l1) (h2 : ExtsAt w v2 l2) (hn1 : l1.length ≤ 1000000000) (hn2 : l2.length ≤ 1000000000) (r : Bool) (hr : (l1 == l2) = r) (n : Nat) :
  Calls Tryz.prog 145 #[v1, v2] (w.drewN n) fun e w' => e = .returned (.bool r) ∧ ∃ m, w' = w.drewN m := by
 refine (neq_any (w.drewN n) v1 v2 l1 l2 (h1.below (B := 0) (Below.drewN' (Below.refl _ _) n)) (h2.below (B := 0) (Below.drewN' (Below.refl _ _) n)) (by omega) (by omega)).mono ?_
 rintro e w' ⟨rfl, m, rfl⟩
 exact ⟨by rw [hr], n + m, World.drewN_drewN _ _ _⟩
set_option maxRecDepth 100000 in
set_option maxHeartbeats 8000000 in
theorem level_any (M m : Nat) (ov uv : Value) (old : List Node) (want : EL) (w : World) (hM : MakerAt w M m) (ho : NodesT w ov old) (hu : EntsAt w uv want) (hcu : ∀ ad n c, uv = .slice ad n c → n ≤ c ∧ c ≤ 9223372036854775807) (hco : ∀ ad n c, ov = .slice ad n c → c ≤ 9223372036854775807) (hne : ∀ n ∈ old, 1 ≤ n.2.length ∧ n.2.length ≤ 10) (hlo : old.length ≤ 100000) (hlw : want.length ≤ 100000) (hm : m ≤ 1000000) :
  Calls Tryz.prog 112 #[.pointer (some ⟨M, 0, none⟩), ov, uv] w fun e w' => (∃ v', e = .returned v' ∧ OwnNodes w.heap.size w' v' (Forks.level old want m).1) ∧ MakerAt w' M (Forks.level old want m).2 ∧ OnlyM M w w' := by
 obtain ⟨ao, co, rfl⟩ := ho.form
 obtain ⟨au, cu, rfl⟩ := hu.form
 obtain ⟨hwc, hcu2⟩ := hcu _ _ _ rfl
 have hco2 := hco _ _ _ rfl
 have HO := hid ho
 have HU := hid hu
 have HM := hid hM
 have HN := hid hne
 clear ho hu hM hne hcu hco
 generalize hL : Forks.level old want m = LV at *
 have HL := hid hL
 clear hL
 have hS0 := Forks.sufN_le (old.drop (Forks.preN old want)).reverse (want.drop (Forks.lens (old.take (Forks.preN old want))))
 obtain ⟨F0, hF0⟩ : ∃ F0, Forks.preN old want = F0 := ⟨_, rfl⟩
 have hFle := Forks.preN_le old want
 rw [hF0] at hFle hS0
 obtain ⟨G0, hG0⟩ : ∃ G0, Forks.lens (old.take F0) = G0 := ⟨_, rfl⟩
 have HG0 := hid hG0
 obtain ⟨S0, hS⟩ : ∃ S0, Forks.sufN (old.drop F0).reverse (want.drop G0) = S0 := ⟨_, rfl⟩
 rw [hG0] at hFle hS0
 rw [hS] at hS0
 have HS := hid hS
 have hS1 : S0 ≤ old.length - F0 := by have := hS0.1; rw [List.length_reverse, List.length_drop] at this; exact this
 clear hG0 hS hS0
 have HF0 := hid hF0
 clear hF0
 go_enter Tryz.func112, Tryz.ntmps112
 go_upto_block 0 with fail
 go_cut [7, 8, 9] from 18 to 53 (fun a b c wx => ∃ u : Value, u = c ∧ a = .int .i64 (F0 : Int) ∧ b = .int .i64 (G0 : Int) ∧ Hid (∃ n, wx = w.drewN n))
 case first =>
  go_wp2_with fail
  go_loopw [7, 8, 9] (fun a b c wr => ∃ (j : Nat) (u : Value), j ≤ old.length ∧ u = c ∧ a = .int .i64 (j : Int) ∧ b = .int .i64 (Forks.lens (old.take j) : Int) ∧ Forks.lens (old.take j) ≤ want.length ∧ Hid (F0 = j + Forks.preN (old.drop j) (want.drop (Forks.lens (old.take j)))) ∧ Hid (∃ n, wr = w.drewN n)) (fun a _ _ _ => old.length - (intOf a).toNat)
  case atStart => exact ⟨0, _, by omega, rfl, rfl, rfl, by simp [Forks.lens], hid (by simp [Forks.lens, HF0.out]), hid ⟨0, rfl⟩⟩
  case round =>
   obtain ⟨j, uc, hj, rfl, rfl, rfl, hlj, hp, hw⟩ := hrel
   by_cases hlt : j < old.length
   ·obtain ⟨nw, hnw⟩ := hw.out
    have hbw : Below w.heap.size w wr := by rw [hnw]; exact Below.drewN' (Below.refl _ _) nw
    obtain ⟨bo, oo, ax, cx, rfl, d0, d1, hx⟩ := (HO.out.below hbw).cellsAt j hlt
    have HX := hid hx
    have hxn := HN.out (old.getD j (0, [])) (by rw [show old.getD j (0, []) = old[j] by simp [List.getD, hlt]]; exact List.getElem_mem hlt)
    have hst := hid (Forks.preN_step (want := want) hlt)
    have hls := hid (Forks.lens_step hlt)
    have i0 : (0 : Int) ≤ (j : Int) := by omega
    have i1 : (j : Int) < (old.length : Int) := by omega
    have hU2 := hid (HU.out.keep (.of_below hbw))
    generalize hX : (old.getD j (0, [])).2 = x at *
    generalize (old.getD j (0, [])).1 = xb at *
    have hlw1 : (Forks.lens (old.take j) : Int) ≤ (want.length : Int) := by omega
    have hw1 : IntKind.i64.wrap ((want.length : Int) - (Forks.lens (old.take j) : Int)) = (want.length : Int) - (Forks.lens (old.take j) : Int) := IntWalk.i64_in _ (by omega)
    have hw2 : IntKind.i64.wrap ((Forks.lens (old.take j) : Int) + (x.length : Int)) = (Forks.lens (old.take j) : Int) + (x.length : Int) := IntWalk.i64_in _ (by omega)
    have WQ := hid (fun k => (⟨nw + k, by rw [hnw]; exact World.drewN_drewN _ _ _⟩ : ∃ n, wr.drewN k = w.drewN n))
    clear hX hx hnw
    by_cases c1 : x.length ≤ want.length - Forks.lens (old.take j)
    ·have hau : au ≠ none := by
      rintro rfl
      rcases HU.out with ⟨h, h0⟩ | ⟨_, _, _, _, _, h, _⟩
      ·have : want.length = 0 := by rw [h0]; rfl
       omega
      ·cases h
     obtain ⟨aa, rfl⟩ := Option.ne_none_iff_exists'.1 hau
     obtain ⟨bu, ou, rfl⟩ : ∃ bu ou, aa = ⟨bu, ou, none⟩ := by
      rcases HU.out with ⟨h, _⟩ | ⟨bu, ou, _, _, _, h, _⟩
      ·cases h
      ·cases h; exact ⟨bu, ou, rfl⟩
     have hcut2 : ¬ ((cu : Int) = (Forks.lens (old.take j) : Int)) := by omega
     have hcut3 : ¬ (cu = Forks.lens (old.take j)) := by omega
     have k1 : (0 : Int) ≤ (Forks.lens (old.take j) : Int) := by omega
     have k2 : (Forks.lens (old.take j) : Int) ≤ (Forks.lens (old.take j) : Int) + (x.length : Int) := by omega
     have k3 : (Forks.lens (old.take j) : Int) + (x.length : Int) ≤ (cu : Int) := by omega
     have k4 : decide ((want.length : Int) - (Forks.lens (old.take j) : Int) < (x.length : Int)) = false := decide_eq_false (by omega)
     have hsub := hid (hU2.out.sub (Forks.lens (old.take j)) x.length (cu - Forks.lens (old.take j)) (by omega))
     have hsl : ((want.drop (Forks.lens (old.take j))).take x.length).length = x.length := by rw [List.length_take, List.length_drop]; omega
     by_cases c2 : (want.drop (Forks.lens (old.take j))).take x.length = x
     ·have q := hid (fun k => neq_quiet wr _ _ _ _ hsub.out.ext HX.out.ext (by rw [hsl]; omega) (by omega) true (by rw [beq_iff_eq]; exact c2) k)
      have hnx : Hid (F0 = (j + 1) + Forks.preN (old.drop (j + 1)) (want.drop (Forks.lens (old.take (j + 1))))) := hid (by
       rw [hp.out, hst.out, if_pos ⟨c1, c2⟩]; omega)
      have hl2 : Hid (Forks.lens (old.take (j + 1)) = Forks.lens (old.take j) + x.length) := hls
      have hl3 : Forks.lens (old.take (j + 1)) ≤ want.length := by rw [hl2.out]; omega
      clear hp hst hsl c2 hls c1
      generalize hLJ : Forks.lens (old.take j) = lj at *
      clear hLJ
      go_wp2_with fail
      go_quiet ((go_at_call 145; exact q.out _))
      go_wp2_with fail
      go_roundw
      case rel => exact ⟨j + 1, _, by omega, rfl, by go_num, by rw [hl2.out]; go_num, hl3, hnx, hid (WQ.out _)⟩
      case measure => simp [intOf]; omega
     ·have q := hid (fun k => neq_quiet wr _ _ _ _ hsub.out.ext HX.out.ext (by rw [hsl]; omega) (by omega) false (by rw [beq_eq_false_iff_ne]; exact c2) k)
      have hnx : Hid (F0 = j) := hid (by rw [hp.out, hst.out, if_neg (fun h => c2 h.2)]; rfl)
      clear hp hst hsl c2 hls c1
      go_wp2_with fail
      go_quiet ((go_at_call 145; exact q.out _))
      go_wp2_with fail
      go_meet
      exact ⟨_, rfl, by rw [hnx.out], by rw [← HG0.out, hnx.out], hid (WQ.out _)⟩
    ·have k4 : decide ((want.length : Int) - (Forks.lens (old.take j) : Int) < (x.length : Int)) = true := decide_eq_true (by omega)
     have hnx : Hid (F0 = j) := hid (by rw [hp.out, hst.out, if_neg (fun h => c1 h.1)]; rfl)
     clear hp hst hls c1
     go_wp2_with fail
     go_quiet (fail)
     go_wp2_with fail
     go_meet
     exact ⟨_, rfl, by rw [hnx.out], by rw [← HG0.out, hnx.out], hid (WQ.out _)⟩
   ·obtain rfl : j = old.length := by omega
    have hF : Hid (F0 = old.length) := hid (by rw [hp.out, List.drop_length]; rfl)
    go_wp2_with fail
    go_meet
    exact ⟨_, rfl, by rw [hF.out], by rw [← HG0.out, hF.out], hw⟩
 case rest =>
  obtain ⟨u9, rfl, rfl, rfl, hw9⟩ := hcut
  obtain ⟨L0, hL0⟩ : ∃ L0, old.length - S0 = L0 := ⟨_, rfl⟩
  obtain ⟨T0, hT0⟩ : ∃ T0, want.length - Forks.lens (old.drop L0) = T0 := ⟨_, rfl⟩
  have HL0 := hid hL0
  have HT0 := hid hT0
  have hL1 : F0 ≤ L0 ∧ L0 ≤ old.length := by omega
  clear hL0 hT0
  go_upto_block 2 with fail
  go_cut [10, 11, 12] from 58 to 93 (fun a b c wx => ∃ u : Value, u = c ∧ a = .int .i64 (L0 : Int) ∧ b = .int .i64 (T0 : Int) ∧ Hid (∃ n, wx = w.drewN n) ∧ (G0 ≤ T0 ∧ T0 ≤ want.length) ∧ Hid (T0 + Forks.lens (old.drop L0) = want.length))
  case first =>
   go_wp2_with fail
   go_loopw [10, 11, 12] (fun a b c wr => ∃ (j t : Nat) (u : Value), F0 ≤ j ∧ j ≤ old.length ∧ u = c ∧ a = .int .i64 (j : Int) ∧ b = .int .i64 (t : Int) ∧ G0 ≤ t ∧ t ≤ want.length ∧ Hid (t + Forks.lens (old.drop j) = want.length) ∧ Hid (S0 = (old.length - j) + Forks.sufN ((old.take j).drop F0).reverse ((want.take t).drop G0)) ∧ Hid (∃ n, wr = w.drewN n)) (fun a _ _ _ => (intOf a).toNat)
   case atStart => exact ⟨old.length, want.length, _, by omega, by omega, rfl, rfl, rfl, by omega, by omega, hid (by rw [List.drop_length]; rfl), hid (by rw [List.take_length, List.take_length, HS.out]; omega), hw9⟩
   case round =>
    obtain ⟨j, t, uc, hj1, hj2, rfl, rfl, rfl, ht1, ht2, hlj, hp, hw⟩ := hrel
    by_cases hlt : F0 < j
    ·obtain ⟨nw, hnw⟩ := hw.out
     have hbw : Below w.heap.size w wr := by rw [hnw]; exact Below.drewN' (Below.refl _ _) nw
     obtain ⟨bo, oo, ax, cx, rfl, d0, d1, hx⟩ := (HO.out.below hbw).cellsAt (j - 1) (by omega)
     have HX := hid hx
     have hxn := HN.out (old.getD (j - 1) (0, [])) (by rw [show old.getD (j - 1) (0, []) = old[j - 1]'(by omega) by simp [List.getD, show j - 1 < old.length by omega]]; exact List.getElem_mem _)
     have hst := hid (Forks.sufN_step (want := want) hlt hj2 ht1 ht2)
     have hls := hid (Forks.lens_drop_step (show 0 < j by omega) hj2)
     have hU2 := hid (HU.out.keep (.of_below hbw))
     generalize hX : (old.getD (j - 1) (0, [])).2 = x at *
     generalize (old.getD (j - 1) (0, [])).1 = xb at *
     obtain ⟨j1, rfl⟩ : ∃ j1, j = j1 + 1 := ⟨j - 1, by omega⟩
     rw [Nat.add_sub_cancel] at *
     have i0 : (0 : Int) ≤ (j1 : Int) := by omega
     have i1 : (j1 : Int) < (old.length : Int) := by omega
     have hwj : IntKind.i64.wrap (((j1 + 1 : Nat) : Int) - 1) = (j1 : Int) := by rw [IntWalk.i64_in _ (by omega)]; omega
     have hwj2 : IntKind.i64.wrap (j1 : Int) = (j1 : Int) := IntWalk.i64_in _ (by omega)
     have hlw1 : (F0 : Int) < ((j1 + 1 : Nat) : Int) := by omega
     have hw1 : IntKind.i64.wrap ((t : Int) - (G0 : Int)) = (t : Int) - (G0 : Int) := IntWalk.i64_in _ (by omega)
     have hw2 : IntKind.i64.wrap ((t : Int) - (x.length : Int)) = (t : Int) - (x.length : Int) := IntWalk.i64_in _ (by omega)
     have WQ := hid (fun k => (⟨nw + k, by rw [hnw]; exact World.drewN_drewN _ _ _⟩ : ∃ n, wr.drewN k = w.drewN n))
     clear hX hx hnw
     by_cases c1 : x.length ≤ t - G0
     ·obtain ⟨bu, ou, rfl⟩ : ∃ bu ou, au = some ⟨bu, ou, none⟩ := by
       rcases HU.out with ⟨h, h0⟩ | ⟨bu, ou, _, _, _, h, _⟩
       ·have : want.length = 0 := by rw [h0]; rfl
        omega
       ·cases h; exact ⟨bu, ou, rfl⟩
      have htx : ((t - x.length : Nat) : Int) = (t : Int) - (x.length : Int) := by omega
      have hcut2 : ¬ ((cu : Int) = (t : Int) - (x.length : Int)) := by omega
      have hcut3 : ¬ (cu = t - x.length) := by omega
      have htn : ((t : Int) - (x.length : Int)).toNat = t - x.length := by omega
      have k1 : (0 : Int) ≤ (t : Int) - (x.length : Int) := by omega
      have k2 : (t : Int) - (x.length : Int) ≤ (t : Int) := by omega
      have k3 : (t : Int) ≤ (cu : Int) := by omega
      have k4 : decide ((t : Int) - (G0 : Int) < (x.length : Int)) = false := decide_eq_false (by omega)
      have hsub : Hid (EntsAt wr (.slice (some ⟨bu, ou + (t - x.length) * 3, none⟩) (t - (t - x.length)) (cu - (t - x.length))) ((want.drop (t - x.length)).take x.length)) := hid (by
       rw [show t - (t - x.length) = x.length by omega]
       exact hU2.out.sub (t - x.length) x.length (cu - (t - x.length)) (by omega))
      have hsl : ((want.drop (t - x.length)).take x.length).length = x.length := by rw [List.length_take, List.length_drop]; omega
      by_cases c2 : (want.drop (t - x.length)).take x.length = x
      ·have q := hid (fun k => neq_quiet wr _ _ _ _ hsub.out.ext HX.out.ext (by rw [hsl]; omega) (by omega) true (by rw [beq_iff_eq]; exact c2) k)
       have hnx : Hid (S0 = (old.length - j1) + Forks.sufN ((old.take j1).drop F0).reverse ((want.take (t - x.length)).drop G0)) := hid (by
        rw [hp.out, hst.out, if_pos ⟨c1, c2⟩]; omega)
       have hl2 : Hid ((t - x.length) + Forks.lens (old.drop j1) = want.length) := hid (by have := hls.out; have := hlj.out; omega)
       clear hp hst hsl c2 hls hlj
       go_wp2_with fail
       go_quiet ((go_at_call 145; exact q.out _))
       go_wp2_with fail
       go_roundw
       case rel => exact ⟨j1, t - x.length, _, by omega, by omega, rfl, by first | rfl | go_num, by rw [htx], by omega, by omega, hl2, hnx, hid (WQ.out _)⟩
       case measure => simp [intOf]
      ·have q := hid (fun k => neq_quiet wr _ _ _ _ hsub.out.ext HX.out.ext (by rw [hsl]; omega) (by omega) false (by rw [beq_eq_false_iff_ne]; exact c2) k)
       have hnx : Hid (L0 = j1 + 1) := hid (by have := hp.out; rw [hst.out, if_neg (fun h => c2 h.2)] at this; have := HL0.out; omega)
       have hnt : Hid (T0 = t) := hid (by rw [← HT0.out, hnx.out]; have := hlj.out; omega)
       have hTL : Hid (T0 + Forks.lens (old.drop L0) = want.length) := hid (by rw [hnt.out, hnx.out]; exact hlj.out)
       clear hp hst hsl c2 hls hlj
       go_wp2_with fail
       go_quiet ((go_at_call 145; exact q.out _))
       go_wp2_with fail
       go_meet
       exact ⟨_, rfl, by rw [hnx.out], by rw [hnt.out], hid (WQ.out _), by rw [hnt.out]; omega, hTL⟩
     ·have k4 : decide ((t : Int) - (G0 : Int) < (x.length : Int)) = true := decide_eq_true (by omega)
      have hnx : Hid (L0 = j1 + 1) := hid (by have := hp.out; rw [hst.out, if_neg (fun h => c1 h.1)] at this; have := HL0.out; omega)
      have hnt : Hid (T0 = t) := hid (by rw [← HT0.out, hnx.out]; have := hlj.out; omega)
      have hTL : Hid (T0 + Forks.lens (old.drop L0) = want.length) := hid (by rw [hnt.out, hnx.out]; exact hlj.out)
      clear hp hst hls hlj c1
      go_wp2_with fail
      go_quiet (fail)
      go_wp2_with fail
      go_meet
      exact ⟨_, rfl, by rw [hnx.out], by rw [hnt.out], hid (WQ.out _), by rw [hnt.out]; omega, hTL⟩
    ·have hlt' : ¬ (F0 : Int) < (j : Int) := by omega
     have hjF : j = F0 := by omega
     have hz : ((old.take j).drop F0).reverse = [] := by
      have : ((old.take j).drop F0).length = 0 := by rw [List.length_drop, List.length_take]; omega
      rw [List.eq_nil_of_length_eq_zero this]; rfl
     have hnx : Hid (L0 = j) := hid (by have := hp.out; rw [hz] at this; simp only [Forks.sufN] at this; have := HL0.out; omega)
     have hnt : Hid (T0 = t) := hid (by rw [← HT0.out, hnx.out]; have := hlj.out; omega)
     have hTL : Hid (T0 + Forks.lens (old.drop L0) = want.length) := hid (by rw [hnt.out, hnx.out]; exact hlj.out)
     clear hp hlj hz hjF
     go_wp2_with fail
     go_meet
     exact ⟨_, rfl, by rw [hnx.out], by rw [hnt.out], hw, by rw [hnt.out]; omega, hTL⟩
  case rest =>
   obtain ⟨u12, rfl, rfl, rfl, hw12, hT1, hTL⟩ := hcut
   have hC0 : Forks.CutsOk old want ⟨F0, G0, L0, T0⟩ := ⟨hL1.1, hL1.2, hT1.1, HG0.out.symm, hTL.out⟩
   obtain ⟨C, hC⟩ : ∃ C, Forks.cuts1 old ⟨F0, G0, L0, T0⟩ = C := ⟨_, rfl⟩
   have hC1 := Forks.cuts1_ok hC0
   rw [hC] at hC1
   have hGe : Hid (0 < F0 → G0 = Forks.lens (old.take (F0 - 1)) + (old.getD (F0 - 1) (0, [])).2.length) := hid (fun h => by
    have := Forks.lens_step (old := old) (j := F0 - 1) (by omega)
    rwa [show F0 - 1 + 1 = F0 by omega, HG0.out] at this)
   have hTe : Hid (L0 < old.length → T0 + (old.getD L0 (0, [])).2.length ≤ want.length) := hid (fun h => by
    have e := Forks.lens_drop_step (old := old) (j := L0 + 1) (by omega) (by omega)
    rw [Nat.add_sub_cancel] at e
    have := hTL.out
    omega)
   have hcl := hid (show Forks.level old want m = Forks.levelC old want m C by
    unfold Forks.level Forks.cuts0
    dsimp only
    rw [HF0.out, HG0.out, HS.out, HL0.out, HT0.out, hC])
   unfold Forks.cuts1 at hC
   dsimp only at hC
   have HC := hid hC
   have HC1 := hid hC1
   have hG0w : G0 ≤ want.length := by omega
   clear hC hC1 hC0 hw9
   have hsub : IntKind.i64.wrap ((T0 : Int) - (G0 : Int)) = (T0 : Int) - (G0 : Int) := IntWalk.i64_in _ (by omega)
   go_step
   go_step
   go_cut [7, 8, 10, 11, 13] from 94 to 130 (fun a b c d e wx => ∃ u : Value, u = e ∧ a = .int .i64 (C.first : Int) ∧ b = .int .i64 (C.from_ : Int) ∧ c = .int .i64 (C.last : Int) ∧ d = .int .i64 (C.to_ : Int) ∧ Hid (∃ n, wx = w.drewN n))
   case first =>
    obtain ⟨nw, hnw⟩ := hw12.out
    have hbw : Below w.heap.size w wc := by rw [hnw]; exact Below.drewN' (Below.refl _ _) nw
    have HO2 := hid (HO.out.below hbw)
    have hsub : IntKind.i64.wrap ((T0 : Int) - (G0 : Int)) = (T0 : Int) - (G0 : Int) := IntWalk.i64_in _ (by omega)
    clear hnw hbw
    by_cases c1 : 0 < T0 - G0 ∧ T0 - G0 < 5
    ·have k1 : (0 : Int) < (T0 : Int) - (G0 : Int) := by omega
     have k2 : (T0 : Int) - (G0 : Int) < 5 := by omega
     by_cases c2 : 0 < F0
     ·have hCe : Hid (C = ⟨F0 - 1, G0 - (old.getD (F0 - 1) (0, [])).2.length, L0, T0⟩) := hid (by rw [← HC.out, if_pos c1, if_pos c2])
      obtain ⟨bo, oo, ax, cx, rfl, d0, d1, hx⟩ := HO2.out.cellsAt (F0 - 1) (by omega)
      have hge := hGe.out c2
      generalize (old.getD (F0 - 1) (0, [])).2 = x at *
      generalize (old.getD (F0 - 1) (0, [])).1 = xb at *
      obtain ⟨f1, rfl⟩ : ∃ f1, F0 = f1 + 1 := ⟨F0 - 1, by omega⟩
      rw [Nat.add_sub_cancel] at *
      have k3 : (0 : Int) < ((f1 + 1 : Nat) : Int) := by omega
      have k4 : IntKind.i64.wrap (f1 : Int) = (f1 : Int) := IntWalk.i64_in _ (by omega)
      have k5 : (f1 : Int) < (old.length : Int) := by omega
      have k6 : (0 : Int) ≤ (f1 : Int) := by omega
      have k7 : IntKind.i64.wrap ((G0 : Int) - (x.length : Int)) = (G0 : Int) - (x.length : Int) := IntWalk.i64_in _ (by omega)
      have k8 : ((G0 - x.length : Nat) : Int) = (G0 : Int) - (x.length : Int) := by omega
      have K8 := hid k8
      clear hx hge c1 c2 hGe hTe k8
      go_wp2_with fail
      go_meet
      exact ⟨_, rfl, by rw [hCe.out], by rw [hCe.out]; show _ = Value.int .i64 ((G0 - x.length : Nat) : Int); rw [K8.out], by rw [hCe.out], by rw [hCe.out], hw12⟩
     ·have hF : F0 = 0 := by omega
      have k3 : ¬ (0 : Int) < (F0 : Int) := by omega
      by_cases c3 : L0 < old.length
      ·have hCe : Hid (C = ⟨F0, G0, L0 + 1, T0 + (old.getD L0 (0, [])).2.length⟩) := hid (by rw [← HC.out, if_pos c1, if_neg c2, if_pos c3])
       obtain ⟨bo, oo, ax, cx, rfl, d0, d1, hx⟩ := HO2.out.cellsAt L0 c3
       have hte := hTe.out c3
       generalize (old.getD L0 (0, [])).2 = x at *
       generalize (old.getD L0 (0, [])).1 = xb at *
       have k4 : (L0 : Int) < (old.length : Int) := by omega
       have k6 : (0 : Int) ≤ (L0 : Int) := by omega
       have k7 : IntKind.i64.wrap ((T0 : Int) + (x.length : Int)) = (T0 : Int) + (x.length : Int) := IntWalk.i64_in _ (by omega)
       clear hx hte c1 c2 c3 hGe hTe hF
       go_wp2_with fail
       go_meet
       exact ⟨_, rfl, by rw [hCe.out], by rw [hCe.out], by rw [hCe.out]; go_num, by rw [hCe.out]; go_num, hw12⟩
      ·have hCe : Hid (C = ⟨F0, G0, L0, T0⟩) := hid (by rw [← HC.out, if_pos c1, if_neg c2, if_neg c3])
       have k4 : ¬ (L0 : Int) < (old.length : Int) := by omega
       clear c1 c2 c3 hGe hTe hF
       go_wp2_with fail
       go_meet
       exact ⟨_, rfl, by rw [hCe.out], by rw [hCe.out], by rw [hCe.out], by rw [hCe.out], hw12⟩
    ·have hCe : Hid (C = ⟨F0, G0, L0, T0⟩) := hid (by rw [← HC.out, if_neg c1])
     by_cases c2 : 0 < T0 - G0
     ·have k1 : (0 : Int) < (T0 : Int) - (G0 : Int) := by omega
      have k2 : ¬ (T0 : Int) - (G0 : Int) < 5 := by omega
      clear c1 c2 hGe hTe
      go_wp2_with fail
      go_meet
      exact ⟨_, rfl, by rw [hCe.out], by rw [hCe.out], by rw [hCe.out], by rw [hCe.out], hw12⟩
     ·have k1 : ¬ (0 : Int) < (T0 : Int) - (G0 : Int) := by omega
      clear c1 c2 hGe hTe
      go_wp2_with fail
      go_meet
      exact ⟨_, rfl, by rw [hCe.out], by rw [hCe.out], by rw [hCe.out], by rw [hCe.out], hw12⟩
   case rest =>
    obtain ⟨u13, rfl, rfl, rfl, rfl, rfl, hw13⟩ := hcut
    clear hw12 hGe hTe
    obtain ⟨f, g, l, t⟩ := C
    obtain ⟨q1, q2, q3, q4, q5⟩ := HC1.out
    dsimp only at q1 q2 q3 q4 q5 ⊢
    have Q4 := hid q4
    have Q5 := hid q5
    have q6 : t ≤ want.length := by omega
    clear q4 q5
    have hb13 : Hid (Below w.heap.size w wc) := hid (by obtain ⟨n, rfl⟩ := hw13.out; exact Below.drewN' (Below.refl _ _) n)
    have HO3 := hid (HO.out.below hb13.out)
    have hcap := HO3.out.cap
    have hk1 : (f : Int) ≤ (co : Int) := by omega
    have hk2 : (0 : Int) ≤ (f : Int) := by omega
    have hcl1 := hid (cloneNodes_any _ _ wc (HO3.out.takeS f (by omega)) (by rw [List.length_take]; omega))
    have hM3 := hid (HM.out.below hb13.out)
    clear hL1 hT1 hG0w hsub
    go_upto_region 20 with (refine hcl1.out.mono ?_; rintro e w14 ⟨v14, rfl, o14, b14⟩)
    have O14 := hid o14
    have B14 := hid (hb13.out.trans (b14.mono hb13.out.size))
    have hM4 := hid (hM3.out.below b14)
    have hU14 := hid (HU.out.keep (.of_below B14.out))
    clear o14 b14 hcl1
    generalize hP : Forks.parted 10 ((want.take t).drop g) = P at *
    have HP := hid hP
    clear hP
    have hwt : (want.take t).drop g = (want.drop g).take (t - g) := by rw [List.drop_take]
    go_cut [139, 140, 141] from 135 to 141 (fun a b c wx => ∃ u : Value, u = a ∧ b = .int .i64 (P.length : Int) ∧ c = .int .i64 0 ∧ Hid (OwnParts w14.heap.size wx u P ∧ Below w14.heap.size w14 wx))
    case first =>
     have k1 : (0 : Int) ≤ (g : Int) := by omega
     have k2 : (g : Int) ≤ (t : Int) := by omega
     have k3 : (t : Int) ≤ (cu : Int) := by omega
     have hmid : ∀ b o c', EntsAt w14 (.slice (some ⟨b, o, none⟩) want.length cu) want → EntsAt w14 (.slice (some ⟨b, o + g * 3, none⟩) (t - g) c') ((want.take t).drop g) := fun b o c' h => by
      rw [hwt]
      exact h.sub g (t - g) c' (by omega)
     have hmid0 : cu = g → ∀ b o c', EntsAt w14 (.slice (some ⟨b, o, none⟩) want.length cu) want → EntsAt w14 (.slice (some ⟨b, o, none⟩) (t - g) c') ((want.take t).drop g) := fun hcg b o c' h => by
      have e : (want.take t).drop g = [] := List.eq_nil_of_length_eq_zero (by rw [List.length_drop, List.length_take]; omega)
      rw [e, show t - g = 0 by omega]
      have := (h.takeS 0 (by omega) (cap' := c') (fun h => nomatch h))
      rwa [List.take_zero] at this
     have HMID := hid hmid
     have HMID0 := hid hmid0
     have hml : ((want.take t).drop g).length ≤ 1000000 := by rw [List.length_drop, List.length_take]; omega
     have hml0 : Hid (((want.take t).drop g).length = t - g) := hid (by rw [List.length_drop, List.length_take]; omega)
     clear hmid hmid0 hwt
     generalize (want.take t).drop g = mid at *
     cases au with
     | none =>
      have hz : want.length = 0 ∧ cu = 0 := by
       rcases HU.out with ⟨h, h0⟩ | ⟨_, _, _, _, _, h, _⟩
       ·injection h with _ h1 h2; exact ⟨h1, h2⟩
       ·cases h
      have hmz : mid = [] := List.eq_nil_of_length_eq_zero (by have := hml0.out; omega)
      have q := hid (parted_any (.slice none 0 0) mid w14 (.inl ⟨rfl, hmz⟩) hml (fun ad n c h => by cases h; omega))
      rw [HP.out] at q
      obtain rfl : t = 0 := by omega
      obtain rfl : g = 0 := by omega
      obtain rfl : cu = 0 := hz.2
      clear hmz hz
      go_wp2_with fail
      refine q.out.mono ?_
      rintro e w15 ⟨⟨v15, rfl, o15⟩, b15⟩
      obtain ⟨a15, c15, rfl⟩ := o15.form
      have R15 := hid (And.intro o15 b15)
      clear o15 b15
      go_wp2_with fail
      go_meet
      exact ⟨_, rfl, rfl, rfl, R15⟩
     | some ad =>
      obtain ⟨bu, ou, rfl⟩ : ∃ bu ou, ad = ⟨bu, ou, none⟩ := by
       rcases HU.out with ⟨h, _⟩ | ⟨bu, ou, _, _, _, h, _⟩
       ·cases h
       ·cases h; exact ⟨bu, ou, rfl⟩
      by_cases hcg : cu = g
      ·have hE0 := HMID0.out hcg bu ou 0 hU14.out
       rw [show t - g = 0 by omega] at hE0
       have q := hid (parted_any _ mid w14 hE0 hml (fun ad n c h => by cases h; omega))
       rw [HP.out] at q
       obtain rfl : t = g := by omega
       obtain rfl : cu = t := hcg
       clear hE0
       go_wp2_with fail
       refine q.out.mono ?_
       rintro e w15 ⟨⟨v15, rfl, o15⟩, b15⟩
       obtain ⟨a15, c15, rfl⟩ := o15.form
       have R15 := hid (And.intro o15 b15)
       clear o15 b15
       go_wp2_with fail
       go_meet
       exact ⟨_, rfl, rfl, rfl, R15⟩
      ·have hcg2 : ¬ ((cu : Int) = (g : Int)) := by omega
       have q := hid (parted_any _ mid w14 (HMID.out bu ou (cu - g) hU14.out) hml (fun ad n c h => by cases h; omega))
       rw [HP.out] at q
       go_wp2_with fail
       refine q.out.mono ?_
       rintro e w15 ⟨⟨v15, rfl, o15⟩, b15⟩
       obtain ⟨a15, c15, rfl⟩ := o15.form
       have R15 := hid (And.intro o15 b15)
       clear o15 b15
       go_wp2_with fail
       go_meet
       exact ⟨_, rfl, rfl, rfl, R15⟩
    case rest =>
     obtain ⟨v15, rfl, rfl, rfl, R15⟩ := hcut
     obtain ⟨inn, hi0, hz0, hz1, hz2⟩ := info_parts info_node
     obtain ⟨bs, hbs⟩ : ∃ bs : List Int, ((old.take l).drop f).map (fun n => n.1) = bs := ⟨_, rfl⟩
     have hbl : bs.length = l - f := by rw [← hbs, List.length_map, List.length_drop, List.length_take]; omega
     have HBS := hid hbs
     have HBL := hid hbl
     have hblk : Hid (∀ j, j < l - f → bs.getD j 0 = (old.getD (f + j) (0, [])).1) := hid (fun j hj => by
      rw [← hbs]
      simp [List.getD, show f + j < l by omega, show f + j < old.length by omega])
     have hPl : P.length ≤ 100000 := by
      have h2 : P.length = (((want.take t).drop g).length + 10 - 1) / 10 := by rw [← HP.out]; unfold Forks.parted; exact Forks.partN_len _ _
      rw [List.length_drop, List.length_take] at h2
      omega
     have HSTEP := hid (Forks.nameN_step bs m P)
     have HLE : Hid (∀ j, (Forks.nameN bs m (P.take j)).2 ≤ 1100000 ∧ (Forks.nameN bs m (P.take j)).1.length ≤ 100000) := hid (fun j => by
      have h1 := Forks.nameN_le bs m (P.take j)
      have h2 := Forks.nameN_len bs m (P.take j)
      rw [List.length_take] at h1 h2
      omega)
     have hM5 := hid (hM4.out.below R15.out.2)
     have O15 := hid (O14.out.below R15.out.2)
     have B15 := hid (B14.out.trans (R15.out.2.mono B14.out.size))
     clear hbs hbl hwt hM4 hM3 hU14
     go_wp2_with fail
     go_loopw [14, 141] (fun o q wr => ∃ (j : Nat) (u : Value), j ≤ P.length ∧ u = o ∧ q = .int .i64 (j : Int) ∧ Hid (OwnNodes w.heap.size wr u (old.take f ++ (Forks.nameN bs m (P.take j)).1)) ∧ Hid (MakerAt wr M (Forks.nameN bs m (P.take j)).2) ∧ Hid (OnlyM M w wr) ∧ Hid (KeepT 22 wc wr ∧ KeepE wc wr)) (fun _ q _ => P.length - (intOf q).toNat)
     case atStart => exact ⟨0, _, by omega, rfl, rfl, hid (by rw [List.take_zero, Forks.nameN_zero, List.append_nil]; obtain ⟨cs, h1, h2⟩ := O15.out; exact ⟨cs, World.ownsRow.mono h1 (by have := hb13.out.size; omega), h2⟩), hid (by rw [List.take_zero, Forks.nameN_zero]; exact hM5.out), hid (.of_below B15.out), hid ⟨.refl _ _, .refl _⟩⟩
     case round =>
      obtain ⟨j, o, hj, rfl, rfl, ho, hmk, hom, hkp⟩ := hrel
      by_cases hlt : j < P.length
      ·obtain ⟨pcs, hpo, hpc⟩ := R15.out.1
       have hpe : P[j]? = some (P.getD j []) := by rw [List.getD, List.getElem?_eq_getElem hlt]; rfl
       obtain ⟨pv, hpv, hpE⟩ := hpc.at j _ hpe
       have hpo2 := own_keepT hpo hkp.out.1
       have hpE2 := hid (hpE.keep hkp.out.2)
       have hpcell : ∃ gp cp, v15 = .slice (some ⟨gp, 0, none⟩) P.length cp ∧ wr.cell? ⟨gp, j, none⟩ = some pv := by
        rcases hpo2.2 with ⟨rfl, h0⟩ | ⟨gp, cp, cur, rfl, _, hh, _, _, _, h4⟩
        ·omega
        ·refine ⟨gp, cp, rfl, ?_⟩
         have e : (cur.toList.take (P.length * 1))[j]? = some pv := by rw [h4]; exact hpv
         rw [List.getElem?_take, if_pos (by omega), Array.getElem?_toList] at e
         simp [World.cell?, hh, e]
       obtain ⟨gp, cp, rfl, hpcell⟩ := hpcell
       obtain ⟨ap, cp2, rfl⟩ := hpE2.out.form
       have hst := hid (HSTEP.out j hlt)
       have hle := HLE.out j
       have hml1 := (HLE.out (j + 1)).1
       have hpl : (P.getD j []).length ≤ 1000000 := by
        have h1 : P.getD j [] ∈ P := by rw [show P.getD j [] = P[j] by simp [List.getD, hlt]]; exact List.getElem_mem hlt
        have h2 : P.getD j [] ∈ Forks.parted 10 ((want.take t).drop g) := by rw [HP.out]; exact h1
        have h3 := parted_mem_len h2
        have h4 : ((want.take t).drop g).length ≤ want.length := by rw [List.length_drop, List.length_take]; omega
        exact Nat.le_trans h3 (by omega)
       have hcl2 := hid (nclone_any _ _ wr hpE2.out.ext (by omega))
       obtain ⟨cs, hco1, hnc⟩ := ho.out
       have hz := hom.out.size
       clear hpo hpc hpe hpv hpE hpo2 ho
       generalize P.getD j [] = p at *
       generalize hNM : Forks.nameN bs m (P.take j) = NM at *
       have HNM := hid hNM
       clear hNM
       obtain ⟨NL, m'⟩ := NM
       dsimp only at *
       have hOL : (old.take f ++ NL).length ≤ 200000 := by rw [List.length_append, List.length_take]; omega
       generalize hL0 : old.take f ++ NL = L at *
       have HLL := hid hL0
       clear hL0
       have i0 : (0 : Int) ≤ (j : Int) := by omega
       have i1 : (j : Int) < (P.length : Int) := by omega
       obtain ⟨ao2, co2, rfl⟩ := (show OwnNodes w.heap.size wr o L from ⟨cs, hco1, hnc⟩).slice
       have HCO := hid hco1
       have HNC := hid hnc
       clear hco1 hnc
       go_wp2_with fail
       refine hcl2.out.mono ?_
       rintro e w16 ⟨v16, rfl, o16, b16⟩
       have O16 := hid o16.ents
       have B16 := hid b16
       obtain ⟨a16, c16, rfl⟩ := o16.slice
       clear o16 b16
       by_cases hj2 : j < l - f
       ·have hst' := hst.out
        rw [if_pos (by rw [HBL.out]; exact hj2)] at hst'
        have HO16 := hid ((HO.out.keep (hom.out.keep HM.out (by decide)) (hom.out.keep HM.out (by decide))).below B16.out)
        obtain ⟨bo, oo, ax, cx, rfl, d0, -, -⟩ := HO16.out.cellsAt (f + j) (by omega)
        rw [← hblk.out j hj2] at d0
        have zbo : bo < w16.heap.size := World.block_lt_of_cell? _ _ d0
        generalize bs.getD j 0 = xb at *
        have HST := hid hst'
        have k1 : (f : Int) + (j : Int) < (l : Int) := by omega
        have k2 : (f : Int) + (j : Int) < (old.length : Int) := by omega
        have k3 : (0 : Int) ≤ (f : Int) + (j : Int) := by omega
        have k4 : IntKind.i64.wrap ((f : Int) + (j : Int)) = (f : Int) + (j : Int) := IntWalk.i64_in _ (by omega)
        have bA : Below w16.heap.size w16 (w16.alloc (.cells #[.int .i64 xb, .slice a16 p.length c16] 131)) := (Below.refl _ _).alloc (Nat.le_refl _) _
        have hb17 : Below wr.heap.size wr (w16.alloc (.cells #[.int .i64 xb, .slice a16 p.length c16] 131)) := B16.out.trans (bA.mono B16.out.size)
        have HO17 := hid (own_below HCO.out hb17)
        have HN17 := hid (HNC.out.keep (.of_below hb17))
        have HE17 := hid (O16.out.keep (.of_below bA))
        have HM17 := hid (hmk.out.below hb17)
        have HF17 := hid (hom.out.trans (.of_below hb17))
        have HK17 := hid (And.intro (hkp.out.1.trans (.of_below hb17)) (hkp.out.2.trans (.of_below hb17)))
        have hone : ∀ u ∈ [Value.int .i64 xb, .slice a16 p.length c16], u.oneCell' = true := by
         intro u hu
         simp at hu
         rcases hu with rfl | rfl <;> rfl
        have hB17 : w.heap.size ≤ (w16.alloc (.cells #[.int .i64 xb, .slice a16 p.length c16] 131)).heap.size := by have := B16.out.size; simp; omega
        have H17 : ∀ o : Obj, w.heap.size ≤ ((w16.alloc (.cells #[.int .i64 xb, .slice a16 p.length c16] 131)).alloc o).heap.size := fun o => by simp at hB17 ⊢; omega
        generalize hLn : L.length = Ln at *
        have HLn := hid hLn
        clear hst' hst bA hb17 hB17 hj2 hLn
        go_wp2_with (first | (at_builtin; refine wpList_append_own _ rfl (.tmp 175) (.tmp 177) 128 rfl w.heap.size 131 inn (.agg #[.int .i64 0, .slice none 0 0]) 2 32 Tryz.underlying128 hi0 hz0 hz1 hz2 rfl (by decide) _ Ln cs rfl (HO17.out.alloc _) ⟨w16.heap.size + 1, 0, none⟩ 1 1 [.int .i64 xb, .slice a16 p.length c16] rfl rfl (World.news_of_block (heap_alloc_new2 _ _ _)) hone (by unfold maxLen; omega) (by omega) (H17 _) ?_))
        intro v' w18 hown hgrow _
        rw [← HLn.out] at hown
        have hpush := node_push (x := (xb, p)) (by rw [HLn.out]; exact HO17.out) HN17.out HE17.out (Nat.le_refl _) HM17.out HF17.out hgrow hown
        have hL18 : Hid (old.take f ++ (Forks.nameN bs m (P.take (j + 1))).1 = L ++ [(xb, p)] ∧ (Forks.nameN bs m (P.take (j + 1))).2 = m') := hid (by rw [HST.out]; exact ⟨by rw [← HLL.out, List.append_assoc], rfl⟩)
        have F1 : Hid (OwnNodes w.heap.size w18 v' (old.take f ++ (Forks.nameN bs m (P.take (j + 1))).1)) := hid (by rw [hL18.out.1]; exact hpush.1)
        have F2 : Hid (MakerAt w18 M (Forks.nameN bs m (P.take (j + 1))).2) := hid (by rw [hL18.out.2]; exact hpush.2.1)
        have F3 := hid hpush.2.2.1
        have F4 := hid (And.intro (HK17.out.1.trans hpush.2.2.2.1) (HK17.out.2.trans hpush.2.2.2.2))
        clear hpush hown hgrow
        go_wp2_with fail
        go_roundw
        case rel => exact ⟨j + 1, v', by omega, rfl, by go_num, F1, F2, F3, F4⟩
        case measure => simp [intOf]; omega
       ·have hst' := hst.out
        rw [if_neg (by rw [HBL.out]; exact hj2)] at hst'
        have HST := hid hst'
        have k1 : ¬ (f : Int) + (j : Int) < (l : Int) := by omega
        have k5 : (0 : Int) ≤ (m' : Int) := by omega
        have k6 : (m' : Int) ≤ 1100000 := by omega
        have hmk16 := hmk.out.below B16.out
        have cM := cell_of_one hmk16
        have fM := free_of_one hmk16
        have zM := lt_of_block hmk16
        have hmk17 : MakerAt (w16.setCell ⟨M, 0, none⟩ (.int .i64 ((m' : Int) + 1))) M (m' + 1) := hmk16.set (m' + 1)
        have kS : ∀ T, T ≠ 144 → KeepT T w16 (w16.setCell ⟨M, 0, none⟩ (.int .i64 ((m' : Int) + 1))) := fun T hT => KeepT.set (a := ⟨M, 0, none⟩) hmk16 hT
        have oS : OnlyM M w16 (w16.setCell ⟨M, 0, none⟩ (.int .i64 ((m' : Int) + 1))) := OnlyM.set w16 0 _
        have k4 : IntKind.i64.wrap ((f : Int) + (j : Int)) = (f : Int) + (j : Int) := IntWalk.i64_in _ (by omega)
        have bA : Below w16.heap.size (w16.setCell ⟨M, 0, none⟩ (.int .i64 ((m' : Int) + 1))) ((w16.setCell ⟨M, 0, none⟩ (.int .i64 ((m' : Int) + 1))).alloc (.cells #[.int .i64 (-((m' : Int) + 1)), .slice a16 p.length c16] 131)) := (Below.refl _ _).alloc (by simp) _
        have bA2 : Below (w16.setCell ⟨M, 0, none⟩ (.int .i64 ((m' : Int) + 1))).heap.size (w16.setCell ⟨M, 0, none⟩ (.int .i64 ((m' : Int) + 1))) ((w16.setCell ⟨M, 0, none⟩ (.int .i64 ((m' : Int) + 1))).alloc (.cells #[.int .i64 (-((m' : Int) + 1)), .slice a16 p.length c16] 131)) := (Below.refl _ _).alloc (Nat.le_refl _) _
        have kW : ∀ T, T ≠ 144 → KeepT T wr ((w16.setCell ⟨M, 0, none⟩ (.int .i64 ((m' : Int) + 1))).alloc (.cells #[.int .i64 (-((m' : Int) + 1)), .slice a16 p.length c16] 131)) := fun T hT => ((KeepT.of_below B16.out).trans (kS T hT)).trans (.of_below bA2)
        have HO17 := hid (own_keepT HCO.out (kW _ (by decide)))
        have HN17 := hid (HNC.out.keep (kW _ (by decide)))
        have HE17 := hid ((O16.out.keep (kS _ (by decide))).keep (.of_below bA2))
        have HM17 := hid (hmk17.below bA2)
        have HF17 := hid (((hom.out.trans (.of_below B16.out)).trans oS).trans (.of_below bA2))
        have HK17 := hid (And.intro (hkp.out.1.trans (kW _ (by decide))) (hkp.out.2.trans (kW _ (by decide))))
        have hone : ∀ u ∈ [Value.int .i64 (-((m' : Int) + 1)), .slice a16 p.length c16], u.oneCell' = true := by
         intro u hu
         simp at hu
         rcases hu with rfl | rfl <;> rfl
        have hB17 : w.heap.size ≤ ((w16.setCell ⟨M, 0, none⟩ (.int .i64 ((m' : Int) + 1))).alloc (.cells #[.int .i64 (-((m' : Int) + 1)), .slice a16 p.length c16] 131)).heap.size := by have := B16.out.size; simp; omega
        have H16 : w.heap.size ≤ w16.heap.size := by have := B16.out.size; omega
        have H17 : ∀ o : Obj, w.heap.size ≤ (((w16.setCell ⟨M, 0, none⟩ (.int .i64 ((m' : Int) + 1))).alloc (.cells #[.int .i64 (-((m' : Int) + 1)), .slice a16 p.length c16] 131)).alloc o).heap.size := fun o => by simp at hB17 ⊢; omega
        generalize hLn : L.length = Ln at *
        have HLn := hid hLn
        clear hst' hst bA bA2 kW kS oS hmk16 hmk17 hB17 hj2 hLn
        go_wp2_with (first | (at_builtin; refine wpList_append_own _ rfl (.tmp 175) (.tmp 177) 128 rfl w.heap.size 131 inn (.agg #[.int .i64 0, .slice none 0 0]) 2 32 Tryz.underlying128 hi0 hz0 hz1 hz2 rfl (by decide) _ Ln cs rfl (HO17.out.alloc _) ⟨w16.heap.size + 1, 0, none⟩ 1 1 [.int .i64 (-((m' : Int) + 1)), .slice a16 p.length c16] rfl rfl (World.news_of_block (heap_alloc_new3 _ _ _ _ _)) hone (by unfold maxLen; omega) (by omega) (H17 _) ?_))
        intro v' w18 hown hgrow _
        rw [← HLn.out] at hown
        have hpush := node_push (x := (-((m' : Int) + 1), p)) (by rw [HLn.out]; exact HO17.out) HN17.out HE17.out (Nat.le_refl _) HM17.out HF17.out hgrow hown
        have hL18 : Hid (old.take f ++ (Forks.nameN bs m (P.take (j + 1))).1 = L ++ [(-((m' : Int) + 1), p)] ∧ (Forks.nameN bs m (P.take (j + 1))).2 = m' + 1) := hid (by rw [HST.out]; exact ⟨by rw [← HLL.out, List.append_assoc], rfl⟩)
        have F1 : Hid (OwnNodes w.heap.size w18 v' (old.take f ++ (Forks.nameN bs m (P.take (j + 1))).1)) := hid (by rw [hL18.out.1]; exact hpush.1)
        have F2 : Hid (MakerAt w18 M (Forks.nameN bs m (P.take (j + 1))).2) := hid (by rw [hL18.out.2]; exact hpush.2.1)
        have F3 := hid hpush.2.2.1
        have F4 := hid (And.intro (HK17.out.1.trans hpush.2.2.2.1) (HK17.out.2.trans hpush.2.2.2.2))
        clear hpush hown hgrow
        go_wp2_with fail
        go_roundw
        case rel => exact ⟨j + 1, v', by omega, rfl, by go_num, F1, F2, F3, F4⟩
        case measure => simp [intOf]; omega
      ·obtain rfl : j = P.length := by omega
       have hres : Hid (LV = (old.take f ++ (Forks.nameN bs m P).1 ++ old.drop l, (Forks.nameN bs m P).2)) := hid (by
        rw [← HL.out, hcl.out]
        unfold Forks.levelC
        dsimp only
        rw [HBS.out, HP.out])
       have hle := HLE.out P.length
       have ho2 := ho.out
       have hm2 := hmk.out
       rw [List.take_length] at hle ho2 hm2
       obtain ⟨cs, hco1, hnc⟩ := ho2
       have hOLn : (old.take f ++ (Forks.nameN bs m P).1).length ≤ 200000 := by rw [List.length_append, List.length_take]; omega
       have hz := hom.out.size
       generalize Forks.nameN bs m P = NR at *
       obtain ⟨NL, mm⟩ := NR
       dsimp only at *
       generalize old.take f ++ NL = L at *
       obtain ⟨ao2, co2, rfl⟩ := (show OwnNodes w.heap.size wr o L from ⟨cs, hco1, hnc⟩).slice
       have HCO := hid hco1
       have HNC := hid hnc
       have HM2 := hid hm2
       have HOr := hid (HO.out.keep (hom.out.keep HM.out (by decide)) (hom.out.keep HM.out (by decide)))
       have k1 : (0 : Int) ≤ (l : Int) := by omega
       have k2 : (l : Int) ≤ (old.length : Int) := by omega
       have k3 : (old.length : Int) ≤ (co : Int) := by omega
       generalize hLn : L.length = Ln at *
       have HLn := hid hLn
       clear hco1 hnc hm2 ho hmk hle hLn
       cases ao with
       | none =>
        have hz0 : old = [] ∧ co = 0 := by
         rcases HOr.out with ⟨h, h0⟩ | ⟨_, _, _, _, _, _, h, _⟩
         ·injection h with _ h1 h2; exact ⟨h0, h2⟩
         ·cases h
        have hol : old.length = 0 := by rw [hz0.1]; rfl
        have hdr : Hid (old.drop l = []) := hid (by rw [hz0.1]; exact List.drop_nil)
        generalize hON : old.length = on at *
        obtain rfl : on = 0 := hol
        obtain rfl : l = 0 := by omega
        obtain rfl : co = 0 := hz0.2
        have F : Hid ((∃ v', Ending.returned (.slice ao2 Ln co2) = .returned v' ∧ OwnNodes w.heap.size wr v' LV.1) ∧ MakerAt wr M LV.2 ∧ OnlyM M w wr) := hid (by
         rw [hres.out]
         exact ⟨⟨_, rfl, by rw [hdr.out, List.append_nil]; exact ⟨cs, by rw [HLn.out]; exact HCO.out, HNC.out⟩⟩, HM2.out, hom.out⟩)
        clear hz0 hON
        go_wp2_with (first | (at_builtin; refine wpList_append_own_none rfl (.tmp 180) (.tmp 183) 128 rfl w.heap.size 131 inn 2 Tryz.underlying128 hi0 _ Ln cs rfl HCO.out rfl ?_))
        go_wp2_with fail
        go_ret
        exact F.out
       | some ad =>
        obtain ⟨bo, oo, arr, fr, ds, rfl, hbb, hcells, hnd⟩ : ∃ bo oo arr fr ds, ad = ⟨bo, oo, none⟩ ∧ wr.heap[bo]? = some (.cells arr 131 fr) ∧ (∀ j u, ds[j]? = some u → arr[oo + j]? = some u) ∧ NodeCells wr ds old := by
         rcases HOr.out with ⟨h, _⟩ | ⟨bo, oo, _, arr, fr, ds, h, _, hbb, hcells, hnd⟩
         ·cases h
         ·cases h; exact ⟨bo, oo, arr, fr, ds, rfl, hbb, hcells, hnd⟩
        have hcell : ∀ j u, ds[j]? = some u → wr.cell? ⟨bo, oo + j, none⟩ = some u := fun j u hu => by rw [cell_of_row wr bo (oo + j) _ _ _ hbb]; exact hcells j u hu
        have hnd2 := hid (hnd.drop l)
        have hdl : (ds.drop (l * 2)).length = (old.length - l) * 2 := by rw [hnd2.out.length, List.length_drop]
        have hdl2 : Hid (old.length - l = (old.drop l).length) := hid List.length_drop.symm
        have hone : ∀ u ∈ ds.drop (l * 2), u.oneCell' = true := NodeCells.one hnd2.out
        by_cases hcl2 : co = l
        ·have hon : old.length = l := by omega
         have hnil : ds.drop (l * 2) = [] := List.eq_nil_of_length_eq_zero (by rw [hdl]; omega)
         have hdn : Hid (old.drop l = []) := hid (List.eq_nil_of_length_eq_zero (by rw [← hdl2.out]; omega))
         have F : Hid (∀ w4, wr.grownBy w4 (Value.slice ao2 Ln co2).ownBlock → ∀ v4, w4.ownsRow w.heap.size 131 2 v4 Ln cs → (∃ v', Ending.returned v4 = .returned v' ∧ OwnNodes w.heap.size w4 v' LV.1) ∧ MakerAt w4 M LV.2 ∧ OnlyM M w w4) := hid (fun w4 hg v4 hown => by
          have := nodes_push (N := []) (ds := []) (k := 0) (by rw [HLn.out]; exact HCO.out) HNC.out trivial rfl (Nat.le_refl _) HM2.out hom.out hg (by rw [List.append_nil, Nat.add_zero, HLn.out]; exact hown)
          rw [hres.out]
          exact ⟨⟨_, rfl, by rw [hdn.out]; exact this.1⟩, this.2.1, this.2.2⟩)
         generalize hON : old.length = on at *
         obtain rfl : on = l := hon
         obtain rfl : co = on := hcl2
         have hnews : ∀ (j : Nat) (u : Value), ([] : List Value)[j]? = some u → wr.cell? ((⟨bo, oo, none⟩ : Addr).add j) = some u := fun j u hu => by simp at hu
         clear hnd hcells hcell hnil hone hdl hON
         go_wp2_with (first | (at_builtin; refine wpList_append_own _ rfl (.tmp 180) (.tmp 183) 128 rfl w.heap.size 131 inn (.agg #[.int .i64 0, .slice none 0 0]) 2 32 Tryz.underlying128 hi0 hz0 hz1 hz2 rfl (by decide) _ Ln cs rfl HCO.out ⟨bo, oo, none⟩ 0 0 [] rfl rfl hnews (fun u hu => nomatch hu) (by unfold maxLen; omega) (by omega) hz ?_))
         intro v' w18 hown hgrow _
         have G := hid (F.out w18 hgrow v' hown)
         clear hown hgrow
         go_wp2_with fail
         go_ret
         exact G.out
        ·have hcl3 : ¬ ((co : Int) = (l : Int)) := by omega
         have hnews : ∀ (j : Nat) (u : Value), (ds.drop (l * 2))[j]? = some u → wr.cell? ((⟨bo, oo + l * 2, none⟩ : Addr).add j) = some u := fun j u hu => by
          have e1 : (⟨bo, oo + l * 2, none⟩ : Addr).add j = ⟨bo, oo + l * 2 + j, none⟩ := by unfold Addr.add; split <;> simp_all
          rw [e1, Nat.add_assoc]
          refine hcell _ u ?_
          rwa [List.getElem?_drop] at hu
         have F : Hid (∀ w4, wr.grownBy w4 (Value.slice ao2 Ln co2).ownBlock → ∀ v4, w4.ownsRow w.heap.size 131 2 v4 (Ln + (old.length - l)) (cs ++ ds.drop (l * 2)) → (∃ v', Ending.returned v4 = .returned v' ∧ OwnNodes w.heap.size w4 v' LV.1) ∧ MakerAt w4 M LV.2 ∧ OnlyM M w w4) := hid (fun w4 hg v4 hown => by
          have := nodes_push (by rw [HLn.out]; exact HCO.out) HNC.out hnd2.out hdl2.out (Nat.le_refl _) HM2.out hom.out hg (by rw [HLn.out]; exact hown)
          rw [hres.out]
          exact ⟨⟨_, rfl, this.1⟩, this.2.1, this.2.2⟩)
         generalize ds.drop (l * 2) = news at *
         clear hnd hcells hcell
         go_wp2_with (first | (at_builtin; refine wpList_append_own _ rfl (.tmp 180) (.tmp 183) 128 rfl w.heap.size 131 inn (.agg #[.int .i64 0, .slice none 0 0]) 2 32 Tryz.underlying128 hi0 hz0 hz1 hz2 rfl (by decide) _ Ln cs rfl HCO.out ⟨bo, oo + l * 2, none⟩ (old.length - l) (co - l) news rfl hdl hnews hone (by unfold maxLen; omega) (by omega) hz ?_))
         intro v' w18 hown hgrow _
         have G := hid (F.out w18 hgrow v' hown)
         clear hown hgrow
         go_wp2_with fail
         go_ret
         exact G.out
end Go.Proofs.YtgjmeeiejcbjfaaGreat
