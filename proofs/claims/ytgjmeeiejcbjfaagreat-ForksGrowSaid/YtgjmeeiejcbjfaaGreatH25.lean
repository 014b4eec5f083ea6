/- Forks: what a shape changes, as functions (no program here); lists of changes in memory. -/
import Derived.Test.YtgjmeeiejcbjfaaGreatH23
import Derived.Test.YtgjmeeiejcbjfaaGreatH24
import Derived.Test.YtgjmeeiejcbjfaaGreatH17
set_option linter.unusedSimpArgs false
set_option linter.unusedVariables false
namespace Go.Proofs.YtgjmeeiejcbjfaaGreat
open Go Go.RowKit
abbrev CL := List (Int × ByteArray)
def ccells (l : CL) : List Value := l.flatMap fun x => [.int .i64 x.1, .string x.2]
theorem ccells_length (l : CL) : (ccells l).length = l.length * 2 := by
 induction l with
 | nil => rfl
 | cons x l ih =>
  have : ccells (x :: l) = .int .i64 x.1 :: .string x.2 :: ccells l := by simp [ccells]
  rw [this]
  simp only [List.length_cons, ih]
  omega
theorem ccells_append (a b : CL) : ccells (a ++ b) = ccells a ++ ccells b := by simp [ccells]
theorem ccells_at : ∀ (l : CL) (i : Nat), i < l.length → (ccells l)[i * 2]? = some (.int .i64 (l.getD i (0, ⟨#[]⟩)).1) ∧ (ccells l)[i * 2 + 1]? = some (.string (l.getD i (0, ⟨#[]⟩)).2)
 | [], i, h => by simp at h
 | x :: l, 0, _ => by simp [ccells]
 | x :: l, i + 1, h => by
  have ih := ccells_at l i (by simpa using h)
  have e : ccells (x :: l) = .int .i64 x.1 :: .string x.2 :: ccells l := by simp [ccells]
  rw [e, show (i + 1) * 2 = i * 2 + 1 + 1 by omega]
  simpa using ih
def ChgsAt (w : World) (v : Value) (l : CL) : Prop :=
 (v = .slice none 0 0 ∧ l = []) ∨ ∃ b off cap, v = .slice (some ⟨b, off, none⟩) l.length cap ∧ ∀ j u, (ccells l)[j]? = some u → w.cell? ⟨b, off + j, none⟩ = some u
theorem ChgsAt.below {w w' : World} {v : Value} {l : CL} (h : ChgsAt w v l) (hb : Below w.heap.size w w') : ChgsAt w' v l := by
 rcases h with h | ⟨b, off, cap, rfl, hc⟩
 ·exact .inl h
 ·exact .inr ⟨b, off, cap, rfl, fun j u hu => (hb.cell (p := ⟨b, off + j, none⟩) (World.block_lt_of_cell? w _ (hc j u hu))).trans (hc j u hu)⟩
theorem ChgsAt.form {w : World} {v : Value} {l : CL} (h : ChgsAt w v l) : ∃ ad cap, v = .slice ad l.length cap := by
 rcases h with ⟨rfl, rfl⟩ | ⟨b, off, cap, rfl, _⟩
 ·exact ⟨_, _, rfl⟩
 ·exact ⟨_, _, rfl⟩
theorem ChgsAt.cells {w : World} {ad : Option Addr} {n cap : Nat} {l : CL} (h : ChgsAt w (.slice ad n cap) l) (i : Nat) (hi : i < l.length) : ∃ g off, ad = some ⟨g, off, none⟩ ∧ w.cell? ⟨g, off + i * 2, none⟩ = some (.int .i64 (l.getD i (0, ⟨#[]⟩)).1) ∧ w.cell? ⟨g, off + i * 2 + 1, none⟩ = some (.string (l.getD i (0, ⟨#[]⟩)).2) := by
 rcases h with ⟨h, rfl⟩ | ⟨b, off, c, h, hc⟩
 ·simp at hi
 ·cases h
  exact ⟨b, off, rfl, hc _ _ (ccells_at l i hi).1, by have := hc _ _ (ccells_at l i hi).2; rwa [← Nat.add_assoc] at this⟩
def OwnChgs (B : Nat) (w : World) (v : Value) (l : CL) : Prop := w.ownsRow B 72 2 v l.length (ccells l)
theorem OwnChgs.at {B : Nat} {w : World} {v : Value} {l : CL} (h : OwnChgs B w v l) : ChgsAt w v l := by
 rcases h.2 with ⟨rfl, hn⟩ | ⟨g, cap, cur, rfl, hg, hh, h1, h2, h3, h4⟩
 ·exact .inl ⟨rfl, List.eq_nil_of_length_eq_zero hn⟩
 ·refine .inr ⟨g, 0, cap, rfl, fun j u hu => ?_⟩
  have hj : j < l.length * 2 := by
   have := (List.getElem?_eq_some_iff.1 hu).1
   rwa [ccells_length] at this
  rw [Nat.zero_add]
  have e : (cur.toList.take (l.length * 2))[j]? = some u := by rw [h4]; exact hu
  rw [List.getElem?_take, if_pos hj, Array.getElem?_toList] at e
  simp [World.cell?, hh, e]
theorem OwnChgs.below {B : Nat} {w w' : World} {v : Value} {l : CL} (h : OwnChgs B w v l) (hb : Below w.heap.size w w') : OwnChgs B w' v l := ⟨h.1, h.2.imp id (fun ⟨g, cap, cur, hv, hg, hh, r⟩ => ⟨g, cap, cur, hv, hg, by rw [hb.block g (lt_of_block hh)]; exact hh, r⟩)⟩
theorem OwnChgs.slice {B : Nat} {w : World} {v : Value} {l : CL} (h : OwnChgs B w v l) : ∃ ad c, v = .slice ad l.length c := h.at.form
theorem info_change : (Tryz.prog.info? 72).map (fun i => (i.zero, i.size, i.bytes)) = some (some (.agg #[.int .i64 0, .string ⟨#[]⟩]), 2, 24) := by kernel_rfl
namespace Forks
def nodeTxt (T : IL) (leaf : Bool) (n : Node) : ByteArray := txt (Ents.nodeB (knownT T leaf n.2) leaf)
def putL (T : IL) (leaf : Bool) : List Node → List ByteArray → Except Int (List ByteArray)
 | [], TX => .ok TX
 | n :: L, TX => if Ents.EncOk (knownT T leaf n.2) leaf then putL T leaf L (TX.set (blockT T n.1).toNat (nodeTxt T leaf n)) else .error 2
def putLs (T : IL) : Nat → List (List Node) → List ByteArray → Except Int (List ByteArray)
 | _, [], TX => .ok TX
 | h, L :: LV, TX => match putL T (h == 0) L TX with
  | .error e => .error e
  | .ok TX' => putLs T (h + 1) LV TX'
def thenLs (T : IL) (h : Nat) (LV : List (List Node)) : Except Int (List ByteArray) → Except Int (List ByteArray)
 | .error e => .error e
 | .ok TX => putLs T h LV TX
theorem putLs_step (T : IL) (LV : List (List Node)) (h : Nat) (hh : h < LV.length) (TX : List ByteArray) : putLs T h (LV.drop h) TX = thenLs T (h + 1) (LV.drop (h + 1)) (putL T (h == 0) (LV.getD h []) TX) := by
 have e : LV.getD h [] = LV[h] := by simp [List.getD, hh]
 rw [List.drop_eq_getElem_cons hh, putLs, e]
 cases putL T (h == 0) LV[h] TX <;> rfl
theorem putLs_end (T : IL) (LV : List (List Node)) (TX : List ByteArray) : putLs T LV.length (LV.drop LV.length) TX = .ok TX := by
 rw [List.drop_length]; rfl
theorem putL_ok (T : IL) (leaf : Bool) (L : List Node) (i : Nat) (hi : i < L.length) (TX : List ByteArray) (hk : Ents.EncOk (knownT T leaf (L.getD i (0, [])).2) leaf) : putL T leaf (L.drop i) TX = putL T leaf (L.drop (i + 1)) (TX.set (blockT T (L.getD i (0, [])).1).toNat (nodeTxt T leaf (L.getD i (0, [])))) := by
 have e : L.getD i (0, []) = L[i] := by simp [List.getD, hi]
 rw [e] at hk ⊢
 rw [List.drop_eq_getElem_cons hi, putL, if_pos hk]
theorem putL_no (T : IL) (leaf : Bool) (L : List Node) (i : Nat) (hi : i < L.length) (TX : List ByteArray) (hk : ¬ Ents.EncOk (knownT T leaf (L.getD i (0, [])).2) leaf) : putL T leaf (L.drop i) TX = .error 2 := by
 have e : L.getD i (0, []) = L[i] := by simp [List.getD, hi]
 rw [e] at hk
 rw [List.drop_eq_getElem_cons hi, putL, if_neg hk]
theorem putL_end (T : IL) (leaf : Bool) (L : List Node) (TX : List ByteArray) : putL T leaf (L.drop L.length) TX = .ok TX := by
 rw [List.drop_length]; rfl
def noTexts : List ByteArray := List.replicate 4096 ⟨#[]⟩
theorem noTexts_len : noTexts.length = 4096 := List.length_replicate
def tx (TX : List ByteArray) (b : Nat) : ByteArray := TX.getD b ⟨#[]⟩
def chB (v : V) (TX : List ByteArray) (b : Nat) : Bool := !(tx TX b).toList.isEmpty && !((tx TX b).toList == (textOf v b).toList)
def frB (v : V) (TX : List ByteArray) (b : Nat) : Bool := (tx TX b).toList.isEmpty && !(textOf v b).toList.isEmpty
def chT (v : V) (TX : List ByteArray) (n : Nat) : CL := ((List.range n).filter (chB v TX)).map fun (b : Nat) => ((b : Int), tx TX b)
def frT (v : V) (TX : List ByteArray) (n : Nat) : IL := ((List.range n).filter (frB v TX)).map fun (b : Nat) => (b : Int)
theorem chT_succ (v : V) (TX : List ByteArray) (n : Nat) : chT v TX (n + 1) = chT v TX n ++ (if chB v TX n = true then [((n : Int), tx TX n)] else []) := by
 unfold chT
 rw [List.range_succ, List.filter_append, List.map_append]
 congr 1
 cases h : chB v TX n <;> simp [h]
theorem frT_succ (v : V) (TX : List ByteArray) (n : Nat) : frT v TX (n + 1) = frT v TX n ++ (if frB v TX n = true then [(n : Int)] else []) := by
 unfold frT
 rw [List.range_succ, List.filter_append, List.map_append]
 congr 1
 cases h : frB v TX n <;> simp [h]
theorem chT_len (v : V) (TX : List ByteArray) (n : Nat) : (chT v TX n).length ≤ n := by
 unfold chT
 rw [List.length_map]
 have := List.length_filter_le (chB v TX) (List.range n)
 rwa [List.length_range] at this
theorem frT_len (v : V) (TX : List ByteArray) (n : Nat) : (frT v TX n).length ≤ n := by
 unfold frT
 rw [List.length_map]
 have := List.length_filter_le (frB v TX) (List.range n)
 rwa [List.length_range] at this
structure SetR where
 depth : Int
 root : EL
 changes : CL
 freed : IL
def setT (v : V) (LV : List (List Node)) (root : EL) (T : IL) : Except Int SetR :=
 match putLs T 0 LV noTexts with
 | .error e => .error e
 | .ok TX => .ok ⟨LV.length, knownT T (LV.length == 0) root, chT v TX 4096, frT v TX 4096⟩
structure SetOk (T : IL) (LV : List (List Node)) (root : EL) : Prop where
 blk : ∀ L ∈ LV, ∀ n ∈ L, AskOk T n.1 ∧ 0 ≤ blockT T n.1 ∧ blockT T n.1 < 4096
 ent : ∀ h, h ≠ 0 → ∀ n ∈ LV.getD h [], ∀ x ∈ n.2, AskOk T x.2.1
 rt : LV.length ≠ 0 → ∀ x ∈ root, AskOk T x.2.1
 small : ∀ h, ∀ n ∈ LV.getD h [], SmallsE (knownT T (h == 0) n.2)
 n10 : ∀ L ∈ LV, ∀ n ∈ L, n.2.length ≤ 1000000
 lens : ∀ L ∈ LV, L.length ≤ 1000000
 many : LV.length ≤ 1000000
 rl : root.length ≤ 1000000
end Forks
def SetOut (w0 : World) (r : Except Int Forks.SetR) (e : Ending) (w' : World) : Prop :=
 Below w0.heap.size w0 w' ∧ match r with
  | .error k => e = .returned (.tuple #[setV 0 (.slice none 0 0) (.slice none 0 0) (.slice none 0 0), .int .i64 k]) ∧ k ≠ 0
  | .ok s => ∃ rv cv fv, e = .returned (.tuple #[setV s.depth rv cv fv, .int .i64 0]) ∧ OwnEnts w0.heap.size w' rv s.root ∧ OwnChgs w0.heap.size w' cv s.changes ∧ OwnInts w0.heap.size w' fv s.freed
end Go.Proofs.YtgjmeeiejcbjfaaGreat
namespace Go.Proofs.YtgjmeeiejcbjfaaGreat.Forks
open Go Go.RowKit
def ents : List Node → EL
 | [] => []
 | n :: L => n.2 ++ ents L
theorem ents_append (a b : List Node) : ents (a ++ b) = ents a ++ ents b := by
 induction a with
 | nil => rfl
 | cons n a ih => simp [ents, ih]
theorem ents_length (L : List Node) : (ents L).length = lens L := by
 induction L with
 | nil => rfl
 | cons n L ih => simp [ents, lens, ih]
theorem mem_ents {L : List Node} {x : E} : x ∈ ents L ↔ ∃ n ∈ L, x ∈ n.2 := by
 induction L with
 | nil => simp [ents]
 | cons n L ih => simp [ents, ih]
theorem ents_reverse_snoc (r : List Node) (n : Node) : ents (n :: r).reverse = ents r.reverse ++ n.2 := by
 rw [List.reverse_cons, ents_append]
 simp [ents]
theorem preN_ents : ∀ (old : List Node) (want : EL), ents (old.take (preN old want)) = want.take (lens (old.take (preN old want)))
 | [], want => by simp [preN, ents, lens]
 | n :: old, want => by
  unfold preN
  split
  ·rename_i h
   rw [List.take_succ_cons]
   simp only [ents, lens]
   rw [preN_ents old (want.drop n.2.length), List.take_add, h.2]
  ·simp [ents, lens]
theorem sufN_ents : ∀ (r : List Node) (mid : EL), ents (r.take (sufN r mid)).reverse = mid.drop (mid.length - lens (r.take (sufN r mid)))
 | [], mid => by simp [sufN, ents, lens]
 | n :: r, mid => by
  unfold sufN
  split
  ·rename_i h
   rw [List.take_succ_cons, ents_reverse_snoc, sufN_ents r (mid.take (mid.length - n.2.length))]
   simp only [lens]
   have hs := (sufN_le r (mid.take (mid.length - n.2.length))).2
   rw [List.length_take] at hs
   have e : (mid.take (mid.length - n.2.length)).length = mid.length - n.2.length := by rw [List.length_take]; omega
   rw [e]
   generalize lens (r.take (sufN r (mid.take (mid.length - n.2.length)))) = k at *
   have h2 := h.2
   have e2 : mid.drop (mid.length - (n.2.length + k)) = (mid.take (mid.length - n.2.length) ++ mid.drop (mid.length - n.2.length)).drop (mid.length - (n.2.length + k)) := by rw [List.take_append_drop]
   rw [e2, List.drop_append_of_le_length (by rw [e]; omega), h2]
   congr 2
   omega
  ·simp [ents, lens]
structure CutsEq (old : List Node) (want : EL) (c : Cuts) : Prop where
 head : ents (old.take c.first) = want.take c.from_
 tail : ents (old.drop c.last) = want.drop c.to_
theorem cuts0_eq (old : List Node) (want : EL) : CutsEq old want (cuts0 old want) := by
 refine ⟨preN_ents old want, ?_⟩
 unfold cuts0
 dsimp only
 obtain ⟨h1, h2⟩ := preN_le old want
 obtain ⟨h3, h4⟩ := sufN_le (old.drop (preN old want)).reverse (want.drop (lens (old.take (preN old want))))
 have h5 := sufN_ents (old.drop (preN old want)).reverse (want.drop (lens (old.take (preN old want))))
 rw [List.length_reverse, List.length_drop] at h3
 rw [List.length_drop] at h4 h5
 generalize hs : sufN (old.drop (preN old want)).reverse (want.drop (lens (old.take (preN old want)))) = s at *
 have e : ((old.drop (preN old want)).reverse).take s = (old.drop (old.length - s)).reverse := by
  rw [List.take_reverse, List.length_drop, List.drop_drop]
  congr 2
  omega
 have er : ∀ l : List Node, lens l.reverse = lens l := by
  intro l
  induction l with
  | nil => rfl
  | cons a l ih => rw [List.reverse_cons, lens_append, ih]; simp [lens]; omega
 rw [e, er] at h4 h5
 rw [List.reverse_reverse] at h5
 rw [h5, List.drop_drop]
 congr 1
 omega
theorem cuts1_eq {old : List Node} {want : EL} {c : Cuts} (hc : CutsOk old want c) (h : CutsEq old want c) : CutsEq old want (cuts1 old c) := by
 obtain ⟨h1, h2, h3, h4, h5⟩ := hc
 obtain ⟨e1, e2⟩ := h
 unfold cuts1
 split
 ·split
  ·rename_i hf
   refine ⟨?_, e2⟩
   dsimp only
   have hj : c.first - 1 < old.length := by omega
   have eg : old.getD (c.first - 1) (0, []) = old[c.first - 1] := by simp [List.getD, hj]
   have et : old.take c.first = old.take (c.first - 1) ++ [old[c.first - 1]] := by
    have := List.take_succ_eq_append_getElem hj
    rwa [show c.first - 1 + 1 = c.first by omega] at this
   rw [et, ents_append] at e1
   have el : c.from_ = lens (old.take (c.first - 1)) + (old[c.first - 1]).2.length := by
    rw [h4, et, lens_append]
    simp [lens]
   rw [eg]
   have := congrArg (List.take (lens (old.take (c.first - 1)))) e1
   rw [List.take_append_of_le_length (by rw [ents_length]; omega), List.take_of_length_le (by rw [ents_length]; omega), List.take_take] at this
   rw [this]
   congr 1
   omega
  ·split
   ·rename_i hl
    refine ⟨e1, ?_⟩
    dsimp only
    have eg : old.getD c.last (0, []) = old[c.last] := by simp [List.getD, hl]
    rw [List.drop_eq_getElem_cons hl] at e2
    rw [eg]
    have := congrArg (List.drop (old[c.last]).2.length) e2
    rw [show ents (old[c.last] :: old.drop (c.last + 1)) = (old[c.last]).2 ++ ents (old.drop (c.last + 1)) from rfl, List.drop_left, List.drop_drop] at this
    exact this
   ·exact ⟨e1, e2⟩
 ·exact ⟨e1, e2⟩
theorem ents_flatten (L : List Node) : ents L = (L.map fun n => n.2).flatten := by
 induction L with
 | nil => rfl
 | cons n L ih => simp [ents, ih]
theorem ents_nameN (bs : List Int) (m : Nat) (P : List EL) : ents (nameN bs m P).1 = P.flatten := by
 rw [ents_flatten, nameN_parts]
theorem parted_join (l : EL) : (parted 10 l).flatten = l := by
 unfold parted
 refine partN_join _ l ?_
 cases l with
 | nil => exact .inr rfl
 | cons a l => left; simp only [List.length_cons]; omega
theorem level_join (old : List Node) (want : EL) (m : Nat) : ents (level old want m).1 = want := by
 have hc := level_cuts old want
 obtain ⟨e1, e2⟩ := cuts1_eq (cuts0_ok old want) (cuts0_eq old want)
 unfold level levelC
 generalize cuts1 old (cuts0 old want) = c at *
 dsimp only
 rw [ents_append, ents_append, ents_nameN, parted_join, e1, e2]
 have := hc.tl
 have h1 : want.take c.from_ ++ (want.take c.to_).drop c.from_ = want.take c.to_ := by
  rw [show want.take c.from_ = (want.take c.to_).take c.from_ by rw [List.take_take, Nat.min_eq_left hc.gt], List.take_append_drop]
 rw [h1, List.take_append_drop]
def Chain : EL → List (List Node) → EL → Prop
 | row, [], root => root = row
 | row, L :: LV, root => ents L = row ∧ Chain (leads L) LV root
theorem upNew_chain : ∀ (k : Nat) (root : EL) (m : Nat), root.length ≤ k → Chain root (upNew k root m).1 (upNew k root m).2.1
 | 0, root, m, _ => rfl
 | k + 1, root, m, hk => by
  rw [upNew]
  split
  ·rfl
  ·have e1 := level_new_len root m
   have e2 := leads_len (level [] root m).1
   exact ⟨level_join _ _ _, upNew_chain k _ _ (by omega)⟩
theorem upOld_chain : ∀ (old : List (List Node)) (root : EL) (m : Nat), Chain root (upOld old root m).1 (upOld old root m).2.1
 | [], root, m => upNew_chain _ root m (Nat.le_refl _)
 | l :: old, root, m => by
  rw [upOld]
  exact ⟨level_join _ _ _, upOld_chain old _ _⟩
theorem Chain.snoc {row root : EL} {LV : List (List Node)} {L : List Node} (h : Chain row (LV ++ [L]) root) : Chain row LV (ents L) ∧ root = leads L := by
 induction LV generalizing row with
 | nil => exact ⟨h.1, h.2⟩
 | cons l LV ih =>
  obtain ⟨h1, h2⟩ := ih h.2
  exact ⟨⟨h.1, h1⟩, h2⟩
theorem trim_chain : ∀ (r : List (List Node)) (row root : EL), Chain row r.reverse root → Chain row (trimR r root).1.reverse (trimR r root).2
 | [], row, root, h => h
 | [] :: r, row, root, h => by
  rw [List.reverse_cons] at h
  obtain ⟨h1, h2⟩ := h.snoc
  rw [trimR]
  have : root = [] := h2
  subst this
  exact trim_chain r row _ h1
 | [n] :: r, row, root, h => by
  rw [trimR]
  split
  ·rw [List.reverse_cons] at h
   obtain ⟨h1, h2⟩ := h.snoc
   have e : ents [n] = n.2 := by simp [ents]
   rw [e] at h1
   exact trim_chain r row _ h1
  ·exact h
 | (a :: b :: l) :: r, row, root, h => h
theorem shape_chain (old : List (List Node)) (row : EL) (m : Nat) : Chain row (shapeT old row m).1.1 (shapeT old row m).1.2 := by
 unfold shapeT
 dsimp only
 refine trim_chain _ row _ ?_
 rw [List.reverse_reverse]
 exact upOld_chain old row m
def Named (m : Nat) (b : Int) : Prop := (1 ≤ b ∧ b ≤ 4095) ∨ (-(m : Int) ≤ b ∧ b ≤ -1)
theorem Named.mono {m m' : Nat} {b : Int} (h : Named m b) (hm : m ≤ m') : Named m' b := by unfold Named at *; omega
def NamedL (m : Nat) (L : List Node) : Prop := ∀ n ∈ L, Named m n.1
theorem nameN_m : ∀ (bs : List Int) (m : Nat) (P : List EL), m ≤ (nameN bs m P).2
 | bs, m, [] => by cases bs <;> exact Nat.le_refl _
 | [], m, l :: P => by have := nameN_m [] (m + 1) P; simp only [nameN]; omega
 | b :: bs, m, l :: P => by have := nameN_m bs m P; simp only [nameN]; omega
theorem nameN_named : ∀ (bs : List Int) (m : Nat) (P : List EL), (∀ b ∈ bs, 1 ≤ b ∧ b ≤ 4095) → NamedL (nameN bs m P).2 (nameN bs m P).1
 | bs, m, [], _ => by cases bs <;> (intro n hn; cases hn)
 | [], m, l :: P, h => by
  intro n hn
  simp only [nameN] at hn ⊢
  have hm := nameN_m [] (m + 1) P
  rcases List.mem_cons.1 hn with rfl | hn
  ·right; dsimp only; omega
  ·exact nameN_named [] (m + 1) P h n hn
 | b :: bs, m, l :: P, h => by
  intro n hn
  simp only [nameN] at hn ⊢
  rcases List.mem_cons.1 hn with rfl | hn
  ·exact .inl (h b (by simp))
  ·exact nameN_named bs m P (fun b hb => h b (by simp [hb])) n hn
def Known (L : List Node) : Prop := ∀ n ∈ L, 1 ≤ n.1 ∧ n.1 ≤ 4095
theorem level_named {old : List Node} (h : Known old) (want : EL) (m : Nat) : NamedL (level old want m).2 (level old want m).1 ∧ m ≤ (level old want m).2 := by
 unfold level levelC
 dsimp only
 refine ⟨fun n hn => ?_, nameN_m _ _ _⟩
 rcases List.mem_append.1 hn with hn | hn
 ·rcases List.mem_append.1 hn with hn | hn
  ·exact .inl (h n (List.mem_of_mem_take hn))
  ·refine nameN_named _ _ _ (fun b hb => ?_) n hn
   obtain ⟨n', hn', rfl⟩ := List.mem_map.1 hb
   exact h n' (List.mem_of_mem_take (List.mem_of_mem_drop hn'))
 ·exact .inl (h n (List.mem_of_mem_drop hn))
theorem upNew_named : ∀ (k : Nat) (root : EL) (m : Nat), (∀ L ∈ (upNew k root m).1, NamedL (upNew k root m).2.2 L) ∧ m ≤ (upNew k root m).2.2
 | 0, root, m => ⟨(fun L h => by cases h), Nat.le_refl _⟩
 | k + 1, root, m => by
  rw [upNew]
  split
  ·exact ⟨(fun L h => by cases h), Nat.le_refl _⟩
  ·obtain ⟨h1, h2⟩ := level_named (old := []) (fun n h => by cases h) root m
   obtain ⟨h3, h4⟩ := upNew_named k (leads (level [] root m).1) (level [] root m).2
   refine ⟨fun L hL => ?_, Nat.le_trans h2 h4⟩
   rcases List.mem_cons.1 hL with rfl | hL
   ·exact fun n hn => (h1 n hn).mono h4
   ·exact h3 L hL
theorem upOld_named : ∀ (old : List (List Node)) (root : EL) (m : Nat), (∀ L ∈ old, Known L) → (∀ L ∈ (upOld old root m).1, NamedL (upOld old root m).2.2 L) ∧ m ≤ (upOld old root m).2.2
 | [], root, m, _ => upNew_named _ root m
 | l :: old, root, m, h => by
  rw [upOld]
  obtain ⟨h1, h2⟩ := level_named (h l (by simp)) root m
  obtain ⟨h3, h4⟩ := upOld_named old (leads (level l root m).1) (level l root m).2 (fun L hL => h L (by simp [hL]))
  refine ⟨fun L hL => ?_, Nat.le_trans h2 h4⟩
  rcases List.mem_cons.1 hL with rfl | hL
  ·exact fun n hn => (h1 n hn).mono h4
  ·exact h3 L hL
theorem trim_mem : ∀ (r : List (List Node)) (root : EL), ∀ L ∈ (trimR r root).1, L ∈ r
 | [], root, L, h => h
 | [] :: r, root, L, h => List.mem_cons_of_mem _ (trim_mem r root L (by rwa [trimR] at h))
 | [n] :: r, root, L, h => by
  rw [trimR] at h
  split at h
  ·exact List.mem_cons_of_mem _ (trim_mem r _ L h)
  ·exact h
 | (a :: b :: l) :: r, root, L, h => h
theorem shape_named (old : List (List Node)) (row : EL) (h : ∀ L ∈ old, Known L) : ∀ L ∈ (shapeT old row 0).1.1, NamedL (shapeT old row 0).2 L := by
 intro L hL
 unfold shapeT at hL ⊢
 dsimp only at hL ⊢
 rw [List.mem_reverse] at hL
 have := trim_mem _ _ L hL
 rw [List.mem_reverse] at this
 exact (upOld_named old row 0 h).1 L this
theorem upNew_fed : ∀ (k : Nat) (root : EL) (m : Nat), ∀ L ∈ (upNew k root m).1, Fed L
 | 0, root, m, L, h => by cases h
 | k + 1, root, m, L, h => by
  rw [upNew] at h
  split at h
  ·cases h
  ·rcases List.mem_cons.1 h with rfl | h
   ·exact level_fed .nil root m
   ·exact upNew_fed k _ _ L h
theorem upOld_fed : ∀ (old : List (List Node)) (root : EL) (m : Nat), (∀ L ∈ old, Fed L) → ∀ L ∈ (upOld old root m).1, Fed L
 | [], root, m, _, L, h => upNew_fed _ root m L h
 | l :: old, root, m, ho, L, h => by
  rw [upOld] at h
  rcases List.mem_cons.1 h with rfl | h
  ·exact level_fed (ho l (by simp)) root m
  ·exact upOld_fed old _ _ (fun L hL => ho L (by simp [hL])) L h
theorem shape_fed (old : List (List Node)) (row : EL) (h : ∀ L ∈ old, Fed L) : ∀ L ∈ (shapeT old row 0).1.1, Fed L := by
 intro L hL
 unfold shapeT at hL
 dsimp only at hL
 rw [List.mem_reverse] at hL
 have := trim_mem _ _ L hL
 rw [List.mem_reverse] at this
 exact upOld_fed old row 0 h L this
end Go.Proofs.YtgjmeeiejcbjfaaGreat.Forks
namespace Go.Proofs.YtgjmeeiejcbjfaaGreat
open Go Go.RowKit
theorem ownsRow_set {w : World} {base size n g cap : Nat} {e : TypeId} {xs : List Value} (h : w.ownsRow base e size (.slice (some ⟨g, 0, none⟩) n cap) n xs) (k : Nat) (hk : k < n * size) (u : Value) :
  (w.setCell ⟨g, k, none⟩ u).ownsRow base e size (.slice (some ⟨g, 0, none⟩) n cap) n (xs.set k u) := by
 obtain ⟨h1, h2⟩ := h
 refine ⟨by simpa using h1, ?_⟩
 rcases h2 with ⟨hv, _⟩ | ⟨g', cap', cur, hv, hb, hg, hc1, hc2, hsz, htk⟩
 ·cases hv
 ·cases hv
  refine .inr ⟨g, cap, cur.set! k u, rfl, hb, ?_, hc1, hc2, by simpa using hsz, ?_⟩
  ·have hlt := lt_of_block hg
   have h' : w.heap[g] = .cells cur e (0, 0) := by simpa [Array.getElem?_eq_getElem hlt] using hg
   show (w.heap.modify g _)[g]? = _
   rw [Array.getElem?_eq_getElem (by simpa using hlt), Array.getElem_modify_self, h']
   simp
  ·rw [← htk]
   simp [List.take_set]
variable {wz : World}
theorem own_form {B sz n c : Nat} {T : TypeId} {a : Option Addr} {xs : List Value} (h : wz.ownsRow B T sz (.slice a n c) n xs) (hn : 0 < n) : ∃ g, a = some ⟨g, 0, none⟩ ∧ B ≤ g ∧ ∃ cs, wz.heap[g]? = some (.cells cs T (0, 0)) := by
 rcases h.2 with ⟨_, h0⟩ | ⟨g, cap, cur, hv, hg, hh, _⟩
 ·omega
 ·cases hv
  exact ⟨g, rfl, hg, cur, hh⟩
theorem own_setAt {B sz n g k : Nat} {T : TypeId} {a : Value} {xs : List Value} (u : Value) (h : wz.ownsRow B T sz a n xs) (hg : g < B) : (wz.setCell ⟨g, k, none⟩ u).ownsRow B T sz a n xs :=
 ⟨h.1, h.2.imp id (fun ⟨g', cap, cur, hv, hg', hh, r⟩ => ⟨g', cap, cur, hv, hg', by rw [Below.heap_setCell _ _ _ _ (by dsimp only; omega)]; exact hh, r⟩)⟩
end Go.Proofs.YtgjmeeiejcbjfaaGreat
