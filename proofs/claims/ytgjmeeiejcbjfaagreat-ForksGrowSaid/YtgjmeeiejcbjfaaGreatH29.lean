/- Trees: what a Replace comes to, as a function (no program here). -/
import Derived.Test.YtgjmeeiejcbjfaaGreatH25
import Derived.Test.YtgjmeeiejcbjfaaGreatH27
import Derived.Test.YtgjmeeiejcbjfaaGreatH28
import Derived.Test.YtgjmeeiejcbjfaaGreatH26
import Derived.Test.YtgjmeeiejcbjfaaGreatH17
import Derived.Test.YtgjmeeiejcbjfaaGreatH23
set_option linter.unusedSimpArgs false
set_option linter.unusedVariables false
namespace Go.Proofs.YtgjmeeiejcbjfaaGreat.Forks
open Go.Lib (hid)
open Go Go.RowKit
theorem row_room : ∀ (l : EL) (k : Int), Exts.Row l → (∀ y ∈ l, k ≤ y.1) → 0 ≤ k → k ≤ 2048 → (l.length : Int) ≤ 2048 - k
 | [], k, _, _, _, hk => by simp; omega
 | x :: l, k, h, hy, h0, _ => by
  have hm := h.1
  have hx := hy x (by simp)
  unfold Exts.may at hm
  have hf : Exts.fin x = x.1 + x.2.2 := rfl
  have := row_room l (Exts.fin x) h.2.2 h.2.1 (by omega) (by omega)
  simp only [List.length_cons]
  omega
theorem row_len {l : EL} (h : Exts.Row l) : l.length ≤ 2048 := by
 have := row_room l 0 h (fun y hy => by have := h.may y hy; unfold Exts.may at this; omega) (by omega) (by omega)
 omega
theorem parts_low {l : EL} (hl : Exts.Row l) : Exts.parts l 0 0 = [] := Exts.parts_off (fun y hy => by right; have := hl.may y hy; unfold Exts.may at this; omega)
theorem parts_high {l : EL} (hl : Exts.Row l) : Exts.parts l 2048 2048 = [] := Exts.parts_off (fun y hy => by left; have := hl.may y hy; unfold Exts.may at this; have : Exts.fin y = y.1 + y.2.2 := rfl; omega)
theorem fits_spec {a b : Int} {l : EL} (h : fitsT a b l = true) : 0 ≤ a ∧ a ≤ b ∧ b ≤ 2048 ∧ Exts.Row l ∧ ∀ y ∈ l, a ≤ y.1 ∧ Exts.fin y ≤ b := by
 unfold fitsT at h
 simp only [Bool.and_eq_true, Bool.or_eq_true, decide_eq_true_eq, beq_iff_eq] at h
 obtain ⟨⟨⟨⟨h1, h2⟩, h3⟩, h4⟩, h5⟩ := h
 have hr := Exts.check_row.1 h4
 refine ⟨h1, h2, h3, hr, fun y hy => ?_⟩
 rcases h5 with h5 | ⟨h5, h6⟩
 ·rw [List.eq_nil_of_length_eq_zero h5] at hy; cases hy
 ·refine ⟨?_, Int.le_trans ((Exts.endR_top hr).1 y hy) h6⟩
  cases l with
  | nil => cases hy
  | cons x l =>
   rcases List.mem_cons.1 hy with rfl | hy
   ·exact h5
   ·have h7 := hr.2.1 y hy
    have h8 := hr.1
    unfold Exts.may at h8
    have : Exts.fin x = x.1 + x.2.2 := rfl
    simp at h5
    omega
theorem repl_eq {row l : EL} {a b : Int} (hr : Exts.Row row) (h0 : 0 ≤ a) (hab : a ≤ b) (hb : b ≤ 2048) (hne : a ≠ b) : replT row a b l = Exts.changeR row a b l := by
 unfold replT
 rw [if_neg hne]
 unfold Exts.cutR Exts.punchR
 rw [if_neg (by omega)]
 unfold Exts.changeR
 rw [Int.min_eq_left (by omega), parts_low hr, parts_high hr]
 simp
theorem repl_row {row l : EL} {a b : Int} (hr : Exts.Row row) (h : fitsT a b l = true) : Exts.Row (replT row a b l) := by
 obtain ⟨h1, h2, h3, h4, h5⟩ := fits_spec h
 by_cases e : a = b
 ·unfold replT
  rw [if_pos e]
  exact hr
 ·rw [repl_eq hr h1 h2 h3 e]
  exact Exts.change_row hr h4 a b h1 h2 h5
def lvls (v : V) (d : Nat) : List (List Node) := (List.range d).map fun i => lvl v (i + 1)
theorem lvls_len (v : V) (d : Nat) : (lvls v d).length = d := by simp [lvls]
theorem lvls_at (v : V) (d i : Nat) (h : i < d) : (lvls v d).getD i [] = lvl v (i + 1) := by simp [lvls, List.getD, h]
theorem lvl_ok {v : V} (h : Good v) (k : Nat) : Fed (lvl v k) ∧ Known (lvl v k) ∧ (lvl v k).length ≤ 100000 := by
 refine ⟨fun n hn => ?_, fun n hn => ?_, by have := lvl_len h k; omega⟩
 ·obtain ⟨x, hx, rfl⟩ := List.mem_map.1 hn
  have := h.enc x (List.mem_filter.1 hx).1
  exact ⟨this.1, this.2.1⟩
 ·obtain ⟨x, hx, rfl⟩ := List.mem_map.1 hn
  have := h.blk x (List.mem_filter.1 hx).1
  dsimp only
  omega
theorem lvls_ok {v : V} (h : Good v) (d : Nat) (hd : d ≤ 4) : OldOk (lvls v d) ∧ ∀ L ∈ lvls v d, Known L := by
 refine ⟨⟨by rw [lvls_len]; exact hd, fun L hL => ?_, fun L hL => ?_⟩, fun L hL => ?_⟩ <;>
  (obtain ⟨i, -, rfl⟩ := List.mem_map.1 hL)
 ·exact (lvl_ok h _).1
 ·exact (lvl_ok h _).2.2
 ·exact (lvl_ok h _).2.1
theorem Chain.logical : ∀ {LV : List (List Node)} {row root : EL}, Chain row LV root → (∀ L ∈ LV, Fed L) → (∀ L ∈ LV, ∀ n ∈ L, ∀ x ∈ n.2, ∃ y ∈ row, x.1 = y.1) ∧ ∀ x ∈ root, ∃ y ∈ row, x.1 = y.1
 | [], row, root, h, _ => ⟨(fun L h => by cases h), fun x hx => ⟨x, by rw [← show root = row from h]; exact hx, rfl⟩⟩
 | L :: LV, row, root, h, hf => by
  obtain ⟨h1, h2⟩ := h
  have hL : ∀ n ∈ L, ∀ x ∈ n.2, x ∈ row := fun n hn x hx => by rw [← h1]; exact mem_ents.2 ⟨n, hn, hx⟩
  have hl : ∀ x ∈ leads L, ∃ y ∈ row, x.1 = y.1 := fun x hx => by
   obtain ⟨n, hn, rfl⟩ := List.mem_map.1 hx
   have hn1 := (hf L (by simp) n hn).1
   refine ⟨n.2.getD 0 (0, 0, 0), hL n hn _ ?_, rfl⟩
   rw [show n.2.getD 0 (0, 0, 0) = n.2[0] by simp [List.getD, show 0 < n.2.length by omega]]
   exact List.getElem_mem _
  obtain ⟨h3, h4⟩ := Chain.logical h2 (fun L' hL' => hf L' (by simp [hL']))
  refine ⟨fun L' hL' n hn x hx => ?_, fun x hx => ?_⟩
  ·rcases List.mem_cons.1 hL' with rfl | hL'
   ·exact ⟨x, hL n hn x hx, rfl⟩
   ·obtain ⟨y, hy, e⟩ := h3 L' hL' n hn x hx
    obtain ⟨z, hz, e2⟩ := hl y hy
    exact ⟨z, hz, e.trans e2⟩
  ·obtain ⟨y, hy, e⟩ := h4 x hx
   obtain ⟨z, hz, e2⟩ := hl y hy
   exact ⟨z, hz, e.trans e2⟩
theorem Chain.first : ∀ {LV : List (List Node)} {row root : EL}, Chain row LV root → 0 < LV.length → ents (LV.getD 0 []) = row
 | [], row, root, h, h0 => by simp at h0
 | L :: LV, row, root, h, _ => h.1
theorem Chain.next : ∀ {LV : List (List Node)} {row root : EL}, Chain row LV root → ∀ k, k + 1 < LV.length → ents (LV.getD (k + 1) []) = leads (LV.getD k [])
 | [], row, root, h, k, hk => by simp at hk
 | [L], row, root, h, k, hk => by simp at hk
 | L :: M :: LV, row, root, h, 0, _ => h.2.1
 | L :: M :: LV, row, root, h, k + 1, hk => by
  have := Chain.next h.2 k (by simpa using hk)
  simpa using this
theorem Chain.root : ∀ {LV : List (List Node)} {row root : EL}, Chain row LV root → ∀ k, LV.length = k + 1 → root = leads (LV.getD k [])
 | [], row, root, h, k, hk => by simp at hk
 | [L], row, root, h, k, hk => by
  obtain rfl : k = 0 := by simpa using hk.symm
  exact h.2
 | L :: M :: LV, row, root, h, k, hk => by
  obtain ⟨j, rfl⟩ : ∃ j, k = j + 1 := ⟨LV.length, by simp at hk; omega⟩
  have := Chain.root h.2 j (by simpa using hk)
  simpa using this
theorem leads_ok {m : Nat} {L : List Node} (h : NamedL m L) : ∀ x ∈ leads L, Named m x.2.1 ∧ x.2.2 = 0 := fun x hx => by
 obtain ⟨n, hn, rfl⟩ := List.mem_map.1 hx
 exact ⟨h n hn, rfl⟩
structure ToldOk (m : Nat) (T : IL) : Prop where
 len : m < T.length
 ok : ∀ i, 1 ≤ i → i < T.length → 1 ≤ T.getD i 0 ∧ T.getD i 0 < 4096
theorem ToldOk.ask {m : Nat} {T : IL} (h : ToldOk m T) (hm : m ≤ 1000000) {b : Int} (hb : Named m b) : AskOk T b ∧ 1 ≤ blockT T b ∧ blockT T b < 4096 := by
 have := h.len
 unfold blockT AskOk
 rcases hb with hb | hb
 ·rw [if_neg (by omega)]
  exact ⟨⟨by omega, by omega, fun h => by omega⟩, by omega, by omega⟩
 ·rw [if_pos (by omega)]
  have := h.ok (-b).toNat (by omega) (by omega)
  exact ⟨⟨by omega, by omega, fun _ => by omega⟩, this.1, this.2⟩
theorem row_small {row : EL} (hr : Exts.Row row) : ∀ y ∈ row, 0 ≤ y.1 ∧ y.1 ≤ 2047 ∧ 1 ≤ y.2.1 ∧ y.2.1 ≤ 4095 ∧ 1 ≤ y.2.2 ∧ y.2.2 ≤ 4096 := fun y hy => by
 have := hr.may y hy
 unfold Exts.may at this
 omega
theorem setOk_shape {row root : EL} {LV : List (List Node)} {m : Nat} {T : IL} (hr : Exts.Row row) (hc : Chain row LV root) (hf : ∀ L ∈ LV, Fed L) (hn : ∀ L ∈ LV, NamedL m L) (hm : m ≤ 1000000) (hT : ToldOk m T) (hmany : LV.length ≤ 1000000) (hlen : ∀ L ∈ LV, L.length ≤ 1000000) (hrl : root.length ≤ 1000000) : SetOk T LV root := by
 obtain ⟨l1, l2⟩ := hc.logical hf
 have hget : ∀ h, h < LV.length → LV.getD h [] ∈ LV := fun h hh => by rw [show LV.getD h [] = LV[h] by simp [List.getD, hh]]; exact List.getElem_mem hh
 have hnone : ∀ h, ¬ h < LV.length → LV.getD h [] = [] := fun h hh => by simp [List.getD, Nat.le_of_not_lt hh]
 have hup : ∀ h, h ≠ 0 → ∀ n ∈ LV.getD h [], ∀ x ∈ n.2, Named m x.2.1 ∧ x.2.2 = 0 := fun h h0 n hn' x hx => by
  by_cases hh : h < LV.length
  ·obtain ⟨k, rfl⟩ : ∃ k, h = k + 1 := ⟨h - 1, by omega⟩
   have he := hc.next k hh
   have : x ∈ leads (LV.getD k []) := by rw [← he]; exact mem_ents.2 ⟨n, hn', hx⟩
   exact leads_ok (hn _ (hget k (by omega))) x this
  ·rw [hnone h hh] at hn'; cases hn'
 refine ⟨fun L hL n hn' => ?_, fun h h0 n hn' x hx => (hT.ask hm (hup h h0 n hn' x hx).1).1, fun h0 x hx => ?_, fun h n hn' => ?_, fun L hL n hn' => by have := (hf L hL n hn').2; omega, hlen, hmany, hrl⟩
 ·obtain ⟨a1, a2, a3⟩ := hT.ask hm (hn L hL n hn')
  exact ⟨a1, by omega, a3⟩
 ·obtain ⟨k, hk⟩ : ∃ k, LV.length = k + 1 := ⟨LV.length - 1, by omega⟩
  rw [hc.root k hk] at hx
  exact (hT.ask hm (leads_ok (hn _ (hget k (by omega))) x hx).1).1
 ·by_cases hh : h < LV.length
  ·cases h with
   | zero =>
    intro x hx
    have hx' : x ∈ n.2 := hx
    have : x ∈ row := by rw [← hc.first hh]; exact mem_ents.2 ⟨n, hn', hx'⟩
    have := row_small hr x this
    unfold SmallE
    omega
   | succ k =>
    intro x hx
    have e : knownT T (k + 1 == 0) n.2 = n.2.map fun x => (x.1, blockT T x.2.1, x.2.2) := by unfold knownT; simp
    rw [e] at hx
    obtain ⟨y, hy, rfl⟩ := List.mem_map.1 hx
    obtain ⟨u1, u2⟩ := hup (k + 1) (by omega) n hn' y hy
    obtain ⟨z, hz, e2⟩ := l1 _ (hget _ hh) n hn' y hy
    have hz2 := row_small hr z hz
    have hb := hT.ask hm u1
    unfold SmallE
    dsimp only
    omega
  ·rw [hnone h hh] at hn'; cases hn'
theorem shape_bounds (old : List (List Node)) (hok : OldOk old) (row : EL) (hr : row.length ≤ 100000) : (shapeT old row 0).1.1.length ≤ 1000000 ∧ (shapeT old row 0).2 ≤ 600000 ∧ ∀ L ∈ (shapeT old row 0).1.1, L.length ≤ 1000000 := by
 have key : ∀ (n j : Nat) (LV : List (List Node)) (root : EL) (m : Nat), upLeft old j root.length ≤ n → UpInv old row 0 j LV root m → ∃ j' LV' root' m', UpInv old row 0 j' LV' root' m' ∧ upOld old row 0 = (LV', root', m') := by
  intro n
  induction n with
  | zero =>
   intro j LV root m hn hi
   have : old.length ≤ j ∧ root.length ≤ 4 := by unfold upLeft at hn; omega
   exact ⟨j, LV, root, m, hi, hi.done this.1 this.2⟩
  | succ n ih =>
   intro j LV root m hn hi
   by_cases hgo : j < old.length ∨ 4 < root.length
   ·have := upLeft_lt hok hi.rl hgo (m := m)
    exact ih _ _ _ _ (by omega) (hi.step hok hgo)
   ·exact ⟨j, LV, root, m, hi, hi.done (by omega) (by omega)⟩
 obtain ⟨j', LV', root', m', hi, he⟩ := key _ 0 [] row 0 (Nat.le_refl _) (.start hok row 0 hr)
 have hj := hi.j_le hok.few
 have hm := hi.m_le rfl
 have hl := hi.len
 unfold shapeT
 rw [he]
 dsimp only
 refine ⟨?_, hm, fun L hL => ?_⟩
 ·rw [List.length_reverse]
  have : ∀ (r : List (List Node)) (root : EL), (trimR r root).1.length ≤ r.length := by
   intro r
   induction r with
   | nil => intro root; exact Nat.le_refl _
   | cons l r ih =>
    intro root
    match l with
    | [] => rw [trimR]; have := ih root; simp only [List.length_cons]; omega
    | [n] =>
     rw [trimR]
     split
     ·have := ih n.2; simp only [List.length_cons]; omega
     ·exact Nat.le_refl _
    | a :: b :: l => exact Nat.le_refl _
  have := this LV'.reverse root'
  rw [List.length_reverse] at this
  omega
 ·rw [List.mem_reverse] at hL
  have := trim_mem _ _ L hL
  rw [List.mem_reverse] at this
  have := hi.lens L this
  omega
theorem chain_root_len {row root : EL} {LV : List (List Node)} (hc : Chain row LV root) (hr : row.length ≤ 1000000) (hl : ∀ L ∈ LV, L.length ≤ 1000000) : root.length ≤ 1000000 := by
 cases hk : LV.length with
 | zero =>
  have : LV = [] := List.eq_nil_of_length_eq_zero hk
  subst this
  have : root = row := hc
  rw [this]; exact hr
 | succ k =>
  rw [hc.root k hk, leads_len]
  exact hl _ (by rw [show LV.getD k [] = LV[k]'(by omega) by simp [List.getD, show k < LV.length by omega]]; exact List.getElem_mem _)
def pick (old : List (List Node)) (row : EL) : (List (List Node) × EL) × Nat := if 4 < (shapeT old row 0).1.1.length then shapeT [] row 0 else shapeT old row 0
def known (v : V) (old : List (List Node)) (row : EL) : IL := if 4 < (shapeT old row 0).1.1.length then (natI (nodes v)).take (shapeT [] row 0).2 else []
def replaceV {S : Type} (ak : V → EL → Nat → IL → (Int × IL) × S) (v : V) (d : Nat) (row : EL) : Except Int SetR × S :=
 let sh := pick (lvls v d) row
 let r := ak v row (sh.2 + 1 - ((known v (lvls v d) row).length + 1)) (0 :: known v (lvls v d) row)
 if r.1.1 = 0 then (setT v sh.1.1 sh.1.2 r.1.2, r.2) else (.error r.1.1, r.2)
def replaceT {S : Type} (ak : V → EL → Nat → IL → (Int × IL) × S) (dk : Disk) (depth : Int) (root : EL) (a b : Int) (l : EL) (s : S) : Except Int SetR × S :=
 if fitsT a b l = false then (.error 2, s) else
 match walkT dk depth root with
 | .error k => (.error k, s)
 | .ok x => if meets x.1 (replT x.2 a b l) = true then (.error 2, s) else replaceV ak x.1 depth.toNat (replT x.2 a b l)
theorem told_ok {m : Nat} {K D : IL} (hK : ∀ x ∈ K, 1 ≤ x ∧ x < 4096) (hD : ∀ x ∈ D, 1 ≤ x ∧ x < 4096) (hl : m ≤ K.length + D.length) : ToldOk m ((0 :: K) ++ D) := by
 refine ⟨by simp; omega, fun i h1 h2 => ?_⟩
 obtain ⟨j, rfl⟩ : ∃ j, i = j + 1 := ⟨i - 1, by omega⟩
 simp only [List.cons_append, List.getD_cons_succ]
 have hj : j < (K ++ D).length := by simp at h2 ⊢; omega
 have : (K ++ D).getD j 0 ∈ K ++ D := by
  simp only [List.getD, List.getElem?_eq_getElem hj, Option.getD_some]
  exact List.getElem_mem _
 rcases List.mem_append.1 this with h | h
 ·exact hK _ h
 ·exact hD _ h
def names (L : List Node) : IL := L.map fun n => n.1
def Anew (m m' : Nat) (b : Int) : Prop := -(m' : Int) ≤ b ∧ b ≤ -((m : Int) + 1)
theorem nameN_count : ∀ (bs : List Int) (m : Nat) (P : List EL), (nameN bs m P).2 = m + (P.length - bs.length)
 | [], m, [] => rfl
 | b :: bs, m, [] => by simp [nameN]
 | [], m, l :: P => by have := nameN_count [] (m + 1) P; simp [nameN] at *; omega
 | b :: bs, m, l :: P => by have := nameN_count bs m P; simp [nameN] at *; omega
theorem nameN_names : ∀ (bs : List Int) (m : Nat) (P : List EL), names (nameN bs m P).1 = bs.take P.length ++ (List.range (P.length - bs.length)).map fun i => -(((m + i : Nat) : Int) + 1)
 | [], m, [] => rfl
 | b :: bs, m, [] => by simp [nameN, names]
 | [], m, l :: P => by
  have := nameN_names [] (m + 1) P
  simp only [nameN, names, List.map_cons, List.take_nil, List.nil_append, List.length_cons, List.length_nil, Nat.sub_zero] at this ⊢
  rw [this, List.range_succ_eq_map, List.map_cons, List.map_map]
  refine List.cons_eq_cons.2 ⟨by simp, List.map_congr_left (fun i _ => by
   show -(((m + 1 + i : Nat) : Int) + 1) = -(((m + (i + 1) : Nat) : Int) + 1)
   rw [Nat.add_assoc, Nat.add_comm 1 i])⟩
 | b :: bs, m, l :: P => by
  have := nameN_names bs m P
  simp only [nameN, names, List.map_cons, List.length_cons] at this ⊢
  rw [this, List.take_succ_cons, List.cons_append, Nat.add_sub_add_right]
theorem names_append (a b : List Node) : names (a ++ b) = names a ++ names b := by simp [names]
theorem anew_range {m k : Nat} {b : Int} : b ∈ ((List.range k).map fun i => -(((m + i : Nat) : Int) + 1)) ↔ Anew m (m + k) b := by
 unfold Anew
 rw [List.mem_map]
 constructor
 ·rintro ⟨i, hi, rfl⟩
  have := List.mem_range.1 hi
  omega
 ·rintro ⟨h1, h2⟩
  exact ⟨(-b).toNat - m - 1, List.mem_range.2 (by omega), by omega⟩
theorem anew_nodup (m k : Nat) : ((List.range k).map fun i => -(((m + i : Nat) : Int) + 1)).Nodup :=
 List.Pairwise.map _ (fun a b hab e => hab (by omega)) List.nodup_range
structure NamesOk (O : IL) (m m' : Nat) (X : IL) : Prop where
 le : m ≤ m'
 nd : X.Nodup
 from_ : ∀ b ∈ X, b ∈ O ∨ Anew m m' b
 all : ∀ b, Anew m m' b → b ∈ X
theorem take_drop_le {α : Type} (l : List α) {a b : Nat} (h : a ≤ b) : (l.take a ++ ((l.take b).drop a)) = l.take b := by
 rw [show l.take a = (l.take b).take a by rw [List.take_take, Nat.min_eq_left h], List.take_append_drop]
theorem level_names {old : List Node} (hk : Known old) (hnd : (names old).Nodup) (want : EL) (m : Nat) : NamesOk (names old) m (level old want m).2 (names (level old want m).1) := by
 have hc := level_cuts old want
 unfold level levelC
 generalize cuts1 old (cuts0 old want) = c at *
 dsimp only
 generalize parted 10 ((want.take c.to_).drop c.from_) = P
 rw [names_append, names_append, nameN_names, nameN_count]
 have hsub : (names (old.take c.first) ++ (names ((old.take c.last).drop c.first)).take P.length ++ names (old.drop c.last)).Sublist (names old) := by
  have e : names old = names (old.take c.first) ++ names ((old.take c.last).drop c.first) ++ names (old.drop c.last) := by
   rw [← names_append, ← names_append, take_drop_le _ hc.fl, List.take_append_drop]
  rw [e]
  exact ((List.Sublist.refl _).append (List.take_sublist _ _)).append (List.Sublist.refl _)
 have hpos : ∀ b ∈ names old, 1 ≤ b := fun b hb => by
  obtain ⟨n, hn, rfl⟩ := List.mem_map.1 hb
  exact (hk n hn).1
 have hnd' := hnd.sublist hsub
 rw [show ((old.take c.last).drop c.first).map (fun n => n.1) = names ((old.take c.last).drop c.first) from rfl]
 generalize names ((old.take c.last).drop c.first) = bs at *
 generalize hA : names (old.take c.first) = A at *
 generalize hC : names (old.drop c.last) = C at *
 generalize hN : (List.range (P.length - bs.length)).map (fun i => -(((m + i : Nat) : Int) + 1)) = Nw at *
 have hNm : ∀ b, b ∈ Nw ↔ Anew m (m + (P.length - bs.length)) b := fun b => by rw [← hN]; exact anew_range
 have hNn : Nw.Nodup := by rw [← hN]; exact anew_nodup _ _
 have hneg : ∀ b ∈ Nw, b ≤ -1 := fun b hb => by have := (hNm b).1 hb; unfold Anew at this; omega
 have hold : ∀ b, b ∈ A ++ bs.take P.length ++ C → 1 ≤ b := fun b hb => hpos b (hsub.subset hb)
 refine ⟨Nat.le_add_right _ _, ?_, fun b hb => ?_, fun b hb => ?_⟩
 ·have hp : (A ++ (bs.take P.length ++ Nw) ++ C).Perm (Nw ++ (A ++ bs.take P.length ++ C)) := by
   have h1 : (A ++ (bs.take P.length ++ Nw) ++ C) = (A ++ bs.take P.length) ++ (Nw ++ C) := by simp
   have h2 : (Nw ++ (A ++ bs.take P.length ++ C)) = Nw ++ (A ++ bs.take P.length) ++ C := by simp
   rw [h1, h2]
   have h3 : ((A ++ bs.take P.length) ++ Nw).Perm (Nw ++ (A ++ bs.take P.length)) := List.perm_append_comm
   have h4 := h3.append_right C
   simpa using h4
  rw [hp.nodup_iff, List.nodup_append]
  refine ⟨hNn, hnd', fun a ha b hb e => ?_⟩
  have h1 := hneg a ha
  have h2 := hold b hb
  omega
 ·rcases List.mem_append.1 hb with hb | hb
  ·rcases List.mem_append.1 hb with hb | hb
   ·exact .inl (hsub.subset (by simp [hb]))
   ·rcases List.mem_append.1 hb with hb | hb
    ·exact .inl (hsub.subset (by simp [hb]))
    ·exact .inr ((hNm b).1 hb)
  ·exact .inl (hsub.subset (by simp [hb]))
 ·have := (hNm b).2 hb
  simp [this]
structure LvNames (old : List (List Node)) (m m' : Nat) (LV : List (List Node)) : Prop where
 le : m ≤ m'
 nd : ∀ i, (names (LV.getD i [])).Nodup
 from_ : ∀ i, ∀ b ∈ names (LV.getD i []), b ∈ names (old.getD i []) ∨ Anew m m' b
 apart : ∀ i j, i < j → ∀ b ∈ names (LV.getD i []), b < 0 → ∀ c ∈ names (LV.getD j []), b ≠ c
 all : ∀ b, Anew m m' b → ∃ i, b ∈ names (LV.getD i [])
theorem LvNames.nil (old : List (List Node)) (m : Nat) : LvNames old m m [] :=
 ⟨Nat.le_refl _, fun i => by simp [names], fun i b h => by simp [names] at h, fun i j h b hb => by simp [names] at hb, fun b h => by unfold Anew at h; omega⟩
theorem Anew.mono {m m' k k' : Nat} {b : Int} (h : Anew m m' b) (h1 : k ≤ m) (h2 : m' ≤ k') : Anew k k' b := by unfold Anew at *; omega
theorem LvNames.cons {l : List Node} {old : List (List Node)} {m m1 m2 : Nat} {X : List Node} {r : List (List Node)} (hl : Known l) (hpos : ∀ L ∈ old, Known L) (h1 : NamesOk (names l) m m1 (names X)) (h2 : LvNames old m1 m2 r) : LvNames (l :: old) m m2 (X :: r) := by
 refine ⟨Nat.le_trans h1.le h2.le, fun i => ?_, fun i b hb => ?_, fun i j hij b hb hneg c hc => ?_, fun b hb => ?_⟩
 ·cases i with
  | zero => exact h1.nd
  | succ i => exact h2.nd i
 ·cases i with
  | zero => exact (h1.from_ b hb).imp id fun h => h.mono (Nat.le_refl _) h2.le
  | succ i => exact (h2.from_ i b hb).imp id fun h => h.mono h1.le (Nat.le_refl _)
 ·cases j with
  | zero => omega
  | succ j =>
   cases i with
   | succ i => exact h2.apart i j (by omega) b hb hneg c hc
   | zero =>
    intro e
    subst e
    have hc' : b ∈ names (r.getD j []) := hc
    have hb' : b ∈ names X := hb
    rcases h1.from_ b hb' with h3 | h3
    ·obtain ⟨n, hn, rfl⟩ := List.mem_map.1 h3
     have := (hl n hn).1
     omega
    ·rcases h2.from_ j b hc' with h | h
     ·by_cases hj : j < old.length
      ·obtain ⟨n, hn, rfl⟩ := List.mem_map.1 h
       have := (hpos _ (show old.getD j [] ∈ old by rw [show old.getD j [] = old[j] by simp [List.getD, hj]]; exact List.getElem_mem _) n hn).1
       omega
      ·rw [show old.getD j [] = [] by simp [List.getD, Nat.le_of_not_lt hj]] at h
       simp [names] at h
     ·unfold Anew at h h3
      omega
 ·by_cases h : Anew m m1 b
  ·exact ⟨0, h1.all b h⟩
  ·obtain ⟨i, hi⟩ := h2.all b (by unfold Anew at *; omega)
   exact ⟨i + 1, hi⟩
theorem LvNames.none {m m' : Nat} {LV : List (List Node)} (h : LvNames [[]] m m' LV) : LvNames [] m m' LV := by
 refine ⟨h.le, h.nd, fun i b hb => ?_, h.apart, h.all⟩
 rcases h.from_ i b hb with h | h
 ·left
  cases i with
  | zero => exact h
  | succ i => exact h
 ·exact .inr h
theorem known_nil : Known [] := fun n h => by cases h
theorem upNew_names : ∀ (k : Nat) (root : EL) (m : Nat), LvNames [] m (upNew k root m).2.2 (upNew k root m).1
 | 0, root, m => .nil _ _
 | k + 1, root, m => by
  rw [upNew]
  split
  ·exact .nil _ _
  ·exact (LvNames.cons (l := []) (old := []) known_nil (fun L h => by cases h) (level_names known_nil (by simp [names]) root m) (upNew_names k _ _)).none
theorem upOld_names : ∀ (old : List (List Node)) (root : EL) (m : Nat), (∀ L ∈ old, Known L ∧ (names L).Nodup) → LvNames old m (upOld old root m).2.2 (upOld old root m).1
 | [], root, m, _ => upNew_names _ root m
 | l :: old, root, m, h => by
  rw [upOld]
  exact LvNames.cons (h l (by simp)).1 (fun L hL => (h L (by simp [hL])).1) (level_names (h l (by simp)).1 (h l (by simp)).2 root m) (upOld_names old _ _ fun L hL => h L (by simp [hL]))
def Half (L : List Node) : Prop := ∀ n ∈ L, 5 ≤ n.2.length
def Low (L : List Node) : Prop := ∃ n, L = [n] ∧ n.2.length ≤ 4
theorem parted_half {l : EL} (h : 5 ≤ l.length ∨ l.length = 0) : ∀ p ∈ parted 10 l, 5 ≤ p.length := by
 intro p hp
 unfold parted at hp
 exact (partN_bounds _ l 5 10 (by omega) (by omega) p hp).1
theorem nameN_half {bs : List Int} {m : Nat} {P : List EL} (h : ∀ p ∈ P, 5 ≤ p.length) : Half (nameN bs m P).1 := by
 intro n hn
 have h1 : n.2 ∈ (nameN bs m P).1.map (fun n => n.2) := List.mem_map.2 ⟨n, hn, rfl⟩
 rw [nameN_parts] at h1
 exact h _ h1
theorem Half.append {A B : List Node} (h : Half A) (h' : Half B) : Half (A ++ B) := fun n hn => (List.mem_append.1 hn).elim (h n) (h' n)
theorem Half.take {L : List Node} (h : Half L) (k : Nat) : Half (L.take k) := fun n hn => h n (List.mem_of_mem_take hn)
theorem Half.drop {L : List Node} (h : Half L) (k : Nat) : Half (L.drop k) := fun n hn => h n (List.mem_of_mem_drop hn)
theorem levelC_half {old : List Node} (ho : Half old) {want : EL} {m : Nat} {c : Cuts} (hc : CutsOk old want c) (h : 5 ≤ c.to_ - c.from_ ∨ c.to_ - c.from_ = 0) : Half (levelC old want m c).1 := by
 unfold levelC
 dsimp only
 refine ((ho.take _).append (nameN_half (parted_half ?_))).append (ho.drop _)
 rw [mid_len hc]
 exact h
theorem level_half {old : List Node} (ho : Half old) (want : EL) (m : Nat) : Half (level old want m).1 ∨ Low (level old want m).1 := by
 have h0 := cuts0_ok old want
 have h1 := level_cuts old want
 unfold level
 generalize cuts0 old want = c at *
 by_cases hs : 0 < c.to_ - c.from_ ∧ c.to_ - c.from_ < 5
 ·by_cases hf : 0 < c.first
  ·left
   refine levelC_half ho h1 (.inl ?_)
   unfold cuts1
   rw [if_pos hs, if_pos hf]
   dsimp only
   have hj : c.first - 1 < old.length := by have := h0.fl; have := h0.lo; omega
   have eg : old.getD (c.first - 1) (0, []) = old[c.first - 1] := by simp [List.getD, hj]
   have et : old.take c.first = old.take (c.first - 1) ++ [old[c.first - 1]] := by
    have := List.take_succ_eq_append_getElem hj
    rwa [show c.first - 1 + 1 = c.first by omega] at this
   have el := h0.gf
   rw [et, lens_append] at el
   have := ho _ (List.getElem_mem hj)
   rw [eg]
   simp only [lens] at el
   omega
  ·by_cases hl : c.last < old.length
   ·left
    refine levelC_half ho h1 (.inl ?_)
    unfold cuts1
    rw [if_pos hs, if_neg hf, if_pos hl]
    dsimp only
    have := ho _ (List.getElem_mem hl)
    rw [show old.getD c.last (0, []) = old[c.last] by simp [List.getD, hl]]
    omega
   ·right
    have e : cuts1 old c = c := by
     unfold cuts1
     rw [if_pos hs, if_neg hf, if_neg hl]
    rw [e] at h1 ⊢
    unfold levelC
    dsimp only
    have hm := mid_len h1
    rw [show c.first = 0 by omega, List.take_zero, List.nil_append, List.drop_eq_nil_of_le (show old.length ≤ c.last by omega), List.append_nil]
    have hP := parted_len ((want.take c.to_).drop c.from_)
    rw [hm] at hP
    have hn := nameN_len (((old.take c.last).drop 0).map fun n => n.1) m (parted 10 ((want.take c.to_).drop c.from_))
    rw [hP, show (c.to_ - c.from_ + 10 - 1) / 10 = 1 by omega] at hn
    obtain ⟨n, hn'⟩ := List.length_eq_one_iff.1 hn
    refine ⟨n, hn', ?_⟩
    have hj := ents_nameN (((old.take c.last).drop 0).map fun n => n.1) m (parted 10 ((want.take c.to_).drop c.from_))
    rw [hn', parted_join] at hj
    have : (ents [n]).length = c.to_ - c.from_ := by rw [hj, hm]
    simp [ents] at this
    omega
 ·left
  refine levelC_half ho h1 ?_
  unfold cuts1
  rw [if_neg hs]
  omega
theorem level_low {old : List Node} (hk : Known old) (want : EL) (m : Nat) (h : old ≠ [] ∨ 4 < want.length) {n : Node} (hn : (level old want m).1 = [n]) (h4 : n.2.length ≤ 4) : 1 ≤ n.1 := by
 have hj := level_join old want m
 rw [hn] at hj
 have hwl : want.length ≤ 4 := by rw [← hj]; simpa [ents] using h4
 have ho : old ≠ [] := h.resolve_right (by omega)
 have hc := level_cuts old want
 unfold level levelC at hn
 generalize cuts1 old (cuts0 old want) = c at *
 dsimp only at hn
 have hnn := nameN_names (((old.take c.last).drop c.first).map fun n => n.1) m (parted 10 ((want.take c.to_).drop c.from_))
 generalize parted 10 ((want.take c.to_).drop c.from_) = P at *
 generalize hX : (nameN (((old.take c.last).drop c.first).map fun n => n.1) m P).1 = X at *
 have hm : n ∈ old.take c.first ++ X ++ old.drop c.last := by rw [hn]; simp
 rcases List.mem_append.1 hm with hm' | hm'
 ·rcases List.mem_append.1 hm' with hm' | hm'
  ·exact (hk n (List.mem_of_mem_take hm')).1
  ·-- the new part is all there is
   have hlen := congrArg List.length hn
   rw [List.length_append, List.length_append, List.length_take, List.length_drop, List.length_singleton] at hlen
   have hX1 : 1 ≤ X.length := List.length_pos_of_mem hm'
   have hfl := hc.fl
   have hlo := hc.lo
   have hol : 0 < old.length := List.length_pos_iff.2 ho
   have hXe : X = [n] := by
    have : X.length = 1 := by omega
    obtain ⟨y, hy⟩ := List.length_eq_one_iff.1 this
    rw [hy] at hm' ⊢
    rw [List.mem_singleton.1 hm']
   have hPl : P.length = 1 := by
    have := nameN_len (((old.take c.last).drop c.first).map fun n => n.1) m P
    rw [hX, hXe] at this
    simpa using this.symm
   have hfn : names X ≠ [] := by rw [hXe]; simp [names]
   rw [show c.first = 0 by omega, show c.last = old.length by omega, List.drop_zero, List.take_length] at hnn
   have : n.1 ∈ names X := by rw [hXe]; simp [names]
   rw [hnn, hPl] at this
   cases old with
   | nil => exact absurd rfl ho
   | cons y old =>
    have h : n.1 = y.1 := by simpa using this
    rw [h]
    exact (hk y (by simp)).1
 ·exact (hk n (List.mem_of_mem_drop hm')).1
theorem half_nil : Half [] := fun n h => by cases h
theorem upNew_half : ∀ (k : Nat) (root : EL) (m : Nat), ∀ X ∈ (upNew k root m).1, Half X ∨ Low X
 | 0, root, m, X, h => by cases h
 | k + 1, root, m, X, h => by
  rw [upNew] at h
  split at h
  ·cases h
  ·rcases List.mem_cons.1 h with rfl | h
   ·exact level_half half_nil root m
   ·exact upNew_half k _ _ X h
theorem upOld_half : ∀ (old : List (List Node)) (root : EL) (m : Nat), (∀ L ∈ old, Half L) → ∀ X ∈ (upOld old root m).1, Half X ∨ Low X
 | [], root, m, _, X, h => upNew_half _ root m X h
 | l :: old, root, m, ho, X, h => by
  rw [upOld] at h
  rcases List.mem_cons.1 h with rfl | h
  ·exact level_half (ho l (by simp)) root m
  ·exact upOld_half old _ _ (fun L hL => ho L (by simp [hL])) X h
theorem upNew_low : ∀ (k : Nat) (root : EL) (m : Nat), ∀ X ∈ (upNew k root m).1, ∀ n, X = [n] → n.2.length ≤ 4 → 1 ≤ n.1
 | 0, root, m, X, h => by cases h
 | k + 1, root, m, X, h => by
  rw [upNew] at h
  split at h
  ·cases h
  ·rename_i hr
   rcases List.mem_cons.1 h with rfl | h
   ·exact fun n hn h4 => level_low known_nil root m (.inr (by omega)) hn h4
   ·exact upNew_low k _ _ X h
theorem upOld_low : ∀ (old : List (List Node)) (root : EL) (m : Nat), (∀ L ∈ old, Known L ∧ L ≠ []) → ∀ X ∈ (upOld old root m).1, ∀ n, X = [n] → n.2.length ≤ 4 → 1 ≤ n.1
 | [], root, m, _, X, h => upNew_low _ root m X h
 | l :: old, root, m, ho, X, h => by
  rw [upOld] at h
  rcases List.mem_cons.1 h with rfl | h
  ·exact fun n hn h4 => level_low (ho l (by simp)).1 root m (.inl (ho l (by simp)).2) hn h4
  ·exact upOld_low old _ _ (fun L hL => ho L (by simp [hL])) X h
theorem trim_drop : ∀ (r : List (List Node)) (root : EL), ∃ t, t ≤ r.length ∧ (trimR r root).1 = r.drop t ∧ ∀ X ∈ r.take t, X = [] ∨ Low X
 | [], root => ⟨0, Nat.le_refl _, rfl, (fun X h => by cases h)⟩
 | [] :: r, root => by
  obtain ⟨t, h0, h1, h2⟩ := trim_drop r root
  refine ⟨t + 1, by simpa using h0, by rw [trimR, h1]; rfl, fun X hX => ?_⟩
  rw [List.take_succ_cons] at hX
  rcases List.mem_cons.1 hX with rfl | hX
  ·exact .inl rfl
  ·exact h2 X hX
 | [n] :: r, root => by
  by_cases h : n.2.length ≤ 4
  ·obtain ⟨t, h0, h1, h2⟩ := trim_drop r n.2
   refine ⟨t + 1, by simpa using h0, by rw [trimR, if_pos h, h1]; rfl, fun X hX => ?_⟩
   rw [List.take_succ_cons] at hX
   rcases List.mem_cons.1 hX with rfl | hX
   ·exact .inr ⟨n, rfl, h⟩
   ·exact h2 X hX
  ·exact ⟨0, Nat.zero_le _, by rw [trimR, if_neg h]; rfl, (fun X h => by cases h)⟩
 | (a :: b :: l) :: r, root => ⟨0, Nat.zero_le _, rfl, (fun X h => by cases h)⟩
theorem trim_head : ∀ (r : List (List Node)) (root : EL) (H : List Node) (r' : List (List Node)), (trimR r root).1 = H :: r' → H ≠ [] ∧ ¬ Low H
 | [], root, H, r', h => by cases h
 | [] :: r, root, H, r', h => trim_head r root H r' (by rwa [trimR] at h)
 | [n] :: r, root, H, r', h => by
  rw [trimR] at h
  split at h
  ·exact trim_head r _ H r' h
  ·rename_i h4
   cases h
   exact ⟨by simp, fun ⟨m, e, hm⟩ => by cases e; exact h4 hm⟩
 | (a :: b :: l) :: r, root, H, r', h => by
  cases h
  exact ⟨by simp, fun ⟨m, e, _⟩ => by cases e⟩
theorem trim_root : ∀ (r : List (List Node)) (root : EL), root.length ≤ 4 → (trimR r root).2.length ≤ 4
 | [], root, h => h
 | [] :: r, root, h => by rw [trimR]; exact trim_root r root h
 | [n] :: r, root, h => by
  rw [trimR]
  split
  ·rename_i h4
   exact trim_root r _ h4
  ·exact h
 | (a :: b :: l) :: r, root, h => h
theorem upNew_root : ∀ (k : Nat) (root : EL) (m : Nat), root.length ≤ k → (upNew k root m).2.1.length ≤ 4
  | 0, root, m, h => by have : root.length = 0 := by omega
                        show root.length ≤ 4
                        omega
  | k + 1, root, m, h => by
    rw [upNew]
    split
    · rename_i h4; exact h4
    · have e1 := level_new_len root m
      have e2 := leads_len (level [] root m).1
      exact upNew_root k _ _ (by omega)
theorem upOld_root : ∀ (old : List (List Node)) (root : EL) (m : Nat), (upOld old root m).2.1.length ≤ 4
 | [], root, m => upNew_root _ root m (Nat.le_refl _)
 | l :: old, root, m => by rw [upOld]; exact upOld_root old _ _
theorem half_all : ∀ (r : List (List Node)) (row root : EL), Chain row r.reverse root → (∀ X ∈ r, Half X ∨ Low X) → (∀ H r', r = H :: r' → H ≠ [] ∧ ¬ Low H) → ∀ X ∈ r, Half X ∧ X ≠ []
 | [], row, root, _, _, _, X, hX => by cases hX
 | H :: r, row, root, hc, hh, h1, X, hX => by
  rw [List.reverse_cons] at hc
  obtain ⟨h2, -⟩ := hc.snoc
  obtain ⟨h3, h4⟩ := h1 H r rfl
  have hH : Half H := (hh H (by simp)).resolve_right h4
  rcases List.mem_cons.1 hX with rfl | hX
  ·exact ⟨hH, h3⟩
  ·refine half_all r row _ h2 (fun X hX => hh X (by simp [hX])) (fun H' r' e => ?_) X hX
   subst e
   rw [List.reverse_cons] at h2
   obtain ⟨-, h5⟩ := h2.snoc
   have h6 : 5 ≤ H'.length := by
    rw [← leads_len H', ← h5]
    cases H with
    | nil => exact absurd rfl h3
    | cons n H =>
     have := hH n (by simp)
     simp only [ents, List.length_append]
     omega
   refine ⟨fun e => by rw [e] at h6; simp at h6, fun ⟨n, e, _⟩ => by rw [e] at h6; simp at h6⟩
structure ShapeOk (old : List (List Node)) (row : EL) (LV : List (List Node)) (root : EL) (m : Nat) : Prop where
 ch : Chain row LV root
 half : ∀ X ∈ LV, Half X ∧ X ≠ []
 rl : root.length ≤ 4
 nm : LvNames old 0 m LV
theorem shape_ok {old : List (List Node)} (row : EL) (ho : ∀ L ∈ old, Known L ∧ L ≠ [] ∧ Half L ∧ (names L).Nodup) : ShapeOk old row (shapeT old row 0).1.1 (shapeT old row 0).1.2 (shapeT old row 0).2 := by
 have hch := shape_chain old row 0
 have hnm := upOld_names old row 0 (fun L hL => ⟨(ho L hL).1, (ho L hL).2.2.2⟩)
 have hhf := upOld_half old row 0 (fun L hL => (ho L hL).2.2.1)
 have hlw := upOld_low old row 0 (fun L hL => ⟨(ho L hL).1, (ho L hL).2.1⟩)
 have hrt := upOld_root old row 0
 unfold shapeT at hch ⊢
 dsimp only at hch ⊢
 generalize upOld old row 0 = u at *
 obtain ⟨LV, root, m⟩ := u
 dsimp only at *
 have htr := trim_root LV.reverse root hrt
 have hth := trim_head LV.reverse root
 obtain ⟨t, ht0, ht1, ht2⟩ := trim_drop LV.reverse root
 generalize trimR LV.reverse root = y at *
 obtain ⟨r, root'⟩ := y
 dsimp only at *
 subst ht1
 rw [List.length_reverse] at ht0
 have er : (LV.reverse.drop t).reverse = LV.take (LV.length - t) := by rw [List.drop_reverse, List.reverse_reverse]
 refine ⟨hch, fun X hX => ?_, htr, ?_⟩
 ·rw [List.mem_reverse] at hX
  exact half_all _ row root' hch (fun X hX => hhf X (by have := List.mem_of_mem_drop hX; simpa using this)) (fun H r' e => hth H r' e) X hX
 ·rw [er]
  have hget : ∀ i, i < LV.length - t → (LV.take (LV.length - t)).getD i [] = LV.getD i [] := fun i hi => by
   rw [List.getD_eq_getElem?_getD, List.getD_eq_getElem?_getD, List.getElem?_take, if_pos hi]
  have hnone : ∀ i, ¬ i < LV.length - t → (LV.take (LV.length - t)).getD i [] = [] := fun i hi => by
   simp [List.getD, List.getElem?_take, hi]
  have hor : ∀ i b, b ∈ names ((LV.take (LV.length - t)).getD i []) → b ∈ names (LV.getD i []) := fun i b hb => by
   by_cases hi : i < LV.length - t
   ·rwa [hget i hi] at hb
   ·rw [hnone i hi] at hb; simp [names] at hb
  refine ⟨hnm.le, fun i => ?_, fun i b hb => hnm.from_ i b (hor i b hb), fun i j hij b hb hneg c hc => hnm.apart i j hij b (hor i b hb) hneg c (hor j c hc), fun b hb => ?_⟩
  ·by_cases hi : i < LV.length - t
   ·rw [hget i hi]; exact hnm.nd i
   ·rw [hnone i hi]; simp [names]
  ·obtain ⟨i, hi⟩ := hnm.all b hb
   by_cases h : i < LV.length - t
   ·exact ⟨i, by rw [hget i h]; exact hi⟩
   ·by_cases hl : i < LV.length
    ·have hX : LV.getD i [] ∈ LV.reverse.take t := by
      rw [show LV.getD i [] = LV[i] by simp [List.getD, hl]]
      rw [List.take_reverse]
      rw [List.mem_reverse]
      exact List.mem_iff_getElem.2 ⟨i - (LV.length - t), by rw [List.length_drop]; omega, by rw [List.getElem_drop]; congr 1; omega⟩
     rcases ht2 _ hX with e | ⟨n, e, h4⟩
     ·rw [e] at hi; simp [names] at hi
     ·have hg : LV.getD i [] = LV[i] := by simp [List.getD, hl]
      have h1 := hlw _ (show LV.getD i [] ∈ LV by rw [hg]; exact List.getElem_mem _) n e h4
      rw [e] at hi
      simp [names] at hi
      subst hi
      unfold Anew at hb
      omega
    ·rw [show LV.getD i [] = [] by simp [List.getD, Nat.le_of_not_lt hl]] at hi
     simp [names] at hi
theorem half_lens : ∀ {L : List Node}, Half L → 5 * L.length ≤ lens L
 | [], _ => by simp [lens]
 | n :: L, h => by
  have h1 := h n (by simp)
  have h2 := half_lens (L := L) fun x hx => h x (by simp [hx])
  simp only [List.length_cons, lens]
  omega
def total (LV : List (List Node)) : Nat := (LV.map List.length).sum
theorem chain_total : ∀ (LV : List (List Node)) (row root : EL), Chain row LV root → (∀ X ∈ LV, Half X) → 4 * total LV + root.length ≤ row.length ∧ 5 ^ LV.length * root.length ≤ row.length
 | [], row, root, h, _ => by
  have : root = row := h
  subst this
  simp [total]
 | L :: LV, row, root, h, hh => by
  obtain ⟨h1, h2⟩ := h
  obtain ⟨h3, h4⟩ := chain_total LV _ root h2 (fun X hX => hh X (by simp [hX]))
  have h5 := half_lens (hh L (by simp))
  rw [← ents_length, h1] at h5
  rw [leads_len] at h3 h4
  have : total (L :: LV) = L.length + total LV := by simp [total]
  refine ⟨by omega, ?_⟩
  rw [List.length_cons, Nat.pow_succ, Nat.mul_comm (5 ^ LV.length) 5, Nat.mul_assoc]
  omega
theorem ShapeOk.root_ne {old : List (List Node)} {row : EL} {LV : List (List Node)} {root : EL} {m : Nat} (h : ShapeOk old row LV root m) (hne : LV ≠ []) : root ≠ [] := by
 obtain ⟨k, hk⟩ : ∃ k, LV.length = k + 1 := ⟨LV.length - 1, by have := List.length_pos_iff.2 hne; omega⟩
 rw [h.ch.root k hk]
 intro e
 have : LV.getD k [] ∈ LV := by rw [show LV.getD k [] = LV[k]'(by omega) by simp [List.getD, show k < LV.length by omega]]; exact List.getElem_mem _
 have h2 := (h.half _ this).2
 have := congrArg List.length e
 rw [leads_len] at this
 exact h2 (List.eq_nil_of_length_eq_zero this)
theorem ShapeOk.many {old : List (List Node)} {row : EL} {LV : List (List Node)} {root : EL} {m : Nat} (h : ShapeOk old row LV root m) (hr : row.length ≤ 2048) : LV.length ≤ 4 ∧ total LV ≤ 512 ∧ m ≤ total LV ∧ (LV.length = 0 ↔ row.length ≤ 4) := by
 obtain ⟨h1, h2⟩ := chain_total LV row root h.ch (fun X hX => (h.half X hX).1)
 have h4 : LV.length ≤ 4 := by
  by_cases hne : LV = []
  ·rw [hne]; simp
  ·have h3 := List.length_pos_iff.2 (h.root_ne hne)
   rcases Nat.lt_or_ge 4 LV.length with hl | hl
   ·have : 5 ^ 5 ≤ 5 ^ LV.length := Nat.pow_le_pow_right (by decide) hl
    have : 5 ^ LV.length * 1 ≤ 5 ^ LV.length * root.length := Nat.mul_le_mul_left _ h3
    omega
   ·exact hl
 refine ⟨h4, by omega, ?_, ?_⟩
 ·have hsub : ∀ b ∈ ((List.range m).map fun i => -(((0 + i : Nat) : Int) + 1)), b ∈ LV.flatMap names := fun b hb => by
   have hb' := anew_range.1 hb
   rw [Nat.zero_add] at hb'
   obtain ⟨i, hi⟩ := h.nm.all b hb'
   by_cases hl : i < LV.length
   ·refine List.mem_flatMap.2 ⟨LV.getD i [], ?_, hi⟩
    rw [show LV.getD i [] = LV[i] by simp [List.getD, hl]]
    exact List.getElem_mem _
   ·rw [show LV.getD i [] = [] by simp [List.getD, Nat.le_of_not_lt hl]] at hi
    simp [names] at hi
  have := List.Nodup.length_le_of_subset (anew_nodup 0 m) hsub
  rw [List.length_map, List.length_range, List.length_flatMap] at this
  unfold total
  rw [show (fun X : List Node => (names X).length) = List.length from by funext X; simp [names]] at this
  exact this
 ·constructor
  ·intro e
   have e' : LV = [] := List.eq_nil_of_length_eq_zero e
   have hc := h.ch
   rw [e'] at hc
   have : root = row := hc
   rw [← this]
   exact h.rl
  ·intro hr4
   rcases Nat.eq_zero_or_pos LV.length with h0 | h0
   ·exact h0
   ·have h3 := List.length_pos_iff.2 (h.root_ne (List.length_pos_iff.1 h0))
    obtain ⟨k, hk⟩ : ∃ k, LV.length = k + 1 := ⟨LV.length - 1, by omega⟩
    rw [hk, Nat.pow_succ] at h2
    have : 0 < 5 ^ k := Nat.pow_pos (by decide)
    have : 1 * 5 ≤ 5 ^ k * 5 := Nat.mul_le_mul_right _ this
    have : (5 ^ k * 5) * 1 ≤ 5 ^ k * 5 * root.length := Nat.mul_le_mul_left _ h3
    omega
theorem pre_far : ∀ (old : List Node) (want A X Y : EL), (∀ n ∈ old, n.2.length ≤ 10) → ents old = A ++ X → want = A ++ Y → A.length ≤ lens (old.take (preN old want)) + 9 ∨ preN old want = old.length
 | [], want, A, X, Y, _, _, _ => .inr rfl
 | n :: old, want, A, X, Y, hf, h1, h2 => by
  have hn := hf n (by simp)
  by_cases hA : n.2.length ≤ A.length
  ·-- the node is a part of A
   have e1 : n.2 ++ ents old = A ++ X := h1
   have hp : n.2 = A.take n.2.length := by
    have := congrArg (List.take n.2.length) e1
    rwa [List.take_left, List.take_append_of_le_length hA] at this
   have hr : ents old = A.drop n.2.length ++ X := by
    have := congrArg (List.drop n.2.length) e1
    rwa [List.drop_left, List.drop_append_of_le_length hA] at this
   have hw : want.drop n.2.length = A.drop n.2.length ++ Y := by rw [h2, List.drop_append_of_le_length hA]
   have hc : n.2.length ≤ want.length ∧ want.take n.2.length = n.2 := by
    refine ⟨by rw [h2, List.length_append]; omega, ?_⟩
    rw [h2, List.take_append_of_le_length hA]
    exact hp.symm
   have ih := pre_far old (want.drop n.2.length) (A.drop n.2.length) X Y (fun k hk => hf k (by simp [hk])) hr hw
   unfold preN
   rw [if_pos hc, List.take_succ_cons, List.length_cons]
   simp only [lens]
   rw [List.length_drop] at ih
   omega
  ·left
   omega
theorem suf_far : ∀ (r : List Node) (mid C X Y : EL), (∀ n ∈ r, n.2.length ≤ 10) → ents r.reverse = X ++ C → mid = Y ++ C → C.length ≤ lens (r.take (sufN r mid)) + 9 ∨ sufN r mid = r.length
 | [], mid, C, X, Y, _, _, _ => .inr rfl
 | n :: r, mid, C, X, Y, hf, h1, h2 => by
  have hn := hf n (by simp)
  by_cases hC : n.2.length ≤ C.length
  ·rw [ents_reverse_snoc] at h1
   have hl := congrArg List.length h1
   rw [List.length_append, List.length_append] at hl
   have hm : mid.length = Y.length + C.length := by rw [h2, List.length_append]
   have hs : n.2 = C.drop (C.length - n.2.length) := by
    have := congrArg (List.drop (ents r.reverse).length) h1
    rw [List.drop_left, List.drop_append, List.drop_eq_nil_of_le (by omega), List.nil_append] at this
    rw [show C.length - n.2.length = (ents r.reverse).length - X.length by omega]
    exact this
   have hr : ents r.reverse = X ++ C.take (C.length - n.2.length) := by
    have := congrArg (List.take (ents r.reverse).length) h1
    rw [List.take_left, List.take_append, List.take_of_length_le (by omega)] at this
    rw [this]
    congr 2
    omega
   have hw : mid.take (mid.length - n.2.length) = Y ++ C.take (C.length - n.2.length) := by
    rw [h2, List.take_append, List.take_of_length_le (by rw [List.length_append]; omega)]
    congr 2
    rw [List.length_append]
    omega
   have hc : n.2.length ≤ mid.length ∧ mid.drop (mid.length - n.2.length) = n.2 := by
    refine ⟨by omega, ?_⟩
    rw [h2, List.drop_append, List.drop_eq_nil_of_le (by rw [List.length_append]; omega), List.nil_append, show (Y ++ C).length - n.2.length - Y.length = C.length - n.2.length by rw [List.length_append]; omega]
    exact hs.symm
   have ih := suf_far r (mid.take (mid.length - n.2.length)) (C.take (C.length - n.2.length)) X Y (fun k hk => hf k (by simp [hk])) hr hw
   unfold sufN
   rw [if_pos hc, List.take_succ_cons, List.length_cons]
   simp only [lens]
   rw [List.length_take] at ih
   omega
  ·left
   omega
theorem drop_tail {X C : EL} {j : Nat} (h : X.length ≤ j) : (X ++ C).drop j = C.drop (j - X.length) := by
 rw [List.drop_append, List.drop_eq_nil_of_le h, List.nil_append]
theorem lens_reverse (l : List Node) : lens l.reverse = lens l := by
 induction l with
 | nil => rfl
 | cons a l ih => rw [List.reverse_cons, lens_append, ih]; simp [lens]; omega
theorem mid_few {old : List Node} {want A M M' C : EL} (hf : ∀ n ∈ old, n.2.length ≤ 10) (h1 : ents old = A ++ M' ++ C) (h2 : want = A ++ M ++ C) : (cuts0 old want).to_ - (cuts0 old want).from_ ≤ M.length + 18 := by
 have hl1 : lens old = A.length + M'.length + C.length := by rw [← ents_length, h1]; simp; omega
 have hl2 : want.length = A.length + M.length + C.length := by rw [h2]; simp; omega
 have hp := pre_far old want A (M' ++ C) (M ++ C) hf (by rw [h1, List.append_assoc]) (by rw [h2, List.append_assoc])
 obtain ⟨q1, q2⟩ := preN_le old want
 have hpe := preN_ents old want
 unfold cuts0
 dsimp only
 generalize preN old want = p at *
 have hsp : lens old = lens (old.take p) + lens (old.drop p) := by
  conv => lhs; rw [← List.take_append_drop p old]
  rw [lens_append]
 generalize hfrom : lens (old.take p) = f at *
 obtain ⟨k, hk⟩ : ∃ k, k = min C.length (min (want.length - f) (lens old - f)) := ⟨_, rfl⟩
 have hed : ents (old.drop p) = (ents old).drop f := by
  have e : ents old = ents (old.take p) ++ ents (old.drop p) := by rw [← ents_append, List.take_append_drop]
  rw [e]
  exact (List.drop_left' (by rw [ents_length, hfrom])).symm
 have hs := suf_far (old.drop p).reverse (want.drop f) (C.drop (C.length - k)) (((A ++ M' ++ C).drop f).take (lens old - f - k)) (((A ++ M ++ C).drop f).take (want.length - f - k)) (fun n hn => hf n (List.mem_of_mem_drop (List.mem_reverse.1 hn))) (by
   rw [List.reverse_reverse, hed, h1]
   have e : C.drop (C.length - k) = ((A ++ M' ++ C).drop f).drop (lens old - f - k) := by
    rw [List.drop_drop, drop_tail (by simp only [List.length_append]; omega)]
    congr 1
    simp only [List.length_append]
    omega
   rw [e, List.take_append_drop]) (by
   conv => lhs; rw [h2]
   have e : C.drop (C.length - k) = ((A ++ M ++ C).drop f).drop (want.length - f - k) := by
    rw [List.drop_drop, drop_tail (by simp only [List.length_append]; omega)]
    congr 1
    simp only [List.length_append]
    omega
   rw [e, List.take_append_drop])
 obtain ⟨s1, s2⟩ := sufN_le (old.drop p).reverse (want.drop f)
 generalize sufN (old.drop p).reverse (want.drop f) = s at *
 rw [List.length_reverse, List.length_drop] at s1
 have e : ((old.drop p).reverse).take s = (old.drop (old.length - s)).reverse := by
  rw [List.take_reverse, List.length_drop, List.drop_drop]
  congr 2
  omega
 rw [e, lens_reverse, List.length_drop, List.length_reverse, List.length_drop] at hs
 rw [e, lens_reverse, List.length_drop] at s2
 have hall : s = old.length - p → lens (old.drop (old.length - s)) = lens old - f := by
  intro hse
  rw [show old.length - s = p by omega]
  omega
 have hpall : p = old.length → f = lens old := by
  intro hpe'
  rw [← hfrom, hpe', List.take_length]
 omega
theorem level_few {old : List Node} {want A M M' C : EL} (m : Nat) (hf : Fed old) (h1 : ents old = A ++ M' ++ C) (h2 : want = A ++ M ++ C) :
  ∃ a b P, a ≤ b ∧ b ≤ old.length ∧ (level old want m).1 = old.take a ++ P ++ old.drop b ∧ P.length ≤ (M.length + 27) / 10 := by
 have hm := mid_few (fun n hn => (hf n hn).2) h1 h2
 have h0 := cuts0_ok old want
 have hc := level_cuts old want
 have hmid := mid_len hc
 have hmid1 : (cuts1 old (cuts0 old want)).to_ - (cuts1 old (cuts0 old want)).from_ ≤ M.length + 18 ∨ (cuts1 old (cuts0 old want)).to_ - (cuts1 old (cuts0 old want)).from_ ≤ 14 := by
  unfold cuts1
  split
  ·rename_i hs
   split
   ·rename_i hf1
    right
    dsimp only
    have hj : (cuts0 old want).first - 1 < old.length := by have := h0.fl; have := h0.lo; omega
    have := (hf _ (List.getElem_mem hj)).2
    rw [show old.getD ((cuts0 old want).first - 1) (0, []) = old[(cuts0 old want).first - 1] by simp [List.getD, hj]]
    omega
   ·split
    ·rename_i hl
     right
     dsimp only
     have := (hf _ (List.getElem_mem hl)).2
     rw [show old.getD (cuts0 old want).last (0, []) = old[(cuts0 old want).last] by simp [List.getD, hl]]
     omega
    ·exact .inl hm
  ·exact .inl hm
 refine ⟨(cuts1 old (cuts0 old want)).first, (cuts1 old (cuts0 old want)).last, _, hc.fl, hc.lo, rfl, ?_⟩
 rw [nameN_len, parted_len, hmid]
 omega
def Few : Nat → List (List Node) → Prop
 | _, [] => True
 | m, P :: Ps => P.length ≤ (m + 27) / 10 ∧ Few P.length Ps
def OldNew (old LV Ps : List (List Node)) : Prop := LV.length = Ps.length ∧ ∀ h, ∀ n ∈ LV.getD h [], n ∈ old.getD h [] ∨ n ∈ Ps.getD h []
theorem upNew_few : ∀ (k : Nat) (want : EL) (m c : Nat), want.length ≤ 4 + c → ∃ Ps, OldNew [] (upNew k want m).1 Ps ∧ Few c Ps
 | 0, want, m, c, _ => ⟨[], ⟨rfl, fun h n hn => by simp [upNew] at hn⟩, trivial⟩
 | k + 1, want, m, c, hw => by
  rw [upNew]
  split
  ·exact ⟨[], ⟨rfl, fun h n hn => by simp at hn⟩, trivial⟩
  ·have hl := level_new_len want m
   obtain ⟨Ps, ⟨e1, e2⟩, hf⟩ := upNew_few k (leads (level [] want m).1) (level [] want m).2 (level [] want m).1.length (by rw [leads_len]; omega)
   refine ⟨(level [] want m).1 :: Ps, ⟨by simp [e1], fun h n hn => ?_⟩, by rw [hl]; omega, hf⟩
   cases h with
   | zero => exact .inr hn
   | succ h => exact (e2 h n hn).imp (fun h' => by simp at h') id
theorem upOld_few : ∀ (old : List (List Node)) (E want A M M' C root : EL) (m : Nat), Chain E old root → (∀ L ∈ old, Fed L) → root.length ≤ 4 → E = A ++ M' ++ C → want = A ++ M ++ C → ∃ Ps, OldNew old (upOld old want m).1 Ps ∧ Few M.length Ps
 | [], E, want, A, M, M', C, root, m, hc, _, hr, h1, h2 => by
  have : root = E := hc
  subst this
  rw [h1] at hr
  exact upNew_few _ want m M.length (by rw [h2]; simp only [List.length_append] at *; omega)
 | l :: old, E, want, A, M, M', C, root, m, hc, hf, hr, h1, h2 => by
  obtain ⟨c1, c2⟩ := hc
  obtain ⟨a, b, P, hab, hb, hlv, hP⟩ := level_few (want := want) m (hf l (by simp)) (c1.trans h1) h2
  rw [upOld]
  obtain ⟨Ps, ⟨e1, e2⟩, hfw⟩ := upOld_few old (leads l) (leads (level l want m).1) (leads (l.take a)) (leads P) (leads ((l.take b).drop a)) (leads (l.drop b)) root (level l want m).2 c2 (fun L hL => hf L (by simp [hL])) hr (by
   unfold leads
   rw [← List.map_append, ← List.map_append, take_drop_le _ hab, List.take_append_drop]) (by
   rw [hlv]
   unfold leads
   rw [List.map_append, List.map_append])
  rw [leads_len] at hfw
  refine ⟨P :: Ps, ⟨by simp [e1], fun h n hn => ?_⟩, hP, hfw⟩
  cases h with
  | zero =>
   have hn' : n ∈ (level l want m).1 := hn
   rw [hlv] at hn'
   rcases List.mem_append.1 hn' with hn' | hn'
   ·rcases List.mem_append.1 hn' with hn' | hn'
    ·exact .inl (List.mem_of_mem_take hn')
    ·exact .inr hn'
   ·exact .inl (List.mem_of_mem_drop hn')
  | succ h => exact e2 h n hn
theorem few_total : ∀ (Ps : List (List Node)) (c : Nat), c ≤ 5 → Few c Ps → total Ps ≤ 3 * Ps.length
 | [], _, _, _ => by simp [total]
 | P :: Ps, c, hc, ⟨h1, h2⟩ => by
  have := few_total Ps P.length (by omega) h2
  have e : total (P :: Ps) = P.length + total Ps := by simp [total]
  rw [e, List.length_cons]
  omega
theorem few_take : ∀ (Q : List (List Node)) (m j : Nat), Few m Q → Few m (Q.take j)
 | [], m, j, _ => by simp [Few]
 | X :: Q, m, 0, _ => by simp [Few]
 | X :: Q, m, j + 1, hq => ⟨hq.1, few_take Q _ j hq.2⟩
theorem few_first {Ps : List (List Node)} {c : Nat} (hc : c ≤ 31) (h : Few c Ps) (k : Nat) : total (Ps.take k) ≤ 3 * min k Ps.length + (c - 2) := by
 cases Ps with
 | nil => simp [total]
 | cons P Ps =>
  cases k with
  | zero => simp [total]
  | succ k =>
   obtain ⟨h1, h2⟩ := h
   have h3 := few_total (Ps.take k) P.length (by omega) (few_take Ps P.length k h2)
   rw [List.take_succ_cons]
   have e : total (P :: Ps.take k) = P.length + total (Ps.take k) := by simp [total]
   rw [e, List.length_cons]
   rw [List.length_take] at h3
   omega
end Go.Proofs.YtgjmeeiejcbjfaaGreat.Forks
namespace Go.Proofs.YtgjmeeiejcbjfaaGreat
open Go.Lib (hid)
open Go Go.RowKit
structure SetSt (w0 : World) (Bs Rb Tn : Nat) (lv rv : Value) (TX : List ByteArray) (w : World) : Prop where
 box : w.heap[Bs]? = some (.cells #[lv, rv] 146 (0, 0))
 res : w.heap[Rb]? = some (.cells #[.int .i64 0, .slice none 0 0, .slice none 0 0, .slice none 0 0] 58 (0, 0))
 tx : Row w Tn 9 (TX.map .string)
 bel : Below w0.heap.size w0 w
 loB : w0.heap.size ≤ Bs
 loR : w0.heap.size ≤ Rb
 loT : w0.heap.size ≤ Tn
variable {w0 w w' : World} {Bs Rb Tn : Nat} {lv rv : Value} {TX : List ByteArray}
theorem SetSt.below (h : SetSt w0 Bs Rb Tn lv rv TX w) (hb : Below w.heap.size w w') : SetSt w0 Bs Rb Tn lv rv TX w' :=
 ⟨by rw [hb.block Bs (lt_of_block h.box)]; exact h.box, by rw [hb.block Rb (lt_of_block h.res)]; exact h.res, h.tx.below hb h.tx.lt, h.bel.trans (hb.mono h.bel.size), h.loB, h.loR, h.loT⟩
theorem SetSt.put (h : SetSt w0 Bs Rb Tn lv rv TX w) (k : Nat) (s : ByteArray) : SetSt w0 Bs Rb Tn lv rv (TX.set k s) (w.setCell ⟨Tn, k, none⟩ (.string s)) := by
 obtain ⟨fr, ht⟩ := h.tx.block
 have ht' : w.heap[(⟨Tn, k, none⟩ : Addr).block]? = some (.cells (TX.map .string).toArray 9 fr) := ht
 refine ⟨set_other ht' h.box (by decide), set_other ht' h.res (by decide), ?_, h.bel.setCell h.loT _, h.loB, h.loR, h.loT⟩
 have := h.tx.set k (.string s)
 rwa [← List.map_set] at this
theorem SetSt.cells (h : SetSt w0 Bs Rb Tn lv rv TX w) : w.cell? ⟨Bs, 0, none⟩ = some lv ∧ w.cell? ⟨Bs, 1, none⟩ = some rv ∧ w.cell? ⟨Rb, 0, none⟩ = some (.int .i64 0) ∧ w.cell? ⟨Rb, 1, none⟩ = some (.slice none 0 0) ∧ w.cell? ⟨Rb, 2, none⟩ = some (.slice none 0 0) ∧ w.cell? ⟨Rb, 3, none⟩ = some (.slice none 0 0) ∧ (∀ k, w.frozen? ⟨Rb, k, none⟩ = false) :=
 ⟨cell_of_row w Bs 0 _ _ _ h.box, cell_of_row w Bs 1 _ _ _ h.box, cell_of_row w Rb 0 _ _ _ h.res, cell_of_row w Rb 1 _ _ _ h.res, cell_of_row w Rb 2 _ _ _ h.res, cell_of_row w Rb 3 _ _ _ h.res, free_zero h.res⟩
def set4 (w : World) (Y : Nat) (a b : Value) : World := (((w.setCell ⟨Y, 0, none⟩ a).setCell ⟨Y, 1, none⟩ b).setCell ⟨Y, 2, none⟩ (.slice none 0 0)).setCell ⟨Y, 3, none⟩ (.slice none 0 0)
theorem set4_keep {w : World} {Y : Nat} {x a b : Value} (hY : w.heap[Y]? = some (.cells #[x, .slice none 0 0, .slice none 0 0, .slice none 0 0] 58 (0, 0))) : (set4 w Y a b).heap[Y]? = some (.cells #[a, b, .slice none 0 0, .slice none 0 0] 58 (0, 0)) ∧ ∀ T, T ≠ 58 → KeepT T w (set4 w Y a b) := by
 have h1 := block_setCellS hY 0 a
 have h2 := block_setCellS h1 1 b
 have h3 := block_setCellS h2 2 (.slice none 0 0)
 have h4 := block_setCellS h3 3 (.slice none 0 0)
 refine ⟨by unfold set4; simpa using h4, fun T hT => ?_⟩
 exact (((KeepT.set (a := ⟨Y, 0, none⟩) hY hT).trans (KeepT.set (a := ⟨Y, 1, none⟩) h1 hT)).trans (KeepT.set (a := ⟨Y, 2, none⟩) h2 hT)).trans (KeepT.set (a := ⟨Y, 3, none⟩) h3 hT)
theorem set4_other {w : World} {Y k : Nat} (a b : Value) (h : k ≠ Y) : (set4 w Y a b).heap[k]? = w.heap[k]? := World.setCells4_other h w a b |> fun _ => by
 unfold set4
 rw [Below.heap_setCell _ _ _ _ h, Below.heap_setCell _ _ _ _ h, Below.heap_setCell _ _ _ _ h, Below.heap_setCell _ _ _ _ h]
theorem set4_below {w0 w : World} {B Y : Nat} (a b : Value) (h : Below B w0 w) (hY : B ≤ Y) : Below B w0 (set4 w Y a b) := (((h.setCell hY _).setCell hY _).setCell hY _).setCell hY _
theorem SetSt.boxed {B Y : Nat} {v4 x a : Value} {l : EL} (h : SetSt w0 Bs Rb Tn lv rv TX w) (hY : w.heap[Y]? = some (.cells #[x, .slice none 0 0, .slice none 0 0, .slice none 0 0] 58 (0, 0))) (ne : Y ≠ Rb) (hlo : w0.heap.size ≤ Y) (ho : OwnEnts B w v4 l) (hB : w0.heap.size ≤ B) :
  SetSt w0 Bs Rb Tn lv rv TX (set4 w Y a v4) ∧ (set4 w Y a v4).heap[Y]? = some (.cells #[a, v4, .slice none 0 0, .slice none 0 0] 58 (0, 0)) ∧ OwnEnts w0.heap.size (set4 w Y a v4) v4 l := by
 obtain ⟨h1, h2⟩ := set4_keep (a := a) (b := v4) hY
 refine ⟨⟨h2 _ (by decide) _ _ _ h.box, (set4_other a v4 ne.symm).trans h.res, h.tx.keepT (h2 _ (by decide)), set4_below a v4 h.bel hlo, h.loB, h.loR, h.loT⟩, h1, World.ownsRow.mono (own_keepT ho (h2 _ (by decide))) hB⟩
structure ChSt (w0 : World) (Bs Rb Tn Yb : Nat) (lv rv : Value) (TX : List ByteArray) (ln : Nat) (u : Value) (l : EL) (w : World) (cv fv : Value) (C : CL) (F : IL) : Prop where
 st : SetSt w0 Bs Rb Tn lv rv TX w
 y : w.heap[Yb]? = some (.cells #[.int .i64 (ln : Int), u, cv, fv] 58 (0, 0))
 root : OwnEnts w0.heap.size w u l
 ch : OwnChgs w0.heap.size w cv C
 fr : OwnInts w0.heap.size w fv F
 ne : Yb ≠ Rb
 lo : w0.heap.size ≤ Yb
variable {Yb ln : Nat} {u cv fv : Value} {l : EL} {C : CL} {F : IL}
theorem ChSt.below (h : ChSt w0 Bs Rb Tn Yb lv rv TX ln u l w cv fv C F) (hb : Below w.heap.size w w') : ChSt w0 Bs Rb Tn Yb lv rv TX ln u l w' cv fv C F :=
 ⟨h.st.below hb, by rw [hb.block Yb (lt_of_block h.y)]; exact h.y, own_below h.root hb, h.ch.below hb, h.fr.below hb, h.ne, h.lo⟩
theorem SetSt.kept (h : SetSt w0 Bs Rb Tn lv rv TX w) (k : ∀ T, T = 146 ∨ T = 58 ∨ T = 9 → KeepT T w w') (hb : Below w0.heap.size w0 w') : SetSt w0 Bs Rb Tn lv rv TX w' :=
 ⟨k _ (.inl rfl) _ _ _ h.box, k _ (.inr (.inl rfl)) _ _ _ h.res, h.tx.keepT (k _ (.inr (.inr rfl))), hb, h.loB, h.loR, h.loT⟩
theorem SetSt.setY {a x y z : Value} (h : SetSt w0 Bs Rb Tn lv rv TX w) (hy : w.heap[Yb]? = some (.cells #[a, x, y, z] 58 (0, 0))) (ne : Yb ≠ Rb) (hlo : w0.heap.size ≤ Yb) (k : Nat) (v : Value) : SetSt w0 Bs Rb Tn lv rv TX (w.setCell ⟨Yb, k, none⟩ v) := by
 have s := fun T (hT : T ≠ 58) => KeepT.set (T := T) (u := v) (a := ⟨Yb, k, none⟩) hy hT
 exact ⟨s _ (by decide) _ _ _ h.box, (Below.heap_setCell _ _ _ _ ne.symm).trans h.res, h.tx.keepT (s _ (by decide)), h.bel.setCell hlo _, h.loB, h.loR, h.loT⟩
theorem ChSt.grow {e : TypeId} {sz n : Nat} {xs : List Value} {vv : Value} {w5 : World} (h : ChSt w0 Bs Rb Tn Yb lv rv TX ln u l w cv fv C F) (ho : w.ownsRow w0.heap.size e sz vv n xs) (hg : w.grownBy w5 vv.ownBlock) (h1 : 146 ≠ e) (h2 : 58 ≠ e) (h3 : 9 ≠ e) :
  SetSt w0 Bs Rb Tn lv rv TX w5 ∧ w5.heap[Yb]? = some (.cells #[.int .i64 (ln : Int), u, cv, fv] 58 (0, 0)) :=
 ⟨h.st.kept (fun T hT => KeepT.grown ho hg (by rcases hT with rfl | rfl | rfl <;> assumption)) (h.st.bel.grown hg h.st.bel.size (fun k hk => (ho.lt k hk).1)), kept_other ho hg h.y h2⟩
theorem ChSt.pushCh {w5 : World} {v' : Value} {C' : CL} (h : ChSt w0 Bs Rb Tn Yb lv rv TX ln u l w cv fv C F) (hg : w.grownBy w5 cv.ownBlock) (hown : OwnChgs w0.heap.size w5 v' C') : ChSt w0 Bs Rb Tn Yb lv rv TX ln u l (w5.setCell ⟨Yb, 2, none⟩ v') v' fv C' F ∧ w5.heap[Yb]? = some (.cells #[.int .i64 (ln : Int), u, cv, fv] 58 (0, 0)) := by
 have ho : w.ownsRow w0.heap.size 72 2 cv C.length (ccells C) := h.ch
 obtain ⟨g1, g2⟩ := h.grow ho hg (by decide) (by decide) (by decide)
 have s := fun T (hT : T ≠ 58) => KeepT.set (T := T) (u := v') (a := ⟨Yb, 2, none⟩) g2 hT
 have y5 := block_setCellS g2 2 v'
 exact ⟨⟨g1.setY g2 h.ne h.lo 2 v', by simpa using y5, own_keepT (own_other h.root ho hg (by decide)) (s _ (by decide)), own_keepT hown (s _ (by decide)), own_keepT (own_other h.fr ho hg (by decide)) (s _ (by decide)), h.ne, h.lo⟩, g2⟩
theorem ChSt.pushFr {w5 : World} {v' : Value} {F' : IL} (h : ChSt w0 Bs Rb Tn Yb lv rv TX ln u l w cv fv C F) (hg : w.grownBy w5 fv.ownBlock) (hown : OwnInts w0.heap.size w5 v' F') : ChSt w0 Bs Rb Tn Yb lv rv TX ln u l (w5.setCell ⟨Yb, 3, none⟩ v') cv v' C F' ∧ w5.heap[Yb]? = some (.cells #[.int .i64 (ln : Int), u, cv, fv] 58 (0, 0)) := by
 have ho : w.ownsRow w0.heap.size 3 1 fv F.length (icells F) := h.fr
 obtain ⟨g1, g2⟩ := h.grow ho hg (by decide) (by decide) (by decide)
 have s := fun T (hT : T ≠ 58) => KeepT.set (T := T) (u := v') (a := ⟨Yb, 3, none⟩) g2 hT
 have y5 := block_setCellS g2 3 v'
 exact ⟨⟨g1.setY g2 h.ne h.lo 3 v', by simpa using y5, own_keepT (own_other h.root ho hg (by decide)) (s _ (by decide)), own_keepT (own_other h.ch ho hg (by decide)) (s _ (by decide)), own_keepT hown (s _ (by decide)), h.ne, h.lo⟩, g2⟩
theorem ChSt.cells (h : ChSt w0 Bs Rb Tn Yb lv rv TX ln u l w cv fv C F) : w.cell? ⟨Yb, 0, none⟩ = some (.int .i64 (ln : Int)) ∧ w.cell? ⟨Yb, 1, none⟩ = some u ∧ w.cell? ⟨Yb, 2, none⟩ = some cv ∧ w.cell? ⟨Yb, 3, none⟩ = some fv ∧ ∀ k, w.frozen? ⟨Yb, k, none⟩ = false :=
 ⟨cell_of_row w Yb 0 _ _ _ h.y, cell_of_row w Yb 1 _ _ _ h.y, cell_of_row w Yb 2 _ _ _ h.y, cell_of_row w Yb 3 _ _ _ h.y, free_zero h.y⟩
set_option maxRecDepth 100000 in
set_option maxHeartbeats 8000000 in
theorem set_any {B X A d : Nat} {rdv fv rvA tv : Value} {v : Forks.V} {R0 : EL} {T : IL} {LV : List (List Node)} {root : EL} (w : World) (hA : AskerAt w A X fv rvA tv) (hT : IntsAt w tv T) (hL : LvlsT w lv LV) (hr : EntsAt w rv root) (hW : WAtR B X w rdv d v R0) (hg : Forks.Good v) (hok : Forks.SetOk T LV root) :
  Calls Tryz.prog 78 #[.pointer (some ⟨X, 0, none⟩), .agg #[lv, rv], .pointer (some ⟨A, 0, none⟩)] w (SetOut w (Forks.setT v LV root T)) := by
 obtain ⟨is, his, hzs, hss, hbs⟩ := info_parts info_str
 obtain ⟨ii, hii, hzi, hsi, hbi⟩ := info_parts infoInt
 obtain ⟨ic, hic, hzc, hsc, hbc⟩ := info_parts info_change
 have HA := hid hA
 have HT := hid hT
 have HL := hid hL
 have HR := hid hr
 have HW := hid hW
 have HG := hid hg
 have HOK := hid hok
 obtain ⟨al, cl, rfl⟩ := hL.form
 obtain ⟨ar, cr, rfl⟩ := hr.form
 have zA := lt_of_block hA
 have hmany := hok.many
 have hrl := hok.rl
 obtain ⟨ts, hts⟩ : ∃ ts : Array Value, ts = (List.replicate 4096 (.string ⟨#[]⟩ : Value)).toArray := ⟨_, rfl⟩
 have HTS := hid hts
 have hmT : ∀ wx : World, (Instr.makeSlice 40 (.int .i64 4096) (.int .i64 4096)).run Tryz.prog wx = .ok (.slice (some ⟨wx.heap.size, 0, none⟩) 4096 4096) (wx.alloc (.cells ts 9)) := fun wx => by
  have hr := run_make (P := Tryz.prog) wx 40 9 is (.string ⟨#[]⟩) Tryz.underlying40 his hzs .i64 .i64 4096 4096 (by omega) (by omega) (by rw [hbs]; omega) (by omega)
  rw [hts]
  have e : (4096 : Int).toNat = 4096 := rfl
  rw [e] at hr
  simpa only [hss, Value.cells, madeCells_one, Nat.mul_one] using hr
 have S0 : Hid (SetSt w w.heap.size (w.heap.size + 1) (w.heap.size + 1 + 1) (.slice al LV.length cl) (.slice ar root.length cr) Forks.noTexts (((w.alloc (.cells #[.slice al LV.length cl, .slice ar root.length cr] 146)).alloc (.cells #[.int .i64 0, .slice none 0 0, .slice none 0 0, .slice none 0 0] 58)).alloc (.cells ts 9))) := hid (by
  have h1 := heap_alloc_new w (.cells #[.slice al LV.length cl, .slice ar root.length cr] 146)
  have h2 := heap_alloc_new2 w (.cells #[.slice al LV.length cl, .slice ar root.length cr] 146) (.cells #[.int .i64 0, .slice none 0 0, .slice none 0 0, .slice none 0 0] 58)
  have b1 : Below w.heap.size w (w.alloc (.cells #[.slice al LV.length cl, .slice ar root.length cr] 146)) := (Below.refl _ _).alloc (Nat.le_refl _) _
  have b2 : Below (w.alloc (.cells #[.slice al LV.length cl, .slice ar root.length cr] 146)).heap.size (w.alloc (.cells #[.slice al LV.length cl, .slice ar root.length cr] 146)) ((w.alloc (.cells #[.slice al LV.length cl, .slice ar root.length cr] 146)).alloc (.cells #[.int .i64 0, .slice none 0 0, .slice none 0 0, .slice none 0 0] 58)) := (Below.refl _ _).alloc (Nat.le_refl _) _
  generalize hw2 : (w.alloc (.cells #[.slice al LV.length cl, .slice ar root.length cr] 146)).alloc (.cells #[.int .i64 0, .slice none 0 0, .slice none 0 0, .slice none 0 0] 58) = w2 at *
  have hz : w2.heap.size = w.heap.size + 1 + 1 := by rw [← hw2]; simp
  have b3 : Below w2.heap.size w2 (w2.alloc (.cells ts 9)) := (Below.refl _ _).alloc (Nat.le_refl _) _
  have h3 : Row (w2.alloc (.cells ts 9)) (w.heap.size + 1 + 1) 9 (Forks.noTexts.map .string) := by
   rw [hts, Forks.noTexts, List.map_replicate]
   exact Row.new w2 _ _ hz.symm
  refine ⟨?_, ?_, h3, (b1.trans (b2.mono (by simp))).trans (b3.mono (by omega)), Nat.le_refl _, by omega, by omega⟩
  ·rw [b3.block _ (by omega), b2.block _ (by simp)]; exact h1
  ·rw [b3.block _ (by omega)]; exact h2)
 generalize hP : Forks.putLs T 0 LV Forks.noTexts = P at *
 have HP := hid hP
 clear hP hA hT hL hr hW hg hok hts
 go_enter Tryz.func78, Tryz.ntmps78
 go_wp2_with fail
 generalize ((w.alloc _).alloc _).alloc _ = w0 at *
 obtain ⟨c0, c1, -, -, -, -, -⟩ := S0.out.cells
 clear hmT HTS
 go_wp2_with fail
 go_loopw [22] (fun q wr => ∃ (h : Nat) (TX : List ByteArray), q = .int .i64 h ∧ h ≤ LV.length ∧ TX.length = 4096 ∧ Hid (SetSt w w.heap.size (w.heap.size + 1) (w.heap.size + 1 + 1) (.slice al LV.length cl) (.slice ar root.length cr) TX wr ∧ Forks.putLs T h (LV.drop h) TX = P)) (fun q _ => LV.length - (intOf q).toNat)
 case atStart => exact ⟨0, Forks.noTexts, rfl, by omega, Forks.noTexts_len, hid ⟨S0.out, HP.out⟩⟩
 case round =>
  obtain ⟨h, TX, rfl, hh, hTXl, hst⟩ := hrel
  obtain ⟨hS, hPh⟩ := hst.out
  by_cases hlt : h < LV.length
  ·have i0 : (0 : Int) ≤ (h : Int) := by omega
   have i1 : (h : Int) < (LV.length : Int) := by omega
   obtain ⟨b, off, u, rfl, cuw, hnu⟩ := HL.out.cellAt h hlt
   have cu := (hS.bel.cell (p := ⟨b, off + h, none⟩) (World.block_lt_of_cell? _ _ cuw)).trans cuw
   have hmem : LV.getD h [] ∈ LV := by rw [show LV.getD h [] = LV[h] by simp [List.getD, hlt]]; exact List.getElem_mem hlt
   have hblk := hid (HOK.out.blk _ hmem)
   have hent := hid (HOK.out.ent h)
   have hsml := hid (HOK.out.small h)
   have hn10 := hid (HOK.out.n10 _ hmem)
   have hLn := HOK.out.lens _ hmem
   have hPh' : Hid (Forks.thenLs T (h + 1) (LV.drop (h + 1)) (Forks.putL T (h == 0) (LV.getD h []) TX) = P) := hid (by rw [← hPh]; exact (Forks.putLs_step T LV h hlt TX).symm)
   obtain ⟨leaf, hleaf⟩ : ∃ leaf : Bool, (h == 0) = leaf := ⟨_, rfl⟩
   have hleafI : ((h : Int) == 0) = leaf := by
    rw [← hleaf]
    cases h with
    | zero => rfl
    | succ k => rw [beq_eq_false_iff_ne.2 (by omega), beq_eq_false_iff_ne.2 (by omega)]
   rw [hleaf] at hPh' hsml
   have hent' : Hid (leaf = false → ∀ n ∈ LV.getD h [], ∀ x ∈ n.2, AskOk T x.2.1) := hid (fun hf => hent.out (by rw [← hleaf] at hf; simpa using hf))
   have HS0 := hid hS
   have hnuT : Hid (∀ wz, Below w.heap.size w wz → NodesT wz u (LV.getD h [])) := hid (fun wz hz => hnu.1.below hz)
   obtain ⟨au, ku, rfl⟩ := hnu.1.form
   generalize LV.getD h [] = L at *
   clear hS hPh hst cuw hnu hent hmem hleaf
   go_wp2_with fail
   go_loopw [29] (fun q wr => ∃ (i : Nat) (TX : List ByteArray), q = .int .i64 i ∧ i ≤ L.length ∧ TX.length = 4096 ∧ Hid (SetSt w w.heap.size (w.heap.size + 1) (w.heap.size + 1 + 1) (.slice (some ⟨b, off, none⟩) LV.length cl) (.slice ar root.length cr) TX wr ∧ Forks.thenLs T (h + 1) (LV.drop (h + 1)) (Forks.putL T leaf (L.drop i) TX) = P)) (fun q _ => L.length - (intOf q).toNat)
   case atStart => exact ⟨0, TX, rfl, by omega, hTXl, hid ⟨HS0.out, hPh'.out⟩⟩
   case round =>
    clear hTXl HS0 hPh' cu TX
    obtain ⟨i, TX, rfl, hi, hTXl, hst⟩ := hrel
    obtain ⟨hS, hPi⟩ := hst.out
    by_cases hil : i < L.length
    ·have j0 : (0 : Int) ≤ (i : Int) := by omega
     have j1 : (i : Int) < (L.length : Int) := by omega
     obtain ⟨bn, on, ax, cx, rfl, d0, d1, hE⟩ := (hnuT.out wr hS.bel).cellsAt i hil
     have hmem : L.getD i (0, []) ∈ L := by rw [show L.getD i (0, []) = L[i] by simp [List.getD, hil]]; exact List.getElem_mem hil
     obtain ⟨⟨ak1, ak2, ak3⟩, bl0, bl1⟩ := hblk.out _ hmem
     have hx10 := hn10.out _ hmem
     have hsx := hsml.out _ hmem
     have hex := hid (fun hf => hent'.out hf _ hmem)
     have hyes := hid (Forks.putL_ok T leaf L i hil TX)
     have hno := hid (Forks.putL_no T leaf L i hil TX)
     have HPI := hid hPi
     unfold Forks.nodeTxt at hyes
     generalize L.getD i (0, []) = x at *
     obtain ⟨xb, xl⟩ := x
     dsimp only at *
     have bA : Below wr.heap.size wr (wr.alloc (.cells #[.int .i64 xb, .slice ax xl.length cx] 131)) := (Below.refl _ _).alloc (Nat.le_refl _) _
     have x0 : (wr.alloc (.cells #[.int .i64 xb, .slice ax xl.length cx] 131)).cell? ⟨wr.heap.size, 0, none⟩ = some (.int .i64 xb) := box_cell _ _ _ _
     have x1 : (wr.alloc (.cells #[.int .i64 xb, .slice ax xl.length cx] 131)).cell? ⟨wr.heap.size, 1, none⟩ = some (.slice ax xl.length cx) := box_cell _ _ _ _
     have S1 := hid (hS.below bA)
     have hE1 := hE.keep (.of_below bA)
     have zY : wr.heap.size < (wr.alloc (.cells #[.int .i64 xb, .slice ax xl.length cx] 131)).heap.size := by simp
     have qk := hid (known_any A T tv (.slice ax xl.length cx) xl leaf _ ((S1.out.bel.cell (p := ⟨A, 3, none⟩) zA).trans HA.out.cells.2.2.2.1) (HT.out.below S1.out.bel) hE1 hx10 hex.out)
     clear hS hst hPi hE hE1 hex hmem bA
     go_wp2_with fail
     generalize wr.alloc _ = w1 at *
     generalize wr.heap.size = Y at *
     refine qk.out.mono ?_
     rintro e w2 ⟨v2, rfl, o2, b2⟩
     have S2 := hid (S1.out.below b2)
     have qe := hid (encode_any leaf v2 (Forks.knownT T leaf xl) w2 hsx (o2.ents.ext) (by rw [show (Forks.knownT T leaf xl).length = xl.length by unfold Forks.knownT; split <;> simp]; omega))
     obtain ⟨a2, k2, rfl⟩ := o2.slice
     have y0 := (b2.cell (p := ⟨Y, 0, none⟩) zY).trans x0
     have zY2 : Y < w2.heap.size := Nat.lt_of_lt_of_le zY b2.size
     clear b2 o2 qk x1
     go_wp2_with fail
     refine qe.out.mono ?_
     rintro e w3 ⟨rfl, b3⟩
     have S3 := hid (S2.out.below b3)
     have y03 := (b3.cell (p := ⟨Y, 0, none⟩) zY2).trans y0
     clear b3 qe y0 x0
     by_cases hk : Ents.EncOk (Forks.knownT T leaf xl) leaf
     ·have hek : Ents.encR (Forks.knownT T leaf xl) leaf = (Ents.nodeB (Forks.knownT T leaf xl) leaf, 0) := if_pos hk
      have hP2 := hyes.out hk
      rw [hek]
      dsimp only
      generalize hsv : txt (Ents.nodeB (Forks.knownT T leaf xl) leaf) = sv at *
      have qb := hid (ablock_any A T tv xb w3 ((S3.out.bel.cell (p := ⟨A, 3, none⟩) zA).trans HA.out.cells.2.2.2.1) (HT.out.below S3.out.bel) ak1 ak2 ak3)
      generalize Forks.blockT T xb = bb at *
      obtain ⟨nb, rfl⟩ : ∃ nb : Nat, bb = (nb : Int) := ⟨bb.toNat, by omega⟩
      rw [Int.toNat_natCast] at hP2
      have nb4 : nb < 4096 := by omega
      have fT := S3.out.tx.free nb (by rw [List.length_map, hTXl]; exact nb4)
      have S4 := hid (S3.out.put nb sv)
      have P4 := hid (show Forks.thenLs T (h + 1) (LV.drop (h + 1)) (Forks.putL T leaf (L.drop (i + 1)) (TX.set nb sv)) = P from by rw [← hP2]; exact HPI.out)
      have cT := S3.out.tx.cellAt nb (v := .string (TX.getD nb ⟨#[]⟩)) (by rw [List.getElem?_map, List.getD, List.getElem?_eq_getElem (by omega)]; rfl)
      clear hsv hP2 hk hek hyes hno HPI S1 S2 ak1 ak2 ak3 bl0 hsx hx10 d0 d1
      go_wp2_with fail
      refine qb.out.mono ?_
      rintro e w' ⟨rfl, rfl⟩
      clear qb
      go_wp2_with fail
      go_roundw
      case rel => exact ⟨i + 1, TX.set nb sv, by go_num, by omega, by rw [List.length_set]; exact hTXl, hid ⟨S4.out, P4.out⟩⟩
      case measure => simp [intOf]; omega
     ·have hek : Ents.encR (Forks.knownT T leaf xl) leaf = ([], 2) := if_neg hk
      have hP2 := hno.out hk
      rw [hek]
      dsimp only
      have hPe : P = .error 2 := by
       have := HPI.out
       rw [hP2] at this
       exact this.symm
      obtain ⟨-, -, r0, r1, r2, r3, rF⟩ := S3.out.cells
      have rf0 := rF 0
      have rf1 := rF 1
      have rf2 := rF 2
      have rf3 := rF 3
      have W5 := block_setCell (block_setCell (block_setCell (block_setCell S3.out.res 0 (.int .i64 0)) 1 (.slice none 0 0)) 2 (.slice none 0 0)) 3 (.slice none 0 0)
      have hRb : w.heap.size ≤ w.heap.size + 1 := by omega
      have B5 := hid ((((S3.out.bel.setCell (p := ⟨w.heap.size + 1, 0, none⟩) hRb (.int .i64 0)).setCell (p := ⟨w.heap.size + 1, 1, none⟩) hRb (.slice none 0 0)).setCell (p := ⟨w.heap.size + 1, 2, none⟩) hRb (.slice none 0 0)).setCell (p := ⟨w.heap.size + 1, 3, none⟩) hRb (.slice none 0 0))
      have n0 := cell_of_row _ (w.heap.size + 1) 0 _ _ _ W5
      have n1 := cell_of_row _ (w.heap.size + 1) 1 _ _ _ W5
      have n2 := cell_of_row _ (w.heap.size + 1) 2 _ _ _ W5
      have n3 := cell_of_row _ (w.heap.size + 1) 3 _ _ _ W5
      have F := hid (show SetOut w (Forks.setT v LV root T) (.returned (.tuple #[setV 0 (.slice none 0 0) (.slice none 0 0) (.slice none 0 0), .int .i64 2])) _ from by
       unfold Forks.setT SetOut
       rw [HP.out, hPe]
       exact ⟨B5.out, rfl, by decide⟩)
      clear hPe hP2 hk hek hyes hno HPI S1 S2 ak1 ak2 ak3 bl0 bl1 hsx hx10 d0 d1 rF W5 hRb B5
      go_wp2_with fail
      refine bodyPost_ret (v := .tuple #[setV 0 (.slice none 0 0) (.slice none 0 0) (.slice none 0 0), .int .i64 2]) ?_ rfl F.out
      first | (simp [results, Tryz.results78, go_sem, n0, n1, n2, n3, setV]; done)
    ·obtain rfl : i = L.length := by omega
     have hS9 := hid hS
     have hP9 : Hid (Forks.putLs T (h + 1) (LV.drop (h + 1)) TX = P) := hid (by
      rw [Forks.putL_end] at hPi
      exact hPi)
     clear hst hS hPi
     go_wp2_with fail
     go_roundw
     case rel => exact ⟨h + 1, TX, by go_num, by omega, hTXl, hid ⟨hS9.out, hP9.out⟩⟩
     case measure => simp [intOf]; omega
  ·obtain rfl : h = LV.length := by omega
   have hPok : P = .ok TX := by rw [← hPh]; exact Forks.putLs_end T LV TX
   have HS := hid hS
   have HSR : Hid (Forks.setT v LV root T = .ok ⟨LV.length, Forks.knownT T (LV.length == 0) root, Forks.chT v TX 4096, Forks.frT v TX 4096⟩) := hid (by
    unfold Forks.setT
    rw [HP.out, hPok])
   obtain ⟨c0, c1, -, -, -, -, -⟩ := hS.cells
   have zB := lt_of_block hS.box
   have hwr := hS.bel.size
   obtain ⟨leaf, hleaf⟩ : ∃ leaf : Bool, (LV.length == 0) = leaf := ⟨_, rfl⟩
   have hleafI : ((LV.length : Int) == 0) = leaf := by
    rw [← hleaf]
    cases LV.length with
    | zero => rfl
    | succ k => rw [beq_eq_false_iff_ne.2 (by omega), beq_eq_false_iff_ne.2 (by omega)]
   rw [hleaf] at HSR
   have hrt : leaf = false → ∀ x ∈ root, AskOk T x.2.1 := fun hf => HOK.out.rt (by rw [← hleaf] at hf; simpa using hf)
   have q := hid (fun wz (hz : Below wr.heap.size wr wz) => known_any A T tv (.slice ar root.length cr) root leaf wz (((hS.bel.trans (hz.mono hwr)).cell (p := ⟨A, 3, none⟩) zA).trans HA.out.cells.2.2.2.1) (HT.out.below (hS.bel.trans (hz.mono hwr))) (HR.out.keep (.of_below (hS.bel.trans (hz.mono hwr)))) hrl hrt)
   clear hst hS hPh hPok hleaf hrt
   generalize LV.length = ln at *
   go_upto_region 14 with fail
   go_cut [15] from 58 to 70 (fun y wc => ∃ (Yb : Nat) (u : Value), y = .pointer (some ⟨Yb, 0, none⟩) ∧ Yb ≠ w.heap.size + 1 ∧ w.heap.size ≤ Yb ∧ Hid (SetSt w w.heap.size (w.heap.size + 1) (w.heap.size + 1 + 1) (.slice al ln cl) (.slice ar root.length cr) TX wc ∧ wc.heap[Yb]? = some (.cells #[.int .i64 (ln : Int), u, .slice none 0 0, .slice none 0 0] 58 (0, 0)) ∧ OwnEnts w.heap.size wc u (Forks.knownT T leaf root)))
   case first =>
    have b0 : Below wr.heap.size wr wr.drew := (Below.refl _ _).drew
    have bA : Below wr.heap.size wr (wr.alloc (.cells #[.int .i64 0, .slice none 0 0, .slice none 0 0, .slice none 0 0] 58)).drew := ((Below.refl _ _).alloc (Nat.le_refl _) _).drew
    have hYl : wr.heap.size < (wr.alloc (.cells #[.int .i64 0, .slice none 0 0, .slice none 0 0, .slice none 0 0] 58)).drew.heap.size := by simp
    have hYb : (wr.alloc (.cells #[.int .i64 0, .slice none 0 0, .slice none 0 0, .slice none 0 0] 58)).drew.heap[wr.heap.size]? = some (.cells #[.int .i64 0, .slice none 0 0, .slice none 0 0, .slice none 0 0] 58) := heap_alloc_new wr (.cells #[.int .i64 0, .slice none 0 0, .slice none 0 0, .slice none 0 0] 58)
    have KEEP : Hid (∀ wz, Below wr.heap.size wr wz → wz.cell? ⟨w.heap.size, 0, none⟩ = some (.slice al ln cl) ∧ wz.cell? ⟨w.heap.size, 1, none⟩ = some (.slice ar root.length cr)) := hid (fun wz hz => ⟨(hz.cell (p := ⟨w.heap.size, 0, none⟩) zB).trans c0, (hz.cell (p := ⟨w.heap.size, 1, none⟩) zB).trans c1⟩)
    have hRl : w.heap.size + 1 < wr.heap.size := lt_of_block HS.out.res
    have HX1 : Hid (∀ (w4 : World) (a4 : Option Addr) (c4 : Nat), Below wr.heap.size wr w4 → OwnEnts wr.drew.heap.size w4 (.slice a4 (Forks.knownT T leaf root).length c4) (Forks.knownT T leaf root) → SetSt w w.heap.size (w.heap.size + 1) (w.heap.size + 1 + 1) (.slice al ln cl) (.slice ar root.length cr) TX (w4.alloc (.cells #[.int .i64 (ln : Int), (.slice a4 (Forks.knownT T leaf root).length c4), .slice none 0 0, .slice none 0 0] 58)) ∧ (w4.alloc (.cells #[.int .i64 (ln : Int), (.slice a4 (Forks.knownT T leaf root).length c4), .slice none 0 0, .slice none 0 0] 58)).heap[w4.heap.size]? = some (.cells #[.int .i64 (ln : Int), (.slice a4 (Forks.knownT T leaf root).length c4), .slice none 0 0, .slice none 0 0] 58 (0, 0)) ∧ OwnEnts w.heap.size (w4.alloc (.cells #[.int .i64 (ln : Int), (.slice a4 (Forks.knownT T leaf root).length c4), .slice none 0 0, .slice none 0 0] 58)) (.slice a4 (Forks.knownT T leaf root).length c4) (Forks.knownT T leaf root)) := hid (fun w4 a4 c4 s4 o4 => by
     have hs := s4.size
     exact ⟨HS.out.below (s4.alloc s4.size _), heap_alloc_new w4 _, World.ownsRow.mono (o4.below ((Below.refl _ _).alloc (Nat.le_refl _) _)) hwr⟩)
    have HX2 : Hid (∀ (w4 : World) (a4 : Option Addr) (c4 : Nat), Below wr.heap.size wr w4 → w4.heap[wr.heap.size]? = some (.cells #[.int .i64 0, .slice none 0 0, .slice none 0 0, .slice none 0 0] 58) → OwnEnts (wr.alloc (.cells #[.int .i64 0, .slice none 0 0, .slice none 0 0, .slice none 0 0] 58)).drew.heap.size w4 (.slice a4 (Forks.knownT T leaf root).length c4) (Forks.knownT T leaf root) → SetSt w w.heap.size (w.heap.size + 1) (w.heap.size + 1 + 1) (.slice al ln cl) (.slice ar root.length cr) TX (set4 w4 wr.heap.size (.int .i64 (ln : Int)) (.slice a4 (Forks.knownT T leaf root).length c4)) ∧ (set4 w4 wr.heap.size (.int .i64 (ln : Int)) (.slice a4 (Forks.knownT T leaf root).length c4)).heap[wr.heap.size]? = some (.cells #[.int .i64 (ln : Int), (.slice a4 (Forks.knownT T leaf root).length c4), .slice none 0 0, .slice none 0 0] 58 (0, 0)) ∧ OwnEnts w.heap.size (set4 w4 wr.heap.size (.int .i64 (ln : Int)) (.slice a4 (Forks.knownT T leaf root).length c4)) (.slice a4 (Forks.knownT T leaf root).length c4) (Forks.knownT T leaf root)) := hid (fun w4 a4 c4 s4 N4 o4 => by
     exact (HS.out.below s4).boxed N4 (by omega) (by omega) o4 (by simp; omega))
    go_region_held3 (fun w' => w'.cell? ⟨w.heap.size, 0, none⟩ = some (.slice al ln cl) ∧ w'.cell? ⟨w.heap.size, 1, none⟩ = some (.slice ar root.length cr))
     (first | (refine KEEP.out _ ?_; assumption) | exact KEEP.out _ (s4.alloc s4.size _) | exact Z5)
     (first | (go_at_call 115; (with_reducible refine (q.out _ b0).mono ?_); rintro e w4 ⟨v4, rfl, o4, b4⟩; have s4 : Below wr.heap.size wr w4 := b0.trans (b4.mono b0.size); obtain ⟨a4, c4, rfl⟩ := OwnEnts.slice o4; have N4 := heap_alloc_new w4 (.cells #[.int .i64 0, .slice none 0 0, .slice none 0 0, .slice none 0 0] 58); have k0 : World.cell? (w4.alloc (.cells #[.int .i64 0, .slice none 0 0, .slice none 0 0, .slice none 0 0] 58)) ⟨w4.heap.size, 0, none⟩ = some (.int .i64 0) := cell_of_row _ _ 0 _ _ _ N4; have k1 : World.cell? (w4.alloc (.cells #[.int .i64 0, .slice none 0 0, .slice none 0 0, .slice none 0 0] 58)) ⟨w4.heap.size, 1, none⟩ = some (.slice none 0 0) := cell_of_row _ _ 1 _ _ _ N4; have k2 : World.cell? (w4.alloc (.cells #[.int .i64 0, .slice none 0 0, .slice none 0 0, .slice none 0 0] 58)) ⟨w4.heap.size, 2, none⟩ = some (.slice none 0 0) := cell_of_row _ _ 2 _ _ _ N4; have k3 : World.cell? (w4.alloc (.cells #[.int .i64 0, .slice none 0 0, .slice none 0 0, .slice none 0 0] 58)) ⟨w4.heap.size, 3, none⟩ = some (.slice none 0 0) := cell_of_row _ _ 3 _ _ _ N4; have g0 : World.frozen? (w4.alloc (.cells #[.int .i64 0, .slice none 0 0, .slice none 0 0, .slice none 0 0] 58)) ⟨w4.heap.size, 0, none⟩ = false := free_zero N4 0; have g1 : World.frozen? (w4.alloc (.cells #[.int .i64 0, .slice none 0 0, .slice none 0 0, .slice none 0 0] 58)) ⟨w4.heap.size, 1, none⟩ = false := free_zero N4 1; have g2 : World.frozen? (w4.alloc (.cells #[.int .i64 0, .slice none 0 0, .slice none 0 0, .slice none 0 0] 58)) ⟨w4.heap.size, 2, none⟩ = false := free_zero N4 2; have g3 : World.frozen? (w4.alloc (.cells #[.int .i64 0, .slice none 0 0, .slice none 0 0, .slice none 0 0] 58)) ⟨w4.heap.size, 3, none⟩ = false := free_zero N4 3; have X5 := HX1.out w4 a4 c4 s4 o4; have Z5 := KEEP.out _ (s4.alloc s4.size (.cells #[.int .i64 (ln : Int), (.slice a4 (Forks.knownT T leaf root).length c4), .slice none 0 0, .slice none 0 0] 58))) | (go_at_call 115; (with_reducible refine (q.out _ bA).mono ?_); rintro e w4 ⟨v4, rfl, o4, b4⟩; have s4 : Below wr.heap.size wr w4 := bA.trans (b4.mono bA.size); obtain ⟨a4, c4, rfl⟩ := OwnEnts.slice o4; have N4 := (b4.block wr.heap.size hYl).trans hYb; have k0 : World.cell? w4 ⟨wr.heap.size, 0, none⟩ = some (.int .i64 0) := cell_of_row _ _ 0 _ _ _ N4; have k1 : World.cell? w4 ⟨wr.heap.size, 1, none⟩ = some (.slice none 0 0) := cell_of_row _ _ 1 _ _ _ N4; have k2 : World.cell? w4 ⟨wr.heap.size, 2, none⟩ = some (.slice none 0 0) := cell_of_row _ _ 2 _ _ _ N4; have k3 : World.cell? w4 ⟨wr.heap.size, 3, none⟩ = some (.slice none 0 0) := cell_of_row _ _ 3 _ _ _ N4; have g0 : World.frozen? w4 ⟨wr.heap.size, 0, none⟩ = false := free_zero N4 0; have g1 : World.frozen? w4 ⟨wr.heap.size, 1, none⟩ = false := free_zero N4 1; have g2 : World.frozen? w4 ⟨wr.heap.size, 2, none⟩ = false := free_zero N4 2; have g3 : World.frozen? w4 ⟨wr.heap.size, 3, none⟩ = false := free_zero N4 3; have X5 := HX2.out w4 a4 c4 s4 N4 o4; have Z5 := KEEP.out _ (set4_below (.int .i64 (ln : Int)) (.slice a4 (Forks.knownT T leaf root).length c4) s4 (Nat.le_refl _)); unfold set4 at Z5))
    ·first | (go_meet; exact ⟨_, _, rfl, by have := s4.size; omega, by have := s4.size; omega, hid X5⟩) | (go_step; go_meet; exact ⟨_, _, rfl, by have := s4.size; omega, by have := s4.size; omega, hid X5⟩) | (go_step; go_step; go_meet; exact ⟨_, _, rfl, by have := s4.size; omega, by have := s4.size; omega, hid X5⟩)
    ·first | (go_meet; exact ⟨_, _, rfl, by omega, hwr, hid X5⟩) | (go_step; go_meet; exact ⟨_, _, rfl, by omega, hwr, hid X5⟩) | (go_step; go_step; go_meet; exact ⟨_, _, rfl, by omega, hwr, hid X5⟩)
   obtain ⟨Yb, u, rfl, hYR, hYlo, hS2⟩ := hcut
   have C0 := hid (show ChSt w w.heap.size (w.heap.size + 1) (w.heap.size + 1 + 1) Yb (.slice al ln cl) (.slice ar root.length cr) TX ln u (Forks.knownT T leaf root) wc (.slice none 0 0) (.slice none 0 0) [] [] from ⟨hS2.out.1, hS2.out.2.1, hS2.out.2.2, World.ownsRow_nil _ _ _ _, World.ownsRow_nil _ _ _ _, hYR, hYlo⟩)
   obtain ⟨au, cu, rfl⟩ := hS2.out.2.2.slice
   generalize hKT : Forks.knownT T leaf root = KT at *
   clear hS2 q c0 c1 zB HS hleafI hwr hlt hh
   go_wp2_with fail
   go_loopw [73] (fun q wr => ∃ (b : Nat) (cv fv : Value), q = .int .i64 b ∧ b ≤ 4096 ∧ Hid (ChSt w w.heap.size (w.heap.size + 1) (w.heap.size + 1 + 1) Yb (.slice al ln cl) (.slice ar root.length cr) TX ln (.slice au KT.length cu) KT wr cv fv (Forks.chT v TX b) (Forks.frT v TX b))) (fun q _ => 4096 - (intOf q).toNat)
   case atStart => exact ⟨0, _, _, rfl, by omega, C0⟩
   case round =>
    clear C0
    obtain ⟨b, cv, fv, rfl, hb, hst⟩ := hrel
    have HST := hid hst.out
    obtain ⟨y0, y1, y2, y3, yF⟩ := hst.out.cells
    have hCl := Forks.chT_len v TX b
    have hFl := Forks.frT_len v TX b
    by_cases hlt : b < 4096
    ·have i0 : (0 : Int) ≤ (b : Int) := by omega
     have i1 : (b : Int) < 4096 := by omega
     have cT := hst.out.st.tx.cellAt b (v := .string (Forks.tx TX b)) (by rw [List.getElem?_map, Forks.tx, List.getD, List.getElem?_eq_getElem (by omega)]; rfl)
     have hTX : (Forks.texts v)[b]? = some (Forks.textOf v b) := Forks.texts_at v b hlt
     obtain ⟨Lb, Tb, lv', rv', hl', hw'⟩ := HW.out.keepW (.of_below hst.out.st.bel)
     have cX := hw'.cellX.2.2.2
     have cV := hw'.tb.cellAt b (v := .string (Forks.textOf v b)) (by rw [List.getElem?_map, hTX]; rfl)
     have hch := hid (Forks.chT_succ v TX b)
     have hfr := hid (Forks.frT_succ v TX b)
     have hcB : Forks.chB v TX b = (!(Forks.tx TX b).toList.isEmpty && !((Forks.tx TX b).toList == (Forks.textOf v b).toList)) := rfl
     have hfB : Forks.frB v TX b = ((Forks.tx TX b).toList.isEmpty && !(Forks.textOf v b).toList.isEmpty) := rfl
     obtain ⟨ac, cc, hcv⟩ := hst.out.ch.slice
     obtain ⟨af, cf, hfv⟩ := hst.out.fr.slice
     subst hcv
     subst hfv
     have yf2 := yF 2
     have yf3 := yF 3
     clear hst hw' hTX yF
     generalize Forks.tx TX b = S1 at *
     generalize Forks.textOf v b = S2 at *
     generalize Forks.chB v TX b = cB at *
     generalize Forks.frB v TX b = fB at *
     generalize Forks.chT v TX b = C at *
     generalize Forks.frT v TX b = F at *
     cases h1 : S1.toList.isEmpty
     case false =>
      have hf0 : Hid (Forks.frT v TX (b + 1) = F) := hid (by rw [hfr.out, hfB, h1]; simp)
      cases h2 : S1.toList == S2.toList
      case false =>
       have hc1 : Hid (Forks.chT v TX (b + 1) = C ++ [((b : Int), S1)]) := hid (by rw [hch.out, hcB, h1, h2]; simp)
       clear hcB hfB hch hfr
       have bA : Below wr.heap.size wr (wr.alloc (.cells #[.int .i64 (b : Int), .string S1] 72)) := (Below.refl _ _).alloc (Nat.le_refl _) _
       have ST4 := hid (HST.out.below bA)
       have HO4 := hid (show (wr.alloc (.cells #[.int .i64 (b : Int), .string S1] 72)).ownsRow w.heap.size 72 2 (.slice ac C.length cc) C.length (ccells C) from ST4.out.ch)
       have hone : ∀ u ∈ [Value.int .i64 (b : Int), .string S1], u.oneCell' = true := by
        intro u hu
        simp at hu
        first | (rcases hu with rfl | rfl <;> rfl) | (subst hu; rfl)
       have hB4 := ST4.out.st.bel.size
       clear bA
       go_wp2_with (first | (at_builtin; refine wpList_append_own _ rfl (.tmp 93) (.tmp 97) 36 rfl w.heap.size 72 ic (.agg #[.int .i64 0, .string ⟨#[]⟩]) 2 24 Tryz.underlying36 hic hzc hsc hbc rfl (by decide) _ C.length (ccells C) rfl HO4.out ⟨wr.heap.size, 0, none⟩ 1 1 [Value.int .i64 (b : Int), .string S1] rfl rfl (World.news_of_block (heap_alloc_new _ _)) hone (by unfold maxLen; omega) (by omega) hB4 ?_))
       intro v' w5 hown hgrow _
       have hown2 : OwnChgs w.heap.size w5 v' (C ++ [((b : Int), S1)]) := by
        unfold OwnChgs
        rw [List.length_append, ccells_append]
        exact hown
       have ST5 := hid (ST4.out.pushCh hgrow hown2)
       obtain ⟨a5, c5, hv5⟩ := hown2.slice
       have e5 : (C ++ [((b : Int), S1)]).length = C.length + 1 := by simp
       rw [e5] at hv5
       subst hv5
       have k3 := cell_of_row _ _ 2 _ _ _ ST5.out.2
       have kf := free_zero ST5.out.2 2
       clear hown hgrow hown2 HO4 ST4 e5
       go_wp2_with fail
       go_roundw
       case rel => exact ⟨b + 1, _, _, by go_num, by omega, hid (by rw [hc1.out, hf0.out]; exact ST5.out.1)⟩
       case measure => simp [intOf]; omega
      case true =>
       have hc1 : Hid (Forks.chT v TX (b + 1) = C) := hid (by rw [hch.out, hcB, h1, h2]; simp)
       clear hcB hfB hch hfr
       go_wp2_with fail
       go_roundw
       case rel => exact ⟨b + 1, _, _, by go_num, by omega, hid (by rw [hc1.out, hf0.out]; exact HST.out)⟩
       case measure => simp [intOf]; omega
     case true =>
      have hc1 : Hid (Forks.chT v TX (b + 1) = C) := hid (by rw [hch.out, hcB, h1]; simp)
      cases h2 : S2.toList.isEmpty
      case false =>
       have hf1 : Hid (Forks.frT v TX (b + 1) = F ++ [(b : Int)]) := hid (by rw [hfr.out, hfB, h1, h2]; simp)
       clear hcB hfB hch hfr
       have bA : Below wr.heap.size wr (wr.alloc (.cells #[.int .i64 (b : Int)] 3)) := (Below.refl _ _).alloc (Nat.le_refl _) _
       have ST4 := hid (HST.out.below bA)
       have HO4 := hid (show (wr.alloc (.cells #[.int .i64 (b : Int)] 3)).ownsRow w.heap.size 3 1 (.slice af F.length cf) F.length (icells F) from ST4.out.fr)
       have hone : ∀ u ∈ [Value.int .i64 (b : Int)], u.oneCell' = true := by
        intro u hu
        simp at hu
        first | (rcases hu with rfl | rfl <;> rfl) | (subst hu; rfl)
       have hB4 := ST4.out.st.bel.size
       clear bA
       go_wp2_with (first | (at_builtin; refine wpList_append_own _ rfl (.tmp 114) (.tmp 116) 43 rfl w.heap.size 3 ii (.int .i64 0) 1 8 Tryz.underlying43 hii hzi hsi hbi rfl (by decide) _ F.length (icells F) rfl HO4.out ⟨wr.heap.size, 0, none⟩ 1 1 [Value.int .i64 (b : Int)] rfl rfl (World.news_of_block (heap_alloc_new _ _)) hone (by unfold maxLen; omega) (by omega) hB4 ?_))
       intro v' w5 hown hgrow _
       have hown2 : OwnInts w.heap.size w5 v' (F ++ [(b : Int)]) := by
        unfold OwnInts
        rw [List.length_append, icells_append]
        exact hown
       have ST5 := hid (ST4.out.pushFr hgrow hown2)
       obtain ⟨a5, c5, hv5⟩ := hown2.slice
       have e5 : (F ++ [(b : Int)]).length = F.length + 1 := by simp
       rw [e5] at hv5
       subst hv5
       have k3 := cell_of_row _ _ 3 _ _ _ ST5.out.2
       have kf := free_zero ST5.out.2 3
       clear hown hgrow hown2 HO4 ST4 e5
       go_wp2_with fail
       go_roundw
       case rel => exact ⟨b + 1, _, _, by go_num, by omega, hid (by rw [hc1.out, hf1.out]; exact ST5.out.1)⟩
       case measure => simp [intOf]; omega
      case true =>
       have hf1 : Hid (Forks.frT v TX (b + 1) = F) := hid (by rw [hfr.out, hfB, h1, h2]; simp)
       clear hcB hfB hch hfr
       go_wp2_with fail
       go_roundw
       case rel => exact ⟨b + 1, _, _, by go_num, by omega, hid (by rw [hc1.out, hf1.out]; exact HST.out)⟩
       case measure => simp [intOf]; omega
    ·obtain rfl : b = 4096 := by omega
     obtain ⟨-, -, r0, r1, r2, r3, rF⟩ := HST.out.st.cells
     have rf0 := rF 0
     have rf1 := rF 1
     have rf2 := rF 2
     have rf3 := rF 3
     obtain ⟨ac, cc, hcv⟩ := HST.out.ch.slice
     obtain ⟨af, cf, hfv⟩ := HST.out.fr.slice
     subst hcv
     subst hfv
     have W5 := block_setCellS (block_setCellS (block_setCellS (block_setCellS HST.out.st.res 0 (.int .i64 (ln : Int))) 1 (.slice au KT.length cu)) 2 (.slice ac (Forks.chT v TX 4096).length cc)) 3 (.slice af (Forks.frT v TX 4096).length cf)
     have k1 := block_setCellS HST.out.st.res 0 (.int .i64 (ln : Int))
     have k2 := block_setCellS k1 1 (.slice au KT.length cu)
     have k3 := block_setCellS k2 2 (.slice ac (Forks.chT v TX 4096).length cc)
     have s := fun T (hT : T ≠ 58) => (((KeepT.set (T := T) (u := .int .i64 (ln : Int)) (a := ⟨w.heap.size + 1, 0, none⟩) HST.out.st.res hT).trans (KeepT.set (u := .slice au KT.length cu) (a := ⟨w.heap.size + 1, 1, none⟩) k1 hT)).trans (KeepT.set (u := .slice ac (Forks.chT v TX 4096).length cc) (a := ⟨w.heap.size + 1, 2, none⟩) k2 hT)).trans (KeepT.set (u := .slice af (Forks.frT v TX 4096).length cf) (a := ⟨w.heap.size + 1, 3, none⟩) k3 hT)
     have hRb : w.heap.size ≤ w.heap.size + 1 := by omega
     have B5 := hid ((((HST.out.st.bel.setCell (p := ⟨w.heap.size + 1, 0, none⟩) hRb (.int .i64 (ln : Int))).setCell (p := ⟨w.heap.size + 1, 1, none⟩) hRb (.slice au KT.length cu)).setCell (p := ⟨w.heap.size + 1, 2, none⟩) hRb (.slice ac (Forks.chT v TX 4096).length cc)).setCell (p := ⟨w.heap.size + 1, 3, none⟩) hRb (.slice af (Forks.frT v TX 4096).length cf))
     have n0 := cell_of_row _ (w.heap.size + 1) 0 _ _ _ W5
     have n1 := cell_of_row _ (w.heap.size + 1) 1 _ _ _ W5
     have n2 := cell_of_row _ (w.heap.size + 1) 2 _ _ _ W5
     have n3 := cell_of_row _ (w.heap.size + 1) 3 _ _ _ W5
     have F := hid (show SetOut w (Forks.setT v LV root T) (.returned (.tuple #[setV (ln : Int) (.slice au KT.length cu) (.slice ac (Forks.chT v TX 4096).length cc) (.slice af (Forks.frT v TX 4096).length cf), .int .i64 0])) _ from by
      unfold SetOut
      rw [HSR.out]
      exact ⟨B5.out, _, _, _, rfl, own_keepT HST.out.root (s _ (by decide)), own_keepT HST.out.ch (s _ (by decide)), own_keepT HST.out.fr (s _ (by decide))⟩)
     generalize (Forks.chT v TX 4096).length = nc at *
     generalize (Forks.frT v TX 4096).length = nf at *
     clear rF W5 hRb B5 k1 k2 k3 s hst
     go_wp2_with fail
     refine bodyPost_ret (v := .tuple #[setV (ln : Int) (.slice au KT.length cu) (.slice ac nc cc) (.slice af nf cf), .int .i64 0]) ?_ rfl F.out
     first | (simp [results, Tryz.results78, go_sem, n0, n1, n2, n3, setV]; done)
end Go.Proofs.YtgjmeeiejcbjfaaGreat
namespace Go.Proofs.YtgjmeeiejcbjfaaGreat
open Go.Lib (hid)
open Go Go.RowKit
def ReplaceOut {S : Type} (FR : S → World → Prop) (w0 : World) (M : Nat) (r : Except Int Forks.SetR × S) (e : Ending) (w' : World) : Prop :=
 FR r.2 w' ∧ OnlyM M w0 w' ∧ match r.1 with
  | .error k => e = .returned (.tuple #[setV 0 (.slice none 0 0) (.slice none 0 0) (.slice none 0 0), .int .i64 k]) ∧ k ≠ 0
  | .ok s => ∃ rv cv fv, e = .returned (.tuple #[setV s.depth rv cv fv, .int .i64 0]) ∧ OwnEnts w0.heap.size w' rv s.root ∧ OwnChgs w0.heap.size w' cv s.changes ∧ OwnInts w0.heap.size w' fv s.freed
structure RSt (w0 : World) (Z0 Z1 : Nat) (depth : Int) (rv : Value) (w : World) : Prop where
 tree : w.heap[Z0]? = some (.cells #[.int .i64 depth, rv] 35 (0, 0))
 res : w.heap[Z1]? = some (.cells #[.int .i64 0, .slice none 0 0, .slice none 0 0, .slice none 0 0] 58 (0, 0))
 bel : Below w0.heap.size w0 w
 lo0 : w0.heap.size ≤ Z0
 lo1 : w0.heap.size ≤ Z1
variable {S : Type} {FR : S → World → Prop} {w0 w w' : World} {M Z0 Z1 : Nat} {depth : Int} {rv : Value}
theorem RSt.below (h : RSt w0 Z0 Z1 depth rv w) (hb : Below w.heap.size w w') : RSt w0 Z0 Z1 depth rv w' :=
 ⟨by rw [hb.block Z0 (lt_of_block h.tree)]; exact h.tree, by rw [hb.block Z1 (lt_of_block h.res)]; exact h.res, h.bel.trans (hb.mono h.bel.size), h.lo0, h.lo1⟩
theorem RSt.only {K : Nat} {T : TypeId} {cs : Array Value} {fr : Nat × Nat} (h : RSt w0 Z0 Z1 depth rv w) (hb : OnlyM K w w') (hK : w.heap[K]? = some (.cells cs T fr)) (hlo : w0.heap.size ≤ K) (h1 : 35 ≠ T) (h2 : 58 ≠ T) : RSt w0 Z0 Z1 depth rv w' :=
 ⟨hb.keepS hK h1 _ _ _ h.tree, hb.keepS hK h2 _ _ _ h.res, h.bel.trans (hb.below h.bel.size hlo), h.lo0, h.lo1⟩
theorem RSt.set {K k : Nat} {T : TypeId} {cs : Array Value} {fr : Nat × Nat} (h : RSt w0 Z0 Z1 depth rv w) (hK : w.heap[K]? = some (.cells cs T fr)) (hlo : w0.heap.size ≤ K) (h1 : 35 ≠ T) (h2 : 58 ≠ T) (u : Value) : RSt w0 Z0 Z1 depth rv (w.setCell ⟨K, k, none⟩ u) :=
 ⟨set_other (a := ⟨K, k, none⟩) hK h.tree h1, set_other (a := ⟨K, k, none⟩) hK h.res h2, h.bel.setCell hlo _, h.lo0, h.lo1⟩
theorem RSt.cells (h : RSt w0 Z0 Z1 depth rv w) : w.cell? ⟨Z0, 0, none⟩ = some (.int .i64 depth) ∧ w.cell? ⟨Z0, 1, none⟩ = some rv ∧ w.cell? ⟨Z1, 0, none⟩ = some (.int .i64 0) ∧ w.cell? ⟨Z1, 1, none⟩ = some (.slice none 0 0) ∧ w.cell? ⟨Z1, 2, none⟩ = some (.slice none 0 0) ∧ w.cell? ⟨Z1, 3, none⟩ = some (.slice none 0 0) ∧ ∀ k, w.frozen? ⟨Z1, k, none⟩ = false :=
 ⟨cell_of_row w Z0 0 _ _ _ h.tree, cell_of_row w Z0 1 _ _ _ h.tree, cell_of_row w Z1 0 _ _ _ h.res, cell_of_row w Z1 1 _ _ _ h.res, cell_of_row w Z1 2 _ _ _ h.res, cell_of_row w Z1 3 _ _ _ h.res, free_zero h.res⟩
def zero4 (w : World) (Z : Nat) : World := (((w.setCell ⟨Z, 0, none⟩ (.int .i64 0)).setCell ⟨Z, 1, none⟩ (.slice none 0 0)).setCell ⟨Z, 2, none⟩ (.slice none 0 0)).setCell ⟨Z, 3, none⟩ (.slice none 0 0)
theorem zero4_cells {w : World} {Z : Nat} {a b c d : Value} (h : w.heap[Z]? = some (.cells #[a, b, c, d] 58 (0, 0))) : (zero4 w Z).cell? ⟨Z, 0, none⟩ = some (.int .i64 0) ∧ (zero4 w Z).cell? ⟨Z, 1, none⟩ = some (.slice none 0 0) ∧ (zero4 w Z).cell? ⟨Z, 2, none⟩ = some (.slice none 0 0) ∧ (zero4 w Z).cell? ⟨Z, 3, none⟩ = some (.slice none 0 0) := by
 have h4 := block_setCellS (block_setCellS (block_setCellS (block_setCellS h 0 (.int .i64 0)) 1 (.slice none 0 0)) 2 (.slice none 0 0)) 3 (.slice none 0 0)
 exact ⟨cell_of_row _ Z 0 _ _ _ h4, cell_of_row _ Z 1 _ _ _ h4, cell_of_row _ Z 2 _ _ _ h4, cell_of_row _ Z 3 _ _ _ h4⟩
theorem zero4_below {B Z : Nat} (h : Below B w0 w) (hZ : B ≤ Z) : Below B w0 (zero4 w Z) := (((h.setCell hZ _).setCell hZ _).setCell hZ _).setCell hZ _
theorem zero4_step {Z B : Nat} (w : World) (hZ : B ≤ Z) : Below B w (zero4 w Z) := zero4_below (Below.refl _ _) hZ
theorem OnlyM.zero4 {Z : Nat} (h : OnlyM M w0 w) (hZ : w0.heap.size ≤ Z) : OnlyM M w0 (zero4 w Z) := by
 have hb := zero4_step w hZ
 exact ⟨hb.os.trans h.os, hb.tape.trans h.tape, hb.output.trans h.output, Nat.le_trans h.size hb.size, fun k hk hM => (hb.block k hk).trans (h.block k hk hM)⟩
theorem repl_err {r : Except Int Forks.SetR × S} {k : Int} {s : S} (hF : ∀ s wz wz', FR s wz → Below w0.heap.size wz wz' → FR s wz') (ho : OnlyM M w0 w) (hZ : w0.heap.size ≤ Z1) (hs : FR s w) (hr : r = (.error k, s)) (hk : k ≠ 0) : ReplaceOut FR w0 M r (.returned (.tuple #[setV 0 (.slice none 0 0) (.slice none 0 0) (.slice none 0 0), .int .i64 k])) (zero4 w Z1) := by
 subst hr
 exact ⟨hF _ _ _ hs (zero4_step w hZ), ho.zero4 hZ, rfl, hk⟩
def put4 (w : World) (Z : Nat) (a b c d : Value) : World := (((w.setCell ⟨Z, 0, none⟩ a).setCell ⟨Z, 1, none⟩ b).setCell ⟨Z, 2, none⟩ c).setCell ⟨Z, 3, none⟩ d
theorem put4_block {w : World} {Z : Nat} {a b c d x y z u : Value} (h : w.heap[Z]? = some (.cells #[x, y, z, u] 58 (0, 0))) : (put4 w Z a b c d).heap[Z]? = some (.cells #[a, b, c, d] 58 (0, 0)) ∧ ∀ T, T ≠ 58 → KeepT T w (put4 w Z a b c d) := by
 have h1 := block_setCellS h 0 a
 have h2 := block_setCellS h1 1 b
 have h3 := block_setCellS h2 2 c
 have h4 := block_setCellS h3 3 d
 refine ⟨by unfold put4; simpa using h4, fun T hT => ?_⟩
 exact (((KeepT.set (a := ⟨Z, 0, none⟩) h hT).trans (KeepT.set (a := ⟨Z, 1, none⟩) h1 hT)).trans (KeepT.set (a := ⟨Z, 2, none⟩) h2 hT)).trans (KeepT.set (a := ⟨Z, 3, none⟩) h3 hT)
theorem put4_below {B Z : Nat} (w : World) (a b c d : Value) (hZ : B ≤ Z) : Below B w (put4 w Z a b c d) := ((((Below.refl _ _).setCell hZ _).setCell hZ _).setCell hZ _).setCell hZ _
theorem OnlyM.put4 {Z : Nat} (h : OnlyM M w0 w) (hZ : w0.heap.size ≤ Z) (a b c d : Value) : OnlyM M w0 (put4 w Z a b c d) := by
 have hb := put4_below w a b c d hZ
 exact ⟨hb.os.trans h.os, hb.tape.trans h.tape, hb.output.trans h.output, Nat.le_trans h.size hb.size, fun k hk hM => (hb.block k hk).trans (h.block k hk hM)⟩
theorem OnlyM.of_AM {A : Nat} (h : OnlyM M w0 w) (ho : OnlyAM A M w w') (hA : w0.heap.size ≤ A) : OnlyM M w0 w' :=
 ⟨ho.os.trans h.os, ho.tape.trans h.tape, ho.output.trans h.output, Nat.le_trans h.size ho.size, fun k hk hM => (ho.block k (Nat.lt_of_lt_of_le hk h.size) (by omega) hM).trans (h.block k hk hM)⟩
theorem repl_ok {w1 : World} {r : Except Int Forks.SetR × S} {sr : Forks.SetR} {s : S} {rv' cv' fv' x y z u : Value} (hF : ∀ s wz wz', FR s wz → Below w0.heap.size wz wz' → FR s wz') (ho : OnlyM M w0 w1) (hb : Below w1.heap.size w1 w) (hZ : w0.heap.size ≤ Z1) (hs : FR s w1) (hr : r = (.ok sr, s)) (hres : w.heap[Z1]? = some (.cells #[x, y, z, u] 58 (0, 0)))
  (h1 : OwnEnts w1.heap.size w rv' sr.root) (h2 : OwnChgs w1.heap.size w cv' sr.changes) (h3 : OwnInts w1.heap.size w fv' sr.freed) :
  ReplaceOut FR w0 M r (.returned (.tuple #[setV sr.depth rv' cv' fv', .int .i64 0])) (put4 w Z1 (.int .i64 sr.depth) rv' cv' fv') ∧ (put4 w Z1 (.int .i64 sr.depth) rv' cv' fv').heap[Z1]? = some (.cells #[.int .i64 sr.depth, rv', cv', fv'] 58 (0, 0)) := by
 subst hr
 have hsz := ho.size
 obtain ⟨p1, p2⟩ := put4_block (a := .int .i64 sr.depth) (b := rv') (c := cv') (d := fv') hres
 refine ⟨⟨hF _ _ _ hs ((hb.mono hsz).trans (put4_below w _ _ _ _ hZ)), OnlyM.put4 (ho.trans (.of_below hb)) hZ _ _ _ _, rv', cv', fv', rfl, World.ownsRow.mono (own_keepT h1 (p2 _ (by decide))) hsz, World.ownsRow.mono (own_keepT h2 (p2 _ (by decide))) hsz, World.ownsRow.mono (own_keepT h3 (p2 _ (by decide))) hsz⟩, p1⟩
theorem two_put {SB : Nat} {a b x y : Value} (h : w.heap[SB]? = some (.cells #[x, y] 146 (0, 0))) : ((w.setCell ⟨SB, 0, none⟩ a).setCell ⟨SB, 1, none⟩ b).heap[SB]? = some (.cells #[a, b] 146 (0, 0)) ∧ ∀ T, T ≠ 146 → KeepT T w ((w.setCell ⟨SB, 0, none⟩ a).setCell ⟨SB, 1, none⟩ b) := by
 have h1 := two_set0 (u := a) h
 exact ⟨two_set1 (u := b) h1, fun T hT => (KeepT.set (a := ⟨SB, 0, none⟩) h hT).trans (KeepT.set (a := ⟨SB, 1, none⟩) h1 hT)⟩
theorem RSt.put2 {SB : Nat} {a b x y : Value} (h : RSt w0 Z0 Z1 depth rv w) (hS : w.heap[SB]? = some (.cells #[x, y] 146 (0, 0))) (hlo : w0.heap.size ≤ SB) : RSt w0 Z0 Z1 depth rv ((w.setCell ⟨SB, 0, none⟩ a).setCell ⟨SB, 1, none⟩ b) := by
 have k := (two_put (a := a) (b := b) hS).2
 exact ⟨k _ (by decide) _ _ _ h.tree, k _ (by decide) _ _ _ h.res, (h.bel.setCell hlo _).setCell hlo _, h.lo0, h.lo1⟩
theorem IntsAt.takeS {w : World} {ad : Option Addr} {n cap : Nat} {l : IL} (h : IntsAt w (.slice ad n cap) l) (k : Nat) (hk : k ≤ l.length) : IntsAt w (.slice ad k cap) (l.take k) := by
 have e : (l.take k).length = k := by rw [List.length_take]; omega
 rcases h with ⟨h, rfl⟩ | ⟨b, off, c, h, hc⟩
 ·cases h
  simp at hk; subst hk
  exact .inl ⟨rfl, rfl⟩
 ·cases h
  refine .inr ⟨b, off, cap, by rw [e], fun j u hu => hc j u ?_⟩
  rw [icells, List.map_take, List.getElem?_take] at hu
  split at hu
  ·exact hu
  ·cases hu
theorem IntsAt.keepT {w w' : World} {v : Value} {l : IL} {B : Nat} (h : OwnInts B w v l) (hk : KeepT 3 w w') : OwnInts B w' v l := own_keepT h hk
theorem OwnInts.caps {B : Nat} {w : World} {ad : Option Addr} {n cap : Nat} {l : IL} (h : OwnInts B w (.slice ad n cap) l) : l.length ≤ cap := by
 rcases h.2 with ⟨h, hn⟩ | ⟨g, c, cur, h, hg, hh, h1, h2, h3, h4⟩
 ·omega
 ·cases h; exact h1
theorem WAtR.lvls {B X d : Nat} {rdv : Value} {v : Forks.V} {R : EL} (h : WAtR B X w rdv d v R) : ∃ Lb, w.cell? ⟨X, 1, none⟩ = some (.slice (some ⟨Lb, 0, none⟩) d d) ∧ LvlsT w (.slice (some ⟨Lb, 0, none⟩) d d) (Forks.lvls v d) := by
 obtain ⟨Lb, Tb, lv, rv, hl, h⟩ := h
 refine ⟨Lb, by rw [← hl]; exact h.cellX.2.1, .inr ?_⟩
 obtain ⟨fr, hb⟩ := h.lb.block
 refine ⟨Lb, 0, d, lv.toArray, fr, lv, by rw [Forks.lvls_len], hb, fun j u hu => by simpa using hu, LvlCells.of (by rw [Forks.lvls_len, hl]) (fun i u hu => ?_)⟩
 have hi : i < d := by rw [← hl]; exact (List.getElem?_eq_some_iff.1 hu).1
 rw [Forks.lvls_at v d i hi]
 exact (h.lvl i u hu).c
theorem WAtR.rowv {B X d : Nat} {rdv : Value} {v : Forks.V} {R : EL} (h : WAtR B X w rdv d v R) : ∃ u, w.cell? ⟨X, 2, none⟩ = some u ∧ OwnExts B w u R := by
 obtain ⟨Lb, Tb, lv, rv, hl, h⟩ := h
 exact ⟨rv, h.cellX.2.2.1, h.row⟩
end Go.Proofs.YtgjmeeiejcbjfaaGreat
namespace Go.Proofs.YtgjmeeiejcbjfaaGreat.Forks
open Go.Lib (hid)
open Go Go.RowKit
def turnAt (l : EL) (i : Nat) (tt : Int) : EL := l.set i ((l.getD i (0, 0, 0)).1, tt, (l.getD i (0, 0, 0)).2.2)
theorem turnAt_len (l : EL) (i : Nat) (tt : Int) : (turnAt l i tt).length = l.length := by simp [turnAt]
theorem turnAt_small {l : EL} (h : SmallsE l) (i : Nat) (hi : i < l.length) (tt : Int) (ht : -9223372036854775808 ≤ tt ∧ tt ≤ 9223372036854775807) : SmallsE (turnAt l i tt) := by
 intro x hx
 rcases List.mem_or_eq_of_mem_set hx with hx | rfl
 ·exact h x hx
 ·have := h.at i hi
  unfold SmallE at *
  dsimp only
  omega
def turnN (v : V) (leaf : Bool) (p : E → Bool) (tt : Int) (c : CL) (n : Node) : CL :=
 if 0 ≤ idxOf p n.2 then
  if (Ents.encR (turnAt n.2 (idxOf p n.2).toNat tt) leaf).2 = 0 ∧ ((txt (Ents.encR (turnAt n.2 (idxOf p n.2).toNat tt) leaf).1).toList == (textOf v n.1.toNat).toList) = false then [(n.1, txt (Ents.encR (turnAt n.2 (idxOf p n.2).toNat tt) leaf).1)]
  else c
 else c
theorem turnN_def (v : V) (leaf : Bool) (p : E → Bool) (tt : Int) (c : CL) (b : Int) (l : EL) : turnN v leaf p tt c (b, l) = if 0 ≤ idxOf p l then
  if (Ents.encR (turnAt l (idxOf p l).toNat tt) leaf).2 = 0 ∧ ((txt (Ents.encR (turnAt l (idxOf p l).toNat tt) leaf).1).toList == (textOf v b.toNat).toList) = false then [(b, txt (Ents.encR (turnAt l (idxOf p l).toNat tt) leaf).1)]
  else c
 else c := rfl
def turnedT (v : V) (d : Nat) (root : EL) (level : Nat) (p : E → Bool) (tt : Int) : SetR :=
 if d = level then ⟨d, if 0 ≤ idxOf p root then turnAt root (idxOf p root).toNat tt else root, [], []⟩
 else ⟨d, root, (lvl v (level + 1)).foldl (turnN v (level == 0) p tt) [], []⟩
theorem fold_take {α β : Type} (f : β → α → β) (b : β) (l : List α) (i : Nat) (hi : i < l.length) (d : α) : (l.take (i + 1)).foldl f b = f ((l.take i).foldl f b) (l.getD i d) := by
 rw [List.take_succ_eq_append_getElem hi, List.foldl_append]
 simp [List.getD, hi]
theorem turnN_len (v : V) (leaf : Bool) (p : E → Bool) (tt : Int) (n : Node) (c : CL) (h : c.length ≤ 1) : (turnN v leaf p tt c n).length ≤ 1 := by
 unfold turnN
 split
 ·split
  ·simp
  ·exact h
 ·exact h
theorem turn_len (v : V) (leaf : Bool) (p : E → Bool) (tt : Int) : ∀ (L : List Node) (c : CL), c.length ≤ 1 → (L.foldl (turnN v leaf p tt) c).length ≤ 1
 | [], c, h => h
 | n :: L, c, h => turn_len v leaf p tt L _ (turnN_len v leaf p tt n c h)
theorem idxOf_lt {l : EL} {p : E → Bool} (h : 0 ≤ idxOf p l) : (idxOf p l).toNat < l.length := by
 rcases idxOf_cases p l with hI | ⟨j, hj, hI⟩
 ·omega
 ·omega
theorem lvl_small {v : V} (h : Good v) (k : Nat) : ∀ n ∈ lvl v k, SmallsE n.2 := fun n hn => by
 obtain ⟨x, hx, rfl⟩ := List.mem_map.1 hn
 have hr := (h.enc x (List.mem_filter.1 hx).1).2.2
 intro y hy
 have := Ents.may_fits (hr.may y hy)
 unfold Ents.Fits at this
 unfold SmallE
 omega
end Go.Proofs.YtgjmeeiejcbjfaaGreat.Forks
