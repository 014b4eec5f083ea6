/- Trees: what a Replace comes to, as a function (no program here). -/
import Derived.Test.YtgjmeeiejcbjfaaGreatF22
import Derived.Test.YtgjmeeiejcbjfaaGreatF24
import Derived.Test.YtgjmeeiejcbjfaaGreatF25
import Derived.Test.YtgjmeeiejcbjfaaGreatF23
import Derived.Test.YtgjmeeiejcbjfaaGreatF14
import Derived.Test.YtgjmeeiejcbjfaaGreatF20
set_option linter.unusedSimpArgs false
set_option linter.unusedVariables false
namespace Go.Proofs.YtgjmeeiejcbjfaaGreat.Forks
open Go.Lib (hid)
open Go Go.RowKit
theorem row_room : ∀ (l : EL) (k : Int), Exts.Row l → (∀ y ∈ l, k ≤ y.1) → 0 ≤ k → k ≤ 2048 → (l.length : Int) ≤ 2048 - k
 | [], k, _, _, _, hk => by simp; omega
 | x :: l, k, h, hy, h0, _ => by
  have hm := h.1
  have hx := hy x (by simp)
  unfold Exts.may at hm
  have hf : Exts.fin x = x.1 + x.2.2 := rfl
  have := row_room l (Exts.fin x) h.2.2 h.2.1 (by omega) (by omega)
  simp only [List.length_cons]
  omega
theorem row_len {l : EL} (h : Exts.Row l) : l.length ≤ 2048 := by
 have := row_room l 0 h (fun y hy => by have := h.may y hy; unfold Exts.may at this; omega) (by omega) (by omega)
 omega
theorem parts_low {l : EL} (hl : Exts.Row l) : Exts.parts l 0 0 = [] := Exts.parts_off (fun y hy => by right; have := hl.may y hy; unfold Exts.may at this; omega)
theorem parts_high {l : EL} (hl : Exts.Row l) : Exts.parts l 2048 2048 = [] := Exts.parts_off (fun y hy => by left; have := hl.may y hy; unfold Exts.may at this; have : Exts.fin y = y.1 + y.2.2 := rfl; omega)
theorem fits_spec {a b : Int} {l : EL} (h : fitsT a b l = true) : 0 ≤ a ∧ a ≤ b ∧ b ≤ 2048 ∧ Exts.Row l ∧ ∀ y ∈ l, a ≤ y.1 ∧ Exts.fin y ≤ b := by
 unfold fitsT at h
 simp only [Bool.and_eq_true, Bool.or_eq_true, decide_eq_true_eq, beq_iff_eq] at h
 obtain ⟨⟨⟨⟨h1, h2⟩, h3⟩, h4⟩, h5⟩ := h
 have hr := Exts.check_row.1 h4
 refine ⟨h1, h2, h3, hr, fun y hy => ?_⟩
 rcases h5 with h5 | ⟨h5, h6⟩
 ·rw [List.eq_nil_of_length_eq_zero h5] at hy; cases hy
 ·refine ⟨?_, Int.le_trans ((Exts.endR_top hr).1 y hy) h6⟩
  cases l with
  | nil => cases hy
  | cons x l =>
   rcases List.mem_cons.1 hy with rfl | hy
   ·exact h5
   ·have h7 := hr.2.1 y hy
    have h8 := hr.1
    unfold Exts.may at h8
    have : Exts.fin x = x.1 + x.2.2 := rfl
    simp at h5
    omega
theorem repl_eq {row l : EL} {a b : Int} (hr : Exts.Row row) (h0 : 0 ≤ a) (hab : a ≤ b) (hb : b ≤ 2048) (hne : a ≠ b) : replT row a b l = Exts.changeR row a b l := by
 unfold replT
 rw [if_neg hne]
 unfold Exts.cutR Exts.punchR
 rw [if_neg (by omega)]
 unfold Exts.changeR
 rw [Int.min_eq_left (by omega), parts_low hr, parts_high hr]
 simp
theorem repl_row {row l : EL} {a b : Int} (hr : Exts.Row row) (h : fitsT a b l = true) : Exts.Row (replT row a b l) := by
 obtain ⟨h1, h2, h3, h4, h5⟩ := fits_spec h
 by_cases e : a = b
 ·unfold replT
  rw [if_pos e]
  exact hr
 ·rw [repl_eq hr h1 h2 h3 e]
  exact Exts.change_row hr h4 a b h1 h2 h5
def lvls (v : V) (d : Nat) : List (List Node) := (List.range d).map fun i => lvl v (i + 1)
theorem lvls_len (v : V) (d : Nat) : (lvls v d).length = d := by simp [lvls]
theorem lvls_at (v : V) (d i : Nat) (h : i < d) : (lvls v d).getD i [] = lvl v (i + 1) := by simp [lvls, List.getD, h]
theorem lvl_ok {v : V} (h : Good v) (k : Nat) : Fed (lvl v k) ∧ Known (lvl v k) ∧ (lvl v k).length ≤ 100000 := by
 refine ⟨fun n hn => ?_, fun n hn => ?_, by have := lvl_len h k; omega⟩
 ·obtain ⟨x, hx, rfl⟩ := List.mem_map.1 hn
  have := h.enc x (List.mem_filter.1 hx).1
  exact ⟨this.1, this.2.1⟩
 ·obtain ⟨x, hx, rfl⟩ := List.mem_map.1 hn
  have := h.blk x (List.mem_filter.1 hx).1
  dsimp only
  omega
theorem lvls_ok {v : V} (h : Good v) (d : Nat) (hd : d ≤ 4) : OldOk (lvls v d) ∧ ∀ L ∈ lvls v d, Known L := by
 refine ⟨⟨by rw [lvls_len]; exact hd, fun L hL => ?_, fun L hL => ?_⟩, fun L hL => ?_⟩ <;>
  (obtain ⟨i, -, rfl⟩ := List.mem_map.1 hL)
 ·exact (lvl_ok h _).1
 ·exact (lvl_ok h _).2.2
 ·exact (lvl_ok h _).2.1
theorem Chain.logical : ∀ {LV : List (List Node)} {row root : EL}, Chain row LV root → (∀ L ∈ LV, Fed L) → (∀ L ∈ LV, ∀ n ∈ L, ∀ x ∈ n.2, ∃ y ∈ row, x.1 = y.1) ∧ ∀ x ∈ root, ∃ y ∈ row, x.1 = y.1
 | [], row, root, h, _ => ⟨(fun L h => by cases h), fun x hx => ⟨x, by rw [← show root = row from h]; exact hx, rfl⟩⟩
 | L :: LV, row, root, h, hf => by
  obtain ⟨h1, h2⟩ := h
  have hL : ∀ n ∈ L, ∀ x ∈ n.2, x ∈ row := fun n hn x hx => by rw [← h1]; exact mem_ents.2 ⟨n, hn, hx⟩
  have hl : ∀ x ∈ leads L, ∃ y ∈ row, x.1 = y.1 := fun x hx => by
   obtain ⟨n, hn, rfl⟩ := List.mem_map.1 hx
   have hn1 := (hf L (by simp) n hn).1
   refine ⟨n.2.getD 0 (0, 0, 0), hL n hn _ ?_, rfl⟩
   rw [show n.2.getD 0 (0, 0, 0) = n.2[0] by simp [List.getD, show 0 < n.2.length by omega]]
   exact List.getElem_mem _
  obtain ⟨h3, h4⟩ := Chain.logical h2 (fun L' hL' => hf L' (by simp [hL']))
  refine ⟨fun L' hL' n hn x hx => ?_, fun x hx => ?_⟩
  ·rcases List.mem_cons.1 hL' with rfl | hL'
   ·exact ⟨x, hL n hn x hx, rfl⟩
   ·obtain ⟨y, hy, e⟩ := h3 L' hL' n hn x hx
    obtain ⟨z, hz, e2⟩ := hl y hy
    exact ⟨z, hz, e.trans e2⟩
  ·obtain ⟨y, hy, e⟩ := h4 x hx
   obtain ⟨z, hz, e2⟩ := hl y hy
   exact ⟨z, hz, e.trans e2⟩
theorem Chain.first : ∀ {LV : List (List Node)} {row root : EL}, Chain row LV root → 0 < LV.length → ents (LV.getD 0 []) = row
 | [], row, root, h, h0 => by simp at h0
 | L :: LV, row, root, h, _ => h.1
theorem Chain.next : ∀ {LV : List (List Node)} {row root : EL}, Chain row LV root → ∀ k, k + 1 < LV.length → ents (LV.getD (k + 1) []) = leads (LV.getD k [])
 | [], row, root, h, k, hk => by simp at hk
 | [L], row, root, h, k, hk => by simp at hk
 | L :: M :: LV, row, root, h, 0, _ => h.2.1
 | L :: M :: LV, row, root, h, k + 1, hk => by
  have := Chain.next h.2 k (by simpa using hk)
  simpa using this
theorem Chain.root : ∀ {LV : List (List Node)} {row root : EL}, Chain row LV root → ∀ k, LV.length = k + 1 → root = leads (LV.getD k [])
 | [], row, root, h, k, hk => by simp at hk
 | [L], row, root, h, k, hk => by
  obtain rfl : k = 0 := by simpa using hk.symm
  exact h.2
 | L :: M :: LV, row, root, h, k, hk => by
  obtain ⟨j, rfl⟩ : ∃ j, k = j + 1 := ⟨LV.length, by simp at hk; omega⟩
  have := Chain.root h.2 j (by simpa using hk)
  simpa using this
theorem leads_ok {m : Nat} {L : List Node} (h : NamedL m L) : ∀ x ∈ leads L, Named m x.2.1 ∧ x.2.2 = 0 := fun x hx => by
 obtain ⟨n, hn, rfl⟩ := List.mem_map.1 hx
 exact ⟨h n hn, rfl⟩
structure ToldOk (m : Nat) (T : IL) : Prop where
 len : m < T.length
 ok : ∀ i, 1 ≤ i → i < T.length → 1 ≤ T.getD i 0 ∧ T.getD i 0 < 4096
theorem ToldOk.ask {m : Nat} {T : IL} (h : ToldOk m T) (hm : m ≤ 1000000) {b : Int} (hb : Named m b) : AskOk T b ∧ 1 ≤ blockT T b ∧ blockT T b < 4096 := by
 have := h.len
 unfold blockT AskOk
 rcases hb with hb | hb
 ·rw [if_neg (by omega)]
  exact ⟨⟨by omega, by omega, fun h => by omega⟩, by omega, by omega⟩
 ·rw [if_pos (by omega)]
  have := h.ok (-b).toNat (by omega) (by omega)
  exact ⟨⟨by omega, by omega, fun _ => by omega⟩, this.1, this.2⟩
theorem row_small {row : EL} (hr : Exts.Row row) : ∀ y ∈ row, 0 ≤ y.1 ∧ y.1 ≤ 2047 ∧ 1 ≤ y.2.1 ∧ y.2.1 ≤ 4095 ∧ 1 ≤ y.2.2 ∧ y.2.2 ≤ 4096 := fun y hy => by
 have := hr.may y hy
 unfold Exts.may at this
 omega
theorem setOk_shape {row root : EL} {LV : List (List Node)} {m : Nat} {T : IL} (hr : Exts.Row row) (hc : Chain row LV root) (hf : ∀ L ∈ LV, Fed L) (hn : ∀ L ∈ LV, NamedL m L) (hm : m ≤ 1000000) (hT : ToldOk m T) (hmany : LV.length ≤ 1000000) (hlen : ∀ L ∈ LV, L.length ≤ 1000000) (hrl : root.length ≤ 1000000) : SetOk T LV root := by
 obtain ⟨l1, l2⟩ := hc.logical hf
 have hget : ∀ h, h < LV.length → LV.getD h [] ∈ LV := fun h hh => by rw [show LV.getD h [] = LV[h] by simp [List.getD, hh]]; exact List.getElem_mem hh
 have hnone : ∀ h, ¬ h < LV.length → LV.getD h [] = [] := fun h hh => by simp [List.getD, Nat.le_of_not_lt hh]
 have hup : ∀ h, h ≠ 0 → ∀ n ∈ LV.getD h [], ∀ x ∈ n.2, Named m x.2.1 ∧ x.2.2 = 0 := fun h h0 n hn' x hx => by
  by_cases hh : h < LV.length
  ·obtain ⟨k, rfl⟩ : ∃ k, h = k + 1 := ⟨h - 1, by omega⟩
   have he := hc.next k hh
   have : x ∈ leads (LV.getD k []) := by rw [← he]; exact mem_ents.2 ⟨n, hn', hx⟩
   exact leads_ok (hn _ (hget k (by omega))) x this
  ·rw [hnone h hh] at hn'; cases hn'
 refine ⟨fun L hL n hn' => ?_, fun h h0 n hn' x hx => (hT.ask hm (hup h h0 n hn' x hx).1).1, fun h0 x hx => ?_, fun h n hn' => ?_, fun L hL n hn' => by have := (hf L hL n hn').2; omega, hlen, hmany, hrl⟩
 ·obtain ⟨a1, a2, a3⟩ := hT.ask hm (hn L hL n hn')
  exact ⟨a1, by omega, a3⟩
 ·obtain ⟨k, hk⟩ : ∃ k, LV.length = k + 1 := ⟨LV.length - 1, by omega⟩
  rw [hc.root k hk] at hx
  exact (hT.ask hm (leads_ok (hn _ (hget k (by omega))) x hx).1).1
 ·by_cases hh : h < LV.length
  ·cases h with
   | zero =>
    intro x hx
    have hx' : x ∈ n.2 := hx
    have : x ∈ row := by rw [← hc.first hh]; exact mem_ents.2 ⟨n, hn', hx'⟩
    have := row_small hr x this
    unfold SmallE
    omega
   | succ k =>
    intro x hx
    have e : knownT T (k + 1 == 0) n.2 = n.2.map fun x => (x.1, blockT T x.2.1, x.2.2) := by unfold knownT; simp
    rw [e] at hx
    obtain ⟨y, hy, rfl⟩ := List.mem_map.1 hx
    obtain ⟨u1, u2⟩ := hup (k + 1) (by omega) n hn' y hy
    obtain ⟨z, hz, e2⟩ := l1 _ (hget _ hh) n hn' y hy
    have hz2 := row_small hr z hz
    have hb := hT.ask hm u1
    unfold SmallE
    dsimp only
    omega
  ·rw [hnone h hh] at hn'; cases hn'
theorem shape_bounds (old : List (List Node)) (hok : OldOk old) (row : EL) (hr : row.length ≤ 100000) : (shapeT old row 0).1.1.length ≤ 1000000 ∧ (shapeT old row 0).2 ≤ 600000 ∧ ∀ L ∈ (shapeT old row 0).1.1, L.length ≤ 1000000 := by
 have key : ∀ (n j : Nat) (LV : List (List Node)) (root : EL) (m : Nat), upLeft old j root.length ≤ n → UpInv old row 0 j LV root m → ∃ j' LV' root' m', UpInv old row 0 j' LV' root' m' ∧ upOld old row 0 = (LV', root', m') := by
  intro n
  induction n with
  | zero =>
   intro j LV root m hn hi
   have : old.length ≤ j ∧ root.length ≤ 4 := by unfold upLeft at hn; omega
   exact ⟨j, LV, root, m, hi, hi.done this.1 this.2⟩
  | succ n ih =>
   intro j LV root m hn hi
   by_cases hgo : j < old.length ∨ 4 < root.length
   ·have := upLeft_lt hok hi.rl hgo (m := m)
    exact ih _ _ _ _ (by omega) (hi.step hok hgo)
   ·exact ⟨j, LV, root, m, hi, hi.done (by omega) (by omega)⟩
 obtain ⟨j', LV', root', m', hi, he⟩ := key _ 0 [] row 0 (Nat.le_refl _) (.start hok row 0 hr)
 have hj := hi.j_le hok.few
 have hm := hi.m_le rfl
 have hl := hi.len
 unfold shapeT
 rw [he]
 dsimp only
 refine ⟨?_, hm, fun L hL => ?_⟩
 ·rw [List.length_reverse]
  have : ∀ (r : List (List Node)) (root : EL), (trimR r root).1.length ≤ r.length := by
   intro r
   induction r with
   | nil => intro root; exact Nat.le_refl _
   | cons l r ih =>
    intro root
    match l with
    | [] => rw [trimR]; have := ih root; simp only [List.length_cons]; omega
    | [n] =>
     rw [trimR]
     split
     ·have := ih n.2; simp only [List.length_cons]; omega
     ·exact Nat.le_refl _
    | a :: b :: l => exact Nat.le_refl _
  have := this LV'.reverse root'
  rw [List.length_reverse] at this
  omega
 ·rw [List.mem_reverse] at hL
  have := trim_mem _ _ L hL
  rw [List.mem_reverse] at this
  have := hi.lens L this
  omega
theorem chain_root_len {row root : EL} {LV : List (List Node)} (hc : Chain row LV root) (hr : row.length ≤ 1000000) (hl : ∀ L ∈ LV, L.length ≤ 1000000) : root.length ≤ 1000000 := by
 cases hk : LV.length with
 | zero =>
  have : LV = [] := List.eq_nil_of_length_eq_zero hk
  subst this
  have : root = row := hc
  rw [this]; exact hr
 | succ k =>
  rw [hc.root k hk, leads_len]
  exact hl _ (by rw [show LV.getD k [] = LV[k]'(by omega) by simp [List.getD, show k < LV.length by omega]]; exact List.getElem_mem _)
def pick (old : List (List Node)) (row : EL) : (List (List Node) × EL) × Nat := if 4 < (shapeT old row 0).1.1.length then shapeT [] row 0 else shapeT old row 0
def known (v : V) (old : List (List Node)) (row : EL) : IL := if 4 < (shapeT old row 0).1.1.length then (natI (nodes v)).take (shapeT [] row 0).2 else []
def replaceV {S : Type} (ak : V → EL → Nat → IL → (Int × IL) × S) (v : V) (d : Nat) (row : EL) : Except Int SetR × S :=
 let sh := pick (lvls v d) row
 let r := ak v row (sh.2 + 1 - ((known v (lvls v d) row).length + 1)) (0 :: known v (lvls v d) row)
 if r.1.1 = 0 then (setT v sh.1.1 sh.1.2 r.1.2, r.2) else (.error r.1.1, r.2)
def replaceT {S : Type} (ak : V → EL → Nat → IL → (Int × IL) × S) (dk : Disk) (depth : Int) (root : EL) (a b : Int) (l : EL) (s : S) : Except Int SetR × S :=
 if fitsT a b l = false then (.error 2, s) else
 match walkT dk depth root with
 | .error k => (.error k, s)
 | .ok x => if meets x.1 (replT x.2 a b l) = true then (.error 2, s) else replaceV ak x.1 depth.toNat (replT x.2 a b l)
theorem told_ok {m : Nat} {K D : IL} (hK : ∀ x ∈ K, 1 ≤ x ∧ x < 4096) (hD : ∀ x ∈ D, 1 ≤ x ∧ x < 4096) (hl : m ≤ K.length + D.length) : ToldOk m ((0 :: K) ++ D) := by
 refine ⟨by simp; omega, fun i h1 h2 => ?_⟩
 obtain ⟨j, rfl⟩ : ∃ j, i = j + 1 := ⟨i - 1, by omega⟩
 simp only [List.cons_append, List.getD_cons_succ]
 have hj : j < (K ++ D).length := by simp at h2 ⊢; omega
 have : (K ++ D).getD j 0 ∈ K ++ D := by
  simp only [List.getD, List.getElem?_eq_getElem hj, Option.getD_some]
  exact List.getElem_mem _
 rcases List.mem_append.1 this with h | h
 ·exact hK _ h
 ·exact hD _ h
end Go.Proofs.YtgjmeeiejcbjfaaGreat.Forks
namespace Go.Proofs.YtgjmeeiejcbjfaaGreat
open Go.Lib (hid)
open Go Go.RowKit
structure SetSt (w0 : World) (Bs Rb Tn : Nat) (lv rv : Value) (TX : List ByteArray) (w : World) : Prop where
 box : w.heap[Bs]? = some (.cells #[lv, rv] 146 (0, 0))
 res : w.heap[Rb]? = some (.cells #[.int .i64 0, .slice none 0 0, .slice none 0 0, .slice none 0 0] 58 (0, 0))
 tx : Row w Tn 9 (TX.map .string)
 bel : Below w0.heap.size w0 w
 loB : w0.heap.size ≤ Bs
 loR : w0.heap.size ≤ Rb
 loT : w0.heap.size ≤ Tn
variable {w0 w w' : World} {Bs Rb Tn : Nat} {lv rv : Value} {TX : List ByteArray}
theorem SetSt.below (h : SetSt w0 Bs Rb Tn lv rv TX w) (hb : Below w.heap.size w w') : SetSt w0 Bs Rb Tn lv rv TX w' :=
 ⟨by rw [hb.block Bs (lt_of_block h.box)]; exact h.box, by rw [hb.block Rb (lt_of_block h.res)]; exact h.res, h.tx.below hb h.tx.lt, h.bel.trans (hb.mono h.bel.size), h.loB, h.loR, h.loT⟩
theorem SetSt.put (h : SetSt w0 Bs Rb Tn lv rv TX w) (k : Nat) (s : ByteArray) : SetSt w0 Bs Rb Tn lv rv (TX.set k s) (w.setCell ⟨Tn, k, none⟩ (.string s)) := by
 obtain ⟨fr, ht⟩ := h.tx.block
 have ht' : w.heap[(⟨Tn, k, none⟩ : Addr).block]? = some (.cells (TX.map .string).toArray 9 fr) := ht
 refine ⟨set_other ht' h.box (by decide), set_other ht' h.res (by decide), ?_, h.bel.setCell h.loT _, h.loB, h.loR, h.loT⟩
 have := h.tx.set k (.string s)
 rwa [← List.map_set] at this
theorem SetSt.cells (h : SetSt w0 Bs Rb Tn lv rv TX w) : w.cell? ⟨Bs, 0, none⟩ = some lv ∧ w.cell? ⟨Bs, 1, none⟩ = some rv ∧ w.cell? ⟨Rb, 0, none⟩ = some (.int .i64 0) ∧ w.cell? ⟨Rb, 1, none⟩ = some (.slice none 0 0) ∧ w.cell? ⟨Rb, 2, none⟩ = some (.slice none 0 0) ∧ w.cell? ⟨Rb, 3, none⟩ = some (.slice none 0 0) ∧ (∀ k, w.frozen? ⟨Rb, k, none⟩ = false) :=
 ⟨cell_of_row w Bs 0 _ _ _ h.box, cell_of_row w Bs 1 _ _ _ h.box, cell_of_row w Rb 0 _ _ _ h.res, cell_of_row w Rb 1 _ _ _ h.res, cell_of_row w Rb 2 _ _ _ h.res, cell_of_row w Rb 3 _ _ _ h.res, free_zero h.res⟩
def set4 (w : World) (Y : Nat) (a b : Value) : World := (((w.setCell ⟨Y, 0, none⟩ a).setCell ⟨Y, 1, none⟩ b).setCell ⟨Y, 2, none⟩ (.slice none 0 0)).setCell ⟨Y, 3, none⟩ (.slice none 0 0)
theorem set4_keep {w : World} {Y : Nat} {x a b : Value} (hY : w.heap[Y]? = some (.cells #[x, .slice none 0 0, .slice none 0 0, .slice none 0 0] 58 (0, 0))) : (set4 w Y a b).heap[Y]? = some (.cells #[a, b, .slice none 0 0, .slice none 0 0] 58 (0, 0)) ∧ ∀ T, T ≠ 58 → KeepT T w (set4 w Y a b) := by
 have h1 := block_setCellS hY 0 a
 have h2 := block_setCellS h1 1 b
 have h3 := block_setCellS h2 2 (.slice none 0 0)
 have h4 := block_setCellS h3 3 (.slice none 0 0)
 refine ⟨by unfold set4; simpa using h4, fun T hT => ?_⟩
 exact (((KeepT.set (a := ⟨Y, 0, none⟩) hY hT).trans (KeepT.set (a := ⟨Y, 1, none⟩) h1 hT)).trans (KeepT.set (a := ⟨Y, 2, none⟩) h2 hT)).trans (KeepT.set (a := ⟨Y, 3, none⟩) h3 hT)
theorem set4_other {w : World} {Y k : Nat} (a b : Value) (h : k ≠ Y) : (set4 w Y a b).heap[k]? = w.heap[k]? := World.setCells4_other h w a b |> fun _ => by
 unfold set4
 rw [Below.heap_setCell _ _ _ _ h, Below.heap_setCell _ _ _ _ h, Below.heap_setCell _ _ _ _ h, Below.heap_setCell _ _ _ _ h]
theorem set4_below {w0 w : World} {B Y : Nat} (a b : Value) (h : Below B w0 w) (hY : B ≤ Y) : Below B w0 (set4 w Y a b) := (((h.setCell hY _).setCell hY _).setCell hY _).setCell hY _
theorem SetSt.boxed {B Y : Nat} {v4 x a : Value} {l : EL} (h : SetSt w0 Bs Rb Tn lv rv TX w) (hY : w.heap[Y]? = some (.cells #[x, .slice none 0 0, .slice none 0 0, .slice none 0 0] 58 (0, 0))) (ne : Y ≠ Rb) (hlo : w0.heap.size ≤ Y) (ho : OwnEnts B w v4 l) (hB : w0.heap.size ≤ B) :
  SetSt w0 Bs Rb Tn lv rv TX (set4 w Y a v4) ∧ (set4 w Y a v4).heap[Y]? = some (.cells #[a, v4, .slice none 0 0, .slice none 0 0] 58 (0, 0)) ∧ OwnEnts w0.heap.size (set4 w Y a v4) v4 l := by
 obtain ⟨h1, h2⟩ := set4_keep (a := a) (b := v4) hY
 refine ⟨⟨h2 _ (by decide) _ _ _ h.box, (set4_other a v4 ne.symm).trans h.res, h.tx.keepT (h2 _ (by decide)), set4_below a v4 h.bel hlo, h.loB, h.loR, h.loT⟩, h1, World.ownsRow.mono (own_keepT ho (h2 _ (by decide))) hB⟩
structure ChSt (w0 : World) (Bs Rb Tn Yb : Nat) (lv rv : Value) (TX : List ByteArray) (ln : Nat) (u : Value) (l : EL) (w : World) (cv fv : Value) (C : CL) (F : IL) : Prop where
 st : SetSt w0 Bs Rb Tn lv rv TX w
 y : w.heap[Yb]? = some (.cells #[.int .i64 (ln : Int), u, cv, fv] 58 (0, 0))
 root : OwnEnts w0.heap.size w u l
 ch : OwnChgs w0.heap.size w cv C
 fr : OwnInts w0.heap.size w fv F
 ne : Yb ≠ Rb
 lo : w0.heap.size ≤ Yb
variable {Yb ln : Nat} {u cv fv : Value} {l : EL} {C : CL} {F : IL}
theorem ChSt.below (h : ChSt w0 Bs Rb Tn Yb lv rv TX ln u l w cv fv C F) (hb : Below w.heap.size w w') : ChSt w0 Bs Rb Tn Yb lv rv TX ln u l w' cv fv C F :=
 ⟨h.st.below hb, by rw [hb.block Yb (lt_of_block h.y)]; exact h.y, own_below h.root hb, h.ch.below hb, h.fr.below hb, h.ne, h.lo⟩
theorem SetSt.kept (h : SetSt w0 Bs Rb Tn lv rv TX w) (k : ∀ T, T = 146 ∨ T = 58 ∨ T = 9 → KeepT T w w') (hb : Below w0.heap.size w0 w') : SetSt w0 Bs Rb Tn lv rv TX w' :=
 ⟨k _ (.inl rfl) _ _ _ h.box, k _ (.inr (.inl rfl)) _ _ _ h.res, h.tx.keepT (k _ (.inr (.inr rfl))), hb, h.loB, h.loR, h.loT⟩
theorem SetSt.setY {a x y z : Value} (h : SetSt w0 Bs Rb Tn lv rv TX w) (hy : w.heap[Yb]? = some (.cells #[a, x, y, z] 58 (0, 0))) (ne : Yb ≠ Rb) (hlo : w0.heap.size ≤ Yb) (k : Nat) (v : Value) : SetSt w0 Bs Rb Tn lv rv TX (w.setCell ⟨Yb, k, none⟩ v) := by
 have s := fun T (hT : T ≠ 58) => KeepT.set (T := T) (u := v) (a := ⟨Yb, k, none⟩) hy hT
 exact ⟨s _ (by decide) _ _ _ h.box, (Below.heap_setCell _ _ _ _ ne.symm).trans h.res, h.tx.keepT (s _ (by decide)), h.bel.setCell hlo _, h.loB, h.loR, h.loT⟩
theorem ChSt.grow {e : TypeId} {sz n : Nat} {xs : List Value} {vv : Value} {w5 : World} (h : ChSt w0 Bs Rb Tn Yb lv rv TX ln u l w cv fv C F) (ho : w.ownsRow w0.heap.size e sz vv n xs) (hg : w.grownBy w5 vv.ownBlock) (h1 : 146 ≠ e) (h2 : 58 ≠ e) (h3 : 9 ≠ e) :
  SetSt w0 Bs Rb Tn lv rv TX w5 ∧ w5.heap[Yb]? = some (.cells #[.int .i64 (ln : Int), u, cv, fv] 58 (0, 0)) :=
 ⟨h.st.kept (fun T hT => KeepT.grown ho hg (by rcases hT with rfl | rfl | rfl <;> assumption)) (h.st.bel.grown hg h.st.bel.size (fun k hk => (ho.lt k hk).1)), kept_other ho hg h.y h2⟩
theorem ChSt.pushCh {w5 : World} {v' : Value} {C' : CL} (h : ChSt w0 Bs Rb Tn Yb lv rv TX ln u l w cv fv C F) (hg : w.grownBy w5 cv.ownBlock) (hown : OwnChgs w0.heap.size w5 v' C') : ChSt w0 Bs Rb Tn Yb lv rv TX ln u l (w5.setCell ⟨Yb, 2, none⟩ v') v' fv C' F ∧ w5.heap[Yb]? = some (.cells #[.int .i64 (ln : Int), u, cv, fv] 58 (0, 0)) := by
 have ho : w.ownsRow w0.heap.size 72 2 cv C.length (ccells C) := h.ch
 obtain ⟨g1, g2⟩ := h.grow ho hg (by decide) (by decide) (by decide)
 have s := fun T (hT : T ≠ 58) => KeepT.set (T := T) (u := v') (a := ⟨Yb, 2, none⟩) g2 hT
 have y5 := block_setCellS g2 2 v'
 exact ⟨⟨g1.setY g2 h.ne h.lo 2 v', by simpa using y5, own_keepT (own_other h.root ho hg (by decide)) (s _ (by decide)), own_keepT hown (s _ (by decide)), own_keepT (own_other h.fr ho hg (by decide)) (s _ (by decide)), h.ne, h.lo⟩, g2⟩
theorem ChSt.pushFr {w5 : World} {v' : Value} {F' : IL} (h : ChSt w0 Bs Rb Tn Yb lv rv TX ln u l w cv fv C F) (hg : w.grownBy w5 fv.ownBlock) (hown : OwnInts w0.heap.size w5 v' F') : ChSt w0 Bs Rb Tn Yb lv rv TX ln u l (w5.setCell ⟨Yb, 3, none⟩ v') cv v' C F' ∧ w5.heap[Yb]? = some (.cells #[.int .i64 (ln : Int), u, cv, fv] 58 (0, 0)) := by
 have ho : w.ownsRow w0.heap.size 3 1 fv F.length (icells F) := h.fr
 obtain ⟨g1, g2⟩ := h.grow ho hg (by decide) (by decide) (by decide)
 have s := fun T (hT : T ≠ 58) => KeepT.set (T := T) (u := v') (a := ⟨Yb, 3, none⟩) g2 hT
 have y5 := block_setCellS g2 3 v'
 exact ⟨⟨g1.setY g2 h.ne h.lo 3 v', by simpa using y5, own_keepT (own_other h.root ho hg (by decide)) (s _ (by decide)), own_keepT (own_other h.ch ho hg (by decide)) (s _ (by decide)), own_keepT hown (s _ (by decide)), h.ne, h.lo⟩, g2⟩
theorem ChSt.cells (h : ChSt w0 Bs Rb Tn Yb lv rv TX ln u l w cv fv C F) : w.cell? ⟨Yb, 0, none⟩ = some (.int .i64 (ln : Int)) ∧ w.cell? ⟨Yb, 1, none⟩ = some u ∧ w.cell? ⟨Yb, 2, none⟩ = some cv ∧ w.cell? ⟨Yb, 3, none⟩ = some fv ∧ ∀ k, w.frozen? ⟨Yb, k, none⟩ = false :=
 ⟨cell_of_row w Yb 0 _ _ _ h.y, cell_of_row w Yb 1 _ _ _ h.y, cell_of_row w Yb 2 _ _ _ h.y, cell_of_row w Yb 3 _ _ _ h.y, free_zero h.y⟩
set_option maxRecDepth 100000 in
set_option maxHeartbeats 8000000 in
theorem set_any {B X A d : Nat} {rdv fv rvA tv : Value} {v : Forks.V} {R0 : EL} {T : IL} {LV : List (List Node)} {root : EL} (w : World) (hA : AskerAt w A X fv rvA tv) (hT : IntsAt w tv T) (hL : LvlsT w lv LV) (hr : EntsAt w rv root) (hW : WAtR B X w rdv d v R0) (hg : Forks.Good v) (hok : Forks.SetOk T LV root) :
  Calls Tryz.prog 78 #[.pointer (some ⟨X, 0, none⟩), .agg #[lv, rv], .pointer (some ⟨A, 0, none⟩)] w (SetOut w (Forks.setT v LV root T)) := by
 obtain ⟨is, his, hzs, hss, hbs⟩ := info_parts info_str
 obtain ⟨ii, hii, hzi, hsi, hbi⟩ := info_parts infoInt
 obtain ⟨ic, hic, hzc, hsc, hbc⟩ := info_parts info_change
 have HA := hid hA
 have HT := hid hT
 have HL := hid hL
 have HR := hid hr
 have HW := hid hW
 have HG := hid hg
 have HOK := hid hok
 obtain ⟨al, cl, rfl⟩ := hL.form
 obtain ⟨ar, cr, rfl⟩ := hr.form
 have zA := lt_of_block hA
 have hmany := hok.many
 have hrl := hok.rl
 obtain ⟨ts, hts⟩ : ∃ ts : Array Value, ts = (List.replicate 4096 (.string ⟨#[]⟩ : Value)).toArray := ⟨_, rfl⟩
 have HTS := hid hts
 have hmT : ∀ wx : World, (Instr.makeSlice 40 (.int .i64 4096) (.int .i64 4096)).run Tryz.prog wx = .ok (.slice (some ⟨wx.heap.size, 0, none⟩) 4096 4096) (wx.alloc (.cells ts 9)) := fun wx => by
  have hr := run_make (P := Tryz.prog) wx 40 9 is (.string ⟨#[]⟩) Tryz.underlying40 his hzs .i64 .i64 4096 4096 (by omega) (by omega) (by rw [hbs]; omega) (by omega)
  rw [hts]
  have e : (4096 : Int).toNat = 4096 := rfl
  rw [e] at hr
  simpa only [hss, Value.cells, madeCells_one, Nat.mul_one] using hr
 have S0 : Hid (SetSt w w.heap.size (w.heap.size + 1) (w.heap.size + 1 + 1) (.slice al LV.length cl) (.slice ar root.length cr) Forks.noTexts (((w.alloc (.cells #[.slice al LV.length cl, .slice ar root.length cr] 146)).alloc (.cells #[.int .i64 0, .slice none 0 0, .slice none 0 0, .slice none 0 0] 58)).alloc (.cells ts 9))) := hid (by
  have h1 := heap_alloc_new w (.cells #[.slice al LV.length cl, .slice ar root.length cr] 146)
  have h2 := heap_alloc_new2 w (.cells #[.slice al LV.length cl, .slice ar root.length cr] 146) (.cells #[.int .i64 0, .slice none 0 0, .slice none 0 0, .slice none 0 0] 58)
  have b1 : Below w.heap.size w (w.alloc (.cells #[.slice al LV.length cl, .slice ar root.length cr] 146)) := (Below.refl _ _).alloc (Nat.le_refl _) _
  have b2 : Below (w.alloc (.cells #[.slice al LV.length cl, .slice ar root.length cr] 146)).heap.size (w.alloc (.cells #[.slice al LV.length cl, .slice ar root.length cr] 146)) ((w.alloc (.cells #[.slice al LV.length cl, .slice ar root.length cr] 146)).alloc (.cells #[.int .i64 0, .slice none 0 0, .slice none 0 0, .slice none 0 0] 58)) := (Below.refl _ _).alloc (Nat.le_refl _) _
  generalize hw2 : (w.alloc (.cells #[.slice al LV.length cl, .slice ar root.length cr] 146)).alloc (.cells #[.int .i64 0, .slice none 0 0, .slice none 0 0, .slice none 0 0] 58) = w2 at *
  have hz : w2.heap.size = w.heap.size + 1 + 1 := by rw [← hw2]; simp
  have b3 : Below w2.heap.size w2 (w2.alloc (.cells ts 9)) := (Below.refl _ _).alloc (Nat.le_refl _) _
  have h3 : Row (w2.alloc (.cells ts 9)) (w.heap.size + 1 + 1) 9 (Forks.noTexts.map .string) := by
   rw [hts, Forks.noTexts, List.map_replicate]
   exact Row.new w2 _ _ hz.symm
  refine ⟨?_, ?_, h3, (b1.trans (b2.mono (by simp))).trans (b3.mono (by omega)), Nat.le_refl _, by omega, by omega⟩
  ·rw [b3.block _ (by omega), b2.block _ (by simp)]; exact h1
  ·rw [b3.block _ (by omega)]; exact h2)
 generalize hP : Forks.putLs T 0 LV Forks.noTexts = P at *
 have HP := hid hP
 clear hP hA hT hL hr hW hg hok hts
 go_enter Tryz.func78, Tryz.ntmps78
 go_wp2_with fail
 generalize ((w.alloc _).alloc _).alloc _ = w0 at *
 obtain ⟨c0, c1, -, -, -, -, -⟩ := S0.out.cells
 clear hmT HTS
 go_wp2_with fail
 go_loopw [22] (fun q wr => ∃ (h : Nat) (TX : List ByteArray), q = .int .i64 h ∧ h ≤ LV.length ∧ TX.length = 4096 ∧ Hid (SetSt w w.heap.size (w.heap.size + 1) (w.heap.size + 1 + 1) (.slice al LV.length cl) (.slice ar root.length cr) TX wr ∧ Forks.putLs T h (LV.drop h) TX = P)) (fun q _ => LV.length - (intOf q).toNat)
 case atStart => exact ⟨0, Forks.noTexts, rfl, by omega, Forks.noTexts_len, hid ⟨S0.out, HP.out⟩⟩
 case round =>
  obtain ⟨h, TX, rfl, hh, hTXl, hst⟩ := hrel
  obtain ⟨hS, hPh⟩ := hst.out
  by_cases hlt : h < LV.length
  ·have i0 : (0 : Int) ≤ (h : Int) := by omega
   have i1 : (h : Int) < (LV.length : Int) := by omega
   obtain ⟨b, off, u, rfl, cuw, hnu⟩ := HL.out.cellAt h hlt
   have cu := (hS.bel.cell (p := ⟨b, off + h, none⟩) (World.block_lt_of_cell? _ _ cuw)).trans cuw
   have hmem : LV.getD h [] ∈ LV := by rw [show LV.getD h [] = LV[h] by simp [List.getD, hlt]]; exact List.getElem_mem hlt
   have hblk := hid (HOK.out.blk _ hmem)
   have hent := hid (HOK.out.ent h)
   have hsml := hid (HOK.out.small h)
   have hn10 := hid (HOK.out.n10 _ hmem)
   have hLn := HOK.out.lens _ hmem
   have hPh' : Hid (Forks.thenLs T (h + 1) (LV.drop (h + 1)) (Forks.putL T (h == 0) (LV.getD h []) TX) = P) := hid (by rw [← hPh]; exact (Forks.putLs_step T LV h hlt TX).symm)
   obtain ⟨leaf, hleaf⟩ : ∃ leaf : Bool, (h == 0) = leaf := ⟨_, rfl⟩
   have hleafI : ((h : Int) == 0) = leaf := by
    rw [← hleaf]
    cases h with
    | zero => rfl
    | succ k => rw [beq_eq_false_iff_ne.2 (by omega), beq_eq_false_iff_ne.2 (by omega)]
   rw [hleaf] at hPh' hsml
   have hent' : Hid (leaf = false → ∀ n ∈ LV.getD h [], ∀ x ∈ n.2, AskOk T x.2.1) := hid (fun hf => hent.out (by rw [← hleaf] at hf; simpa using hf))
   have HS0 := hid hS
   have hnuT : Hid (∀ wz, Below w.heap.size w wz → NodesT wz u (LV.getD h [])) := hid (fun wz hz => hnu.1.below hz)
   obtain ⟨au, ku, rfl⟩ := hnu.1.form
   generalize LV.getD h [] = L at *
   clear hS hPh hst cuw hnu hent hmem hleaf
   go_wp2_with fail
   go_loopw [29] (fun q wr => ∃ (i : Nat) (TX : List ByteArray), q = .int .i64 i ∧ i ≤ L.length ∧ TX.length = 4096 ∧ Hid (SetSt w w.heap.size (w.heap.size + 1) (w.heap.size + 1 + 1) (.slice (some ⟨b, off, none⟩) LV.length cl) (.slice ar root.length cr) TX wr ∧ Forks.thenLs T (h + 1) (LV.drop (h + 1)) (Forks.putL T leaf (L.drop i) TX) = P)) (fun q _ => L.length - (intOf q).toNat)
   case atStart => exact ⟨0, TX, rfl, by omega, hTXl, hid ⟨HS0.out, hPh'.out⟩⟩
   case round =>
    clear hTXl HS0 hPh' cu TX
    obtain ⟨i, TX, rfl, hi, hTXl, hst⟩ := hrel
    obtain ⟨hS, hPi⟩ := hst.out
    by_cases hil : i < L.length
    ·have j0 : (0 : Int) ≤ (i : Int) := by omega
     have j1 : (i : Int) < (L.length : Int) := by omega
     obtain ⟨bn, on, ax, cx, rfl, d0, d1, hE⟩ := (hnuT.out wr hS.bel).cellsAt i hil
     have hmem : L.getD i (0, []) ∈ L := by rw [show L.getD i (0, []) = L[i] by simp [List.getD, hil]]; exact List.getElem_mem hil
     obtain ⟨⟨ak1, ak2, ak3⟩, bl0, bl1⟩ := hblk.out _ hmem
     have hx10 := hn10.out _ hmem
     have hsx := hsml.out _ hmem
     have hex := hid (fun hf => hent'.out hf _ hmem)
     have hyes := hid (Forks.putL_ok T leaf L i hil TX)
     have hno := hid (Forks.putL_no T leaf L i hil TX)
     have HPI := hid hPi
     unfold Forks.nodeTxt at hyes
     generalize L.getD i (0, []) = x at *
     obtain ⟨xb, xl⟩ := x
     dsimp only at *
     have bA : Below wr.heap.size wr (wr.alloc (.cells #[.int .i64 xb, .slice ax xl.length cx] 131)) := (Below.refl _ _).alloc (Nat.le_refl _) _
     have x0 : (wr.alloc (.cells #[.int .i64 xb, .slice ax xl.length cx] 131)).cell? ⟨wr.heap.size, 0, none⟩ = some (.int .i64 xb) := box_cell _ _ _ _
     have x1 : (wr.alloc (.cells #[.int .i64 xb, .slice ax xl.length cx] 131)).cell? ⟨wr.heap.size, 1, none⟩ = some (.slice ax xl.length cx) := box_cell _ _ _ _
     have S1 := hid (hS.below bA)
     have hE1 := hE.keep (.of_below bA)
     have zY : wr.heap.size < (wr.alloc (.cells #[.int .i64 xb, .slice ax xl.length cx] 131)).heap.size := by simp
     have qk := hid (known_any A T tv (.slice ax xl.length cx) xl leaf _ ((S1.out.bel.cell (p := ⟨A, 3, none⟩) zA).trans HA.out.cells.2.2.2.1) (HT.out.below S1.out.bel) hE1 hx10 hex.out)
     clear hS hst hPi hE hE1 hex hmem bA
     go_wp2_with fail
     generalize wr.alloc _ = w1 at *
     generalize wr.heap.size = Y at *
     refine qk.out.mono ?_
     rintro e w2 ⟨v2, rfl, o2, b2⟩
     have S2 := hid (S1.out.below b2)
     have qe := hid (encode_any leaf v2 (Forks.knownT T leaf xl) w2 hsx (o2.ents.ext) (by rw [show (Forks.knownT T leaf xl).length = xl.length by unfold Forks.knownT; split <;> simp]; omega))
     obtain ⟨a2, k2, rfl⟩ := o2.slice
     have y0 := (b2.cell (p := ⟨Y, 0, none⟩) zY).trans x0
     have zY2 : Y < w2.heap.size := Nat.lt_of_lt_of_le zY b2.size
     clear b2 o2 qk x1
     go_wp2_with fail
     refine qe.out.mono ?_
     rintro e w3 ⟨rfl, b3⟩
     have S3 := hid (S2.out.below b3)
     have y03 := (b3.cell (p := ⟨Y, 0, none⟩) zY2).trans y0
     clear b3 qe y0 x0
     by_cases hk : Ents.EncOk (Forks.knownT T leaf xl) leaf
     ·have hek : Ents.encR (Forks.knownT T leaf xl) leaf = (Ents.nodeB (Forks.knownT T leaf xl) leaf, 0) := if_pos hk
      have hP2 := hyes.out hk
      rw [hek]
      dsimp only
      generalize hsv : txt (Ents.nodeB (Forks.knownT T leaf xl) leaf) = sv at *
      have qb := hid (ablock_any A T tv xb w3 ((S3.out.bel.cell (p := ⟨A, 3, none⟩) zA).trans HA.out.cells.2.2.2.1) (HT.out.below S3.out.bel) ak1 ak2 ak3)
      generalize Forks.blockT T xb = bb at *
      obtain ⟨nb, rfl⟩ : ∃ nb : Nat, bb = (nb : Int) := ⟨bb.toNat, by omega⟩
      rw [Int.toNat_natCast] at hP2
      have nb4 : nb < 4096 := by omega
      have fT := S3.out.tx.free nb (by rw [List.length_map, hTXl]; exact nb4)
      have S4 := hid (S3.out.put nb sv)
      have P4 := hid (show Forks.thenLs T (h + 1) (LV.drop (h + 1)) (Forks.putL T leaf (L.drop (i + 1)) (TX.set nb sv)) = P from by rw [← hP2]; exact HPI.out)
      have cT := S3.out.tx.cellAt nb (v := .string (TX.getD nb ⟨#[]⟩)) (by rw [List.getElem?_map, List.getD, List.getElem?_eq_getElem (by omega)]; rfl)
      clear hsv hP2 hk hek hyes hno HPI S1 S2 ak1 ak2 ak3 bl0 hsx hx10 d0 d1
      go_wp2_with fail
      refine qb.out.mono ?_
      rintro e w' ⟨rfl, rfl⟩
      clear qb
      go_wp2_with fail
      go_roundw
      case rel => exact ⟨i + 1, TX.set nb sv, by go_num, by omega, by rw [List.length_set]; exact hTXl, hid ⟨S4.out, P4.out⟩⟩
      case measure => simp [intOf]; omega
     ·have hek : Ents.encR (Forks.knownT T leaf xl) leaf = ([], 2) := if_neg hk
      have hP2 := hno.out hk
      rw [hek]
      dsimp only
      have hPe : P = .error 2 := by
       have := HPI.out
       rw [hP2] at this
       exact this.symm
      obtain ⟨-, -, r0, r1, r2, r3, rF⟩ := S3.out.cells
      have rf0 := rF 0
      have rf1 := rF 1
      have rf2 := rF 2
      have rf3 := rF 3
      have W5 := block_setCell (block_setCell (block_setCell (block_setCell S3.out.res 0 (.int .i64 0)) 1 (.slice none 0 0)) 2 (.slice none 0 0)) 3 (.slice none 0 0)
      have hRb : w.heap.size ≤ w.heap.size + 1 := by omega
      have B5 := hid ((((S3.out.bel.setCell (p := ⟨w.heap.size + 1, 0, none⟩) hRb (.int .i64 0)).setCell (p := ⟨w.heap.size + 1, 1, none⟩) hRb (.slice none 0 0)).setCell (p := ⟨w.heap.size + 1, 2, none⟩) hRb (.slice none 0 0)).setCell (p := ⟨w.heap.size + 1, 3, none⟩) hRb (.slice none 0 0))
      have n0 := cell_of_row _ (w.heap.size + 1) 0 _ _ _ W5
      have n1 := cell_of_row _ (w.heap.size + 1) 1 _ _ _ W5
      have n2 := cell_of_row _ (w.heap.size + 1) 2 _ _ _ W5
      have n3 := cell_of_row _ (w.heap.size + 1) 3 _ _ _ W5
      have F := hid (show SetOut w (Forks.setT v LV root T) (.returned (.tuple #[setV 0 (.slice none 0 0) (.slice none 0 0) (.slice none 0 0), .int .i64 2])) _ from by
       unfold Forks.setT SetOut
       rw [HP.out, hPe]
       exact ⟨B5.out, rfl, by decide⟩)
      clear hPe hP2 hk hek hyes hno HPI S1 S2 ak1 ak2 ak3 bl0 bl1 hsx hx10 d0 d1 rF W5 hRb B5
      go_wp2_with fail
      refine bodyPost_ret (v := .tuple #[setV 0 (.slice none 0 0) (.slice none 0 0) (.slice none 0 0), .int .i64 2]) ?_ rfl F.out
      first | (simp [results, Tryz.results78, go_sem, n0, n1, n2, n3, setV]; done)
    ·obtain rfl : i = L.length := by omega
     have hS9 := hid hS
     have hP9 : Hid (Forks.putLs T (h + 1) (LV.drop (h + 1)) TX = P) := hid (by
      rw [Forks.putL_end] at hPi
      exact hPi)
     clear hst hS hPi
     go_wp2_with fail
     go_roundw
     case rel => exact ⟨h + 1, TX, by go_num, by omega, hTXl, hid ⟨hS9.out, hP9.out⟩⟩
     case measure => simp [intOf]; omega
  ·obtain rfl : h = LV.length := by omega
   have hPok : P = .ok TX := by rw [← hPh]; exact Forks.putLs_end T LV TX
   have HS := hid hS
   have HSR : Hid (Forks.setT v LV root T = .ok ⟨LV.length, Forks.knownT T (LV.length == 0) root, Forks.chT v TX 4096, Forks.frT v TX 4096⟩) := hid (by
    unfold Forks.setT
    rw [HP.out, hPok])
   obtain ⟨c0, c1, -, -, -, -, -⟩ := hS.cells
   have zB := lt_of_block hS.box
   have hwr := hS.bel.size
   obtain ⟨leaf, hleaf⟩ : ∃ leaf : Bool, (LV.length == 0) = leaf := ⟨_, rfl⟩
   have hleafI : ((LV.length : Int) == 0) = leaf := by
    rw [← hleaf]
    cases LV.length with
    | zero => rfl
    | succ k => rw [beq_eq_false_iff_ne.2 (by omega), beq_eq_false_iff_ne.2 (by omega)]
   rw [hleaf] at HSR
   have hrt : leaf = false → ∀ x ∈ root, AskOk T x.2.1 := fun hf => HOK.out.rt (by rw [← hleaf] at hf; simpa using hf)
   have q := hid (fun wz (hz : Below wr.heap.size wr wz) => known_any A T tv (.slice ar root.length cr) root leaf wz (((hS.bel.trans (hz.mono hwr)).cell (p := ⟨A, 3, none⟩) zA).trans HA.out.cells.2.2.2.1) (HT.out.below (hS.bel.trans (hz.mono hwr))) (HR.out.keep (.of_below (hS.bel.trans (hz.mono hwr)))) hrl hrt)
   clear hst hS hPh hPok hleaf hrt
   generalize LV.length = ln at *
   go_upto_region 14 with fail
   go_cut [15] from 58 to 70 (fun y wc => ∃ (Yb : Nat) (u : Value), y = .pointer (some ⟨Yb, 0, none⟩) ∧ Yb ≠ w.heap.size + 1 ∧ w.heap.size ≤ Yb ∧ Hid (SetSt w w.heap.size (w.heap.size + 1) (w.heap.size + 1 + 1) (.slice al ln cl) (.slice ar root.length cr) TX wc ∧ wc.heap[Yb]? = some (.cells #[.int .i64 (ln : Int), u, .slice none 0 0, .slice none 0 0] 58 (0, 0)) ∧ OwnEnts w.heap.size wc u (Forks.knownT T leaf root)))
   case first =>
    have b0 : Below wr.heap.size wr wr.drew := (Below.refl _ _).drew
    have bA : Below wr.heap.size wr (wr.alloc (.cells #[.int .i64 0, .slice none 0 0, .slice none 0 0, .slice none 0 0] 58)).drew := ((Below.refl _ _).alloc (Nat.le_refl _) _).drew
    have hYl : wr.heap.size < (wr.alloc (.cells #[.int .i64 0, .slice none 0 0, .slice none 0 0, .slice none 0 0] 58)).drew.heap.size := by simp
    have hYb : (wr.alloc (.cells #[.int .i64 0, .slice none 0 0, .slice none 0 0, .slice none 0 0] 58)).drew.heap[wr.heap.size]? = some (.cells #[.int .i64 0, .slice none 0 0, .slice none 0 0, .slice none 0 0] 58) := heap_alloc_new wr (.cells #[.int .i64 0, .slice none 0 0, .slice none 0 0, .slice none 0 0] 58)
    have KEEP : Hid (∀ wz, Below wr.heap.size wr wz → wz.cell? ⟨w.heap.size, 0, none⟩ = some (.slice al ln cl) ∧ wz.cell? ⟨w.heap.size, 1, none⟩ = some (.slice ar root.length cr)) := hid (fun wz hz => ⟨(hz.cell (p := ⟨w.heap.size, 0, none⟩) zB).trans c0, (hz.cell (p := ⟨w.heap.size, 1, none⟩) zB).trans c1⟩)
    have hRl : w.heap.size + 1 < wr.heap.size := lt_of_block HS.out.res
    have HX1 : Hid (∀ (w4 : World) (a4 : Option Addr) (c4 : Nat), Below wr.heap.size wr w4 → OwnEnts wr.drew.heap.size w4 (.slice a4 (Forks.knownT T leaf root).length c4) (Forks.knownT T leaf root) → SetSt w w.heap.size (w.heap.size + 1) (w.heap.size + 1 + 1) (.slice al ln cl) (.slice ar root.length cr) TX (w4.alloc (.cells #[.int .i64 (ln : Int), (.slice a4 (Forks.knownT T leaf root).length c4), .slice none 0 0, .slice none 0 0] 58)) ∧ (w4.alloc (.cells #[.int .i64 (ln : Int), (.slice a4 (Forks.knownT T leaf root).length c4), .slice none 0 0, .slice none 0 0] 58)).heap[w4.heap.size]? = some (.cells #[.int .i64 (ln : Int), (.slice a4 (Forks.knownT T leaf root).length c4), .slice none 0 0, .slice none 0 0] 58 (0, 0)) ∧ OwnEnts w.heap.size (w4.alloc (.cells #[.int .i64 (ln : Int), (.slice a4 (Forks.knownT T leaf root).length c4), .slice none 0 0, .slice none 0 0] 58)) (.slice a4 (Forks.knownT T leaf root).length c4) (Forks.knownT T leaf root)) := hid (fun w4 a4 c4 s4 o4 => by
     have hs := s4.size
     exact ⟨HS.out.below (s4.alloc s4.size _), heap_alloc_new w4 _, World.ownsRow.mono (o4.below ((Below.refl _ _).alloc (Nat.le_refl _) _)) hwr⟩)
    have HX2 : Hid (∀ (w4 : World) (a4 : Option Addr) (c4 : Nat), Below wr.heap.size wr w4 → w4.heap[wr.heap.size]? = some (.cells #[.int .i64 0, .slice none 0 0, .slice none 0 0, .slice none 0 0] 58) → OwnEnts (wr.alloc (.cells #[.int .i64 0, .slice none 0 0, .slice none 0 0, .slice none 0 0] 58)).drew.heap.size w4 (.slice a4 (Forks.knownT T leaf root).length c4) (Forks.knownT T leaf root) → SetSt w w.heap.size (w.heap.size + 1) (w.heap.size + 1 + 1) (.slice al ln cl) (.slice ar root.length cr) TX (set4 w4 wr.heap.size (.int .i64 (ln : Int)) (.slice a4 (Forks.knownT T leaf root).length c4)) ∧ (set4 w4 wr.heap.size (.int .i64 (ln : Int)) (.slice a4 (Forks.knownT T leaf root).length c4)).heap[wr.heap.size]? = some (.cells #[.int .i64 (ln : Int), (.slice a4 (Forks.knownT T leaf root).length c4), .slice none 0 0, .slice none 0 0] 58 (0, 0)) ∧ OwnEnts w.heap.size (set4 w4 wr.heap.size (.int .i64 (ln : Int)) (.slice a4 (Forks.knownT T leaf root).length c4)) (.slice a4 (Forks.knownT T leaf root).length c4) (Forks.knownT T leaf root)) := hid (fun w4 a4 c4 s4 N4 o4 => by
     exact (HS.out.below s4).boxed N4 (by omega) (by omega) o4 (by simp; omega))
    go_region_held3 (fun w' => w'.cell? ⟨w.heap.size, 0, none⟩ = some (.slice al ln cl) ∧ w'.cell? ⟨w.heap.size, 1, none⟩ = some (.slice ar root.length cr))
     (first | (refine KEEP.out _ ?_; assumption) | exact KEEP.out _ (s4.alloc s4.size _) | exact Z5)
     (first | (go_at_call 115; (with_reducible refine (q.out _ b0).mono ?_); rintro e w4 ⟨v4, rfl, o4, b4⟩; have s4 : Below wr.heap.size wr w4 := b0.trans (b4.mono b0.size); obtain ⟨a4, c4, rfl⟩ := OwnEnts.slice o4; have N4 := heap_alloc_new w4 (.cells #[.int .i64 0, .slice none 0 0, .slice none 0 0, .slice none 0 0] 58); have k0 : World.cell? (w4.alloc (.cells #[.int .i64 0, .slice none 0 0, .slice none 0 0, .slice none 0 0] 58)) ⟨w4.heap.size, 0, none⟩ = some (.int .i64 0) := cell_of_row _ _ 0 _ _ _ N4; have k1 : World.cell? (w4.alloc (.cells #[.int .i64 0, .slice none 0 0, .slice none 0 0, .slice none 0 0] 58)) ⟨w4.heap.size, 1, none⟩ = some (.slice none 0 0) := cell_of_row _ _ 1 _ _ _ N4; have k2 : World.cell? (w4.alloc (.cells #[.int .i64 0, .slice none 0 0, .slice none 0 0, .slice none 0 0] 58)) ⟨w4.heap.size, 2, none⟩ = some (.slice none 0 0) := cell_of_row _ _ 2 _ _ _ N4; have k3 : World.cell? (w4.alloc (.cells #[.int .i64 0, .slice none 0 0, .slice none 0 0, .slice none 0 0] 58)) ⟨w4.heap.size, 3, none⟩ = some (.slice none 0 0) := cell_of_row _ _ 3 _ _ _ N4; have g0 : World.frozen? (w4.alloc (.cells #[.int .i64 0, .slice none 0 0, .slice none 0 0, .slice none 0 0] 58)) ⟨w4.heap.size, 0, none⟩ = false := free_zero N4 0; have g1 : World.frozen? (w4.alloc (.cells #[.int .i64 0, .slice none 0 0, .slice none 0 0, .slice none 0 0] 58)) ⟨w4.heap.size, 1, none⟩ = false := free_zero N4 1; have g2 : World.frozen? (w4.alloc (.cells #[.int .i64 0, .slice none 0 0, .slice none 0 0, .slice none 0 0] 58)) ⟨w4.heap.size, 2, none⟩ = false := free_zero N4 2; have g3 : World.frozen? (w4.alloc (.cells #[.int .i64 0, .slice none 0 0, .slice none 0 0, .slice none 0 0] 58)) ⟨w4.heap.size, 3, none⟩ = false := free_zero N4 3; have X5 := HX1.out w4 a4 c4 s4 o4; have Z5 := KEEP.out _ (s4.alloc s4.size (.cells #[.int .i64 (ln : Int), (.slice a4 (Forks.knownT T leaf root).length c4), .slice none 0 0, .slice none 0 0] 58))) | (go_at_call 115; (with_reducible refine (q.out _ bA).mono ?_); rintro e w4 ⟨v4, rfl, o4, b4⟩; have s4 : Below wr.heap.size wr w4 := bA.trans (b4.mono bA.size); obtain ⟨a4, c4, rfl⟩ := OwnEnts.slice o4; have N4 := (b4.block wr.heap.size hYl).trans hYb; have k0 : World.cell? w4 ⟨wr.heap.size, 0, none⟩ = some (.int .i64 0) := cell_of_row _ _ 0 _ _ _ N4; have k1 : World.cell? w4 ⟨wr.heap.size, 1, none⟩ = some (.slice none 0 0) := cell_of_row _ _ 1 _ _ _ N4; have k2 : World.cell? w4 ⟨wr.heap.size, 2, none⟩ = some (.slice none 0 0) := cell_of_row _ _ 2 _ _ _ N4; have k3 : World.cell? w4 ⟨wr.heap.size, 3, none⟩ = some (.slice none 0 0) := cell_of_row _ _ 3 _ _ _ N4; have g0 : World.frozen? w4 ⟨wr.heap.size, 0, none⟩ = false := free_zero N4 0; have g1 : World.frozen? w4 ⟨wr.heap.size, 1, none⟩ = false := free_zero N4 1; have g2 : World.frozen? w4 ⟨wr.heap.size, 2, none⟩ = false := free_zero N4 2; have g3 : World.frozen? w4 ⟨wr.heap.size, 3, none⟩ = false := free_zero N4 3; have X5 := HX2.out w4 a4 c4 s4 N4 o4; have Z5 := KEEP.out _ (set4_below (.int .i64 (ln : Int)) (.slice a4 (Forks.knownT T leaf root).length c4) s4 (Nat.le_refl _)); unfold set4 at Z5))
    ·first | (go_meet; exact ⟨_, _, rfl, by have := s4.size; omega, by have := s4.size; omega, hid X5⟩) | (go_step; go_meet; exact ⟨_, _, rfl, by have := s4.size; omega, by have := s4.size; omega, hid X5⟩) | (go_step; go_step; go_meet; exact ⟨_, _, rfl, by have := s4.size; omega, by have := s4.size; omega, hid X5⟩)
    ·first | (go_meet; exact ⟨_, _, rfl, by omega, hwr, hid X5⟩) | (go_step; go_meet; exact ⟨_, _, rfl, by omega, hwr, hid X5⟩) | (go_step; go_step; go_meet; exact ⟨_, _, rfl, by omega, hwr, hid X5⟩)
   obtain ⟨Yb, u, rfl, hYR, hYlo, hS2⟩ := hcut
   have C0 := hid (show ChSt w w.heap.size (w.heap.size + 1) (w.heap.size + 1 + 1) Yb (.slice al ln cl) (.slice ar root.length cr) TX ln u (Forks.knownT T leaf root) wc (.slice none 0 0) (.slice none 0 0) [] [] from ⟨hS2.out.1, hS2.out.2.1, hS2.out.2.2, World.ownsRow_nil _ _ _ _, World.ownsRow_nil _ _ _ _, hYR, hYlo⟩)
   obtain ⟨au, cu, rfl⟩ := hS2.out.2.2.slice
   generalize hKT : Forks.knownT T leaf root = KT at *
   clear hS2 q c0 c1 zB HS hleafI hwr hlt hh
   go_wp2_with fail
   go_loopw [73] (fun q wr => ∃ (b : Nat) (cv fv : Value), q = .int .i64 b ∧ b ≤ 4096 ∧ Hid (ChSt w w.heap.size (w.heap.size + 1) (w.heap.size + 1 + 1) Yb (.slice al ln cl) (.slice ar root.length cr) TX ln (.slice au KT.length cu) KT wr cv fv (Forks.chT v TX b) (Forks.frT v TX b))) (fun q _ => 4096 - (intOf q).toNat)
   case atStart => exact ⟨0, _, _, rfl, by omega, C0⟩
   case round =>
    clear C0
    obtain ⟨b, cv, fv, rfl, hb, hst⟩ := hrel
    have HST := hid hst.out
    obtain ⟨y0, y1, y2, y3, yF⟩ := hst.out.cells
    have hCl := Forks.chT_len v TX b
    have hFl := Forks.frT_len v TX b
    by_cases hlt : b < 4096
    ·have i0 : (0 : Int) ≤ (b : Int) := by omega
     have i1 : (b : Int) < 4096 := by omega
     have cT := hst.out.st.tx.cellAt b (v := .string (Forks.tx TX b)) (by rw [List.getElem?_map, Forks.tx, List.getD, List.getElem?_eq_getElem (by omega)]; rfl)
     have hTX : (Forks.texts v)[b]? = some (Forks.textOf v b) := Forks.texts_at v b hlt
     obtain ⟨Lb, Tb, lv', rv', hl', hw'⟩ := HW.out.keepW (.of_below hst.out.st.bel)
     have cX := hw'.cellX.2.2.2
     have cV := hw'.tb.cellAt b (v := .string (Forks.textOf v b)) (by rw [List.getElem?_map, hTX]; rfl)
     have hch := hid (Forks.chT_succ v TX b)
     have hfr := hid (Forks.frT_succ v TX b)
     have hcB : Forks.chB v TX b = (!(Forks.tx TX b).toList.isEmpty && !((Forks.tx TX b).toList == (Forks.textOf v b).toList)) := rfl
     have hfB : Forks.frB v TX b = ((Forks.tx TX b).toList.isEmpty && !(Forks.textOf v b).toList.isEmpty) := rfl
     obtain ⟨ac, cc, hcv⟩ := hst.out.ch.slice
     obtain ⟨af, cf, hfv⟩ := hst.out.fr.slice
     subst hcv
     subst hfv
     have yf2 := yF 2
     have yf3 := yF 3
     clear hst hw' hTX yF
     generalize Forks.tx TX b = S1 at *
     generalize Forks.textOf v b = S2 at *
     generalize Forks.chB v TX b = cB at *
     generalize Forks.frB v TX b = fB at *
     generalize Forks.chT v TX b = C at *
     generalize Forks.frT v TX b = F at *
     cases h1 : S1.toList.isEmpty
     case false =>
      have hf0 : Hid (Forks.frT v TX (b + 1) = F) := hid (by rw [hfr.out, hfB, h1]; simp)
      cases h2 : S1.toList == S2.toList
      case false =>
       have hc1 : Hid (Forks.chT v TX (b + 1) = C ++ [((b : Int), S1)]) := hid (by rw [hch.out, hcB, h1, h2]; simp)
       clear hcB hfB hch hfr
       have bA : Below wr.heap.size wr (wr.alloc (.cells #[.int .i64 (b : Int), .string S1] 72)) := (Below.refl _ _).alloc (Nat.le_refl _) _
       have ST4 := hid (HST.out.below bA)
       have HO4 := hid (show (wr.alloc (.cells #[.int .i64 (b : Int), .string S1] 72)).ownsRow w.heap.size 72 2 (.slice ac C.length cc) C.length (ccells C) from ST4.out.ch)
       have hone : ∀ u ∈ [Value.int .i64 (b : Int), .string S1], u.oneCell' = true := by
        intro u hu
        simp at hu
        first | (rcases hu with rfl | rfl <;> rfl) | (subst hu; rfl)
       have hB4 := ST4.out.st.bel.size
       clear bA
       go_wp2_with (first | (at_builtin; refine wpList_append_own _ rfl (.tmp 93) (.tmp 97) 36 rfl w.heap.size 72 ic (.agg #[.int .i64 0, .string ⟨#[]⟩]) 2 24 Tryz.underlying36 hic hzc hsc hbc rfl (by decide) _ C.length (ccells C) rfl HO4.out ⟨wr.heap.size, 0, none⟩ 1 1 [Value.int .i64 (b : Int), .string S1] rfl rfl (World.news_of_block (heap_alloc_new _ _)) hone (by unfold maxLen; omega) (by omega) hB4 ?_))
       intro v' w5 hown hgrow _
       have hown2 : OwnChgs w.heap.size w5 v' (C ++ [((b : Int), S1)]) := by
        unfold OwnChgs
        rw [List.length_append, ccells_append]
        exact hown
       have ST5 := hid (ST4.out.pushCh hgrow hown2)
       obtain ⟨a5, c5, hv5⟩ := hown2.slice
       have e5 : (C ++ [((b : Int), S1)]).length = C.length + 1 := by simp
       rw [e5] at hv5
       subst hv5
       have k3 := cell_of_row _ _ 2 _ _ _ ST5.out.2
       have kf := free_zero ST5.out.2 2
       clear hown hgrow hown2 HO4 ST4 e5
       go_wp2_with fail
       go_roundw
       case rel => exact ⟨b + 1, _, _, by go_num, by omega, hid (by rw [hc1.out, hf0.out]; exact ST5.out.1)⟩
       case measure => simp [intOf]; omega
      case true =>
       have hc1 : Hid (Forks.chT v TX (b + 1) = C) := hid (by rw [hch.out, hcB, h1, h2]; simp)
       clear hcB hfB hch hfr
       go_wp2_with fail
       go_roundw
       case rel => exact ⟨b + 1, _, _, by go_num, by omega, hid (by rw [hc1.out, hf0.out]; exact HST.out)⟩
       case measure => simp [intOf]; omega
     case true =>
      have hc1 : Hid (Forks.chT v TX (b + 1) = C) := hid (by rw [hch.out, hcB, h1]; simp)
      cases h2 : S2.toList.isEmpty
      case false =>
       have hf1 : Hid (Forks.frT v TX (b + 1) = F ++ [(b : Int)]) := hid (by rw [hfr.out, hfB, h1, h2]; simp)
       clear hcB hfB hch hfr
       have bA : Below wr.heap.size wr (wr.alloc (.cells #[.int .i64 (b : Int)] 3)) := (Below.refl _ _).alloc (Nat.le_refl _) _
       have ST4 := hid (HST.out.below bA)
       have HO4 := hid (show (wr.alloc (.cells #[.int .i64 (b : Int)] 3)).ownsRow w.heap.size 3 1 (.slice af F.length cf) F.length (icells F) from ST4.out.fr)
       have hone : ∀ u ∈ [Value.int .i64 (b : Int)], u.oneCell' = true := by
        intro u hu
        simp at hu
        first | (rcases hu with rfl | rfl <;> rfl) | (subst hu; rfl)
       have hB4 := ST4.out.st.bel.size
       clear bA
       go_wp2_with (first | (at_builtin; refine wpList_append_own _ rfl (.tmp 114) (.tmp 116) 43 rfl w.heap.size 3 ii (.int .i64 0) 1 8 Tryz.underlying43 hii hzi hsi hbi rfl (by decide) _ F.length (icells F) rfl HO4.out ⟨wr.heap.size, 0, none⟩ 1 1 [Value.int .i64 (b : Int)] rfl rfl (World.news_of_block (heap_alloc_new _ _)) hone (by unfold maxLen; omega) (by omega) hB4 ?_))
       intro v' w5 hown hgrow _
       have hown2 : OwnInts w.heap.size w5 v' (F ++ [(b : Int)]) := by
        unfold OwnInts
        rw [List.length_append, icells_append]
        exact hown
       have ST5 := hid (ST4.out.pushFr hgrow hown2)
       obtain ⟨a5, c5, hv5⟩ := hown2.slice
       have e5 : (F ++ [(b : Int)]).length = F.length + 1 := by simp
       rw [e5] at hv5
       subst hv5
       have k3 := cell_of_row _ _ 3 _ _ _ ST5.out.2
       have kf := free_zero ST5.out.2 3
       clear hown hgrow hown2 HO4 ST4 e5
       go_wp2_with fail
       go_roundw
       case rel => exact ⟨b + 1, _, _, by go_num, by omega, hid (by rw [hc1.out, hf1.out]; exact ST5.out.1)⟩
       case measure => simp [intOf]; omega
      case true =>
       have hf1 : Hid (Forks.frT v TX (b + 1) = F) := hid (by rw [hfr.out, hfB, h1, h2]; simp)
       clear hcB hfB hch hfr
       go_wp2_with fail
       go_roundw
       case rel => exact ⟨b + 1, _, _, by go_num, by omega, hid (by rw [hc1.out, hf1.out]; exact HST.out)⟩
       case measure => simp [intOf]; omega
    ·obtain rfl : b = 4096 := by omega
     obtain ⟨-, -, r0, r1, r2, r3, rF⟩ := HST.out.st.cells
     have rf0 := rF 0
     have rf1 := rF 1
     have rf2 := rF 2
     have rf3 := rF 3
     obtain ⟨ac, cc, hcv⟩ := HST.out.ch.slice
     obtain ⟨af, cf, hfv⟩ := HST.out.fr.slice
     subst hcv
     subst hfv
     have W5 := block_setCellS (block_setCellS (block_setCellS (block_setCellS HST.out.st.res 0 (.int .i64 (ln : Int))) 1 (.slice au KT.length cu)) 2 (.slice ac (Forks.chT v TX 4096).length cc)) 3 (.slice af (Forks.frT v TX 4096).length cf)
     have k1 := block_setCellS HST.out.st.res 0 (.int .i64 (ln : Int))
     have k2 := block_setCellS k1 1 (.slice au KT.length cu)
     have k3 := block_setCellS k2 2 (.slice ac (Forks.chT v TX 4096).length cc)
     have s := fun T (hT : T ≠ 58) => (((KeepT.set (T := T) (u := .int .i64 (ln : Int)) (a := ⟨w.heap.size + 1, 0, none⟩) HST.out.st.res hT).trans (KeepT.set (u := .slice au KT.length cu) (a := ⟨w.heap.size + 1, 1, none⟩) k1 hT)).trans (KeepT.set (u := .slice ac (Forks.chT v TX 4096).length cc) (a := ⟨w.heap.size + 1, 2, none⟩) k2 hT)).trans (KeepT.set (u := .slice af (Forks.frT v TX 4096).length cf) (a := ⟨w.heap.size + 1, 3, none⟩) k3 hT)
     have hRb : w.heap.size ≤ w.heap.size + 1 := by omega
     have B5 := hid ((((HST.out.st.bel.setCell (p := ⟨w.heap.size + 1, 0, none⟩) hRb (.int .i64 (ln : Int))).setCell (p := ⟨w.heap.size + 1, 1, none⟩) hRb (.slice au KT.length cu)).setCell (p := ⟨w.heap.size + 1, 2, none⟩) hRb (.slice ac (Forks.chT v TX 4096).length cc)).setCell (p := ⟨w.heap.size + 1, 3, none⟩) hRb (.slice af (Forks.frT v TX 4096).length cf))
     have n0 := cell_of_row _ (w.heap.size + 1) 0 _ _ _ W5
     have n1 := cell_of_row _ (w.heap.size + 1) 1 _ _ _ W5
     have n2 := cell_of_row _ (w.heap.size + 1) 2 _ _ _ W5
     have n3 := cell_of_row _ (w.heap.size + 1) 3 _ _ _ W5
     have F := hid (show SetOut w (Forks.setT v LV root T) (.returned (.tuple #[setV (ln : Int) (.slice au KT.length cu) (.slice ac (Forks.chT v TX 4096).length cc) (.slice af (Forks.frT v TX 4096).length cf), .int .i64 0])) _ from by
      unfold SetOut
      rw [HSR.out]
      exact ⟨B5.out, _, _, _, rfl, own_keepT HST.out.root (s _ (by decide)), own_keepT HST.out.ch (s _ (by decide)), own_keepT HST.out.fr (s _ (by decide))⟩)
     generalize (Forks.chT v TX 4096).length = nc at *
     generalize (Forks.frT v TX 4096).length = nf at *
     clear rF W5 hRb B5 k1 k2 k3 s hst
     go_wp2_with fail
     refine bodyPost_ret (v := .tuple #[setV (ln : Int) (.slice au KT.length cu) (.slice ac nc cc) (.slice af nf cf), .int .i64 0]) ?_ rfl F.out
     first | (simp [results, Tryz.results78, go_sem, n0, n1, n2, n3, setV]; done)
end Go.Proofs.YtgjmeeiejcbjfaaGreat
namespace Go.Proofs.YtgjmeeiejcbjfaaGreat
open Go.Lib (hid)
open Go Go.RowKit
def ReplaceOut {S : Type} (FR : S → World → Prop) (w0 : World) (M : Nat) (r : Except Int Forks.SetR × S) (e : Ending) (w' : World) : Prop :=
 FR r.2 w' ∧ OnlyM M w0 w' ∧ match r.1 with
  | .error k => e = .returned (.tuple #[setV 0 (.slice none 0 0) (.slice none 0 0) (.slice none 0 0), .int .i64 k]) ∧ k ≠ 0
  | .ok s => ∃ rv cv fv, e = .returned (.tuple #[setV s.depth rv cv fv, .int .i64 0]) ∧ OwnEnts w0.heap.size w' rv s.root ∧ OwnChgs w0.heap.size w' cv s.changes ∧ OwnInts w0.heap.size w' fv s.freed
structure RSt (w0 : World) (Z0 Z1 : Nat) (depth : Int) (rv : Value) (w : World) : Prop where
 tree : w.heap[Z0]? = some (.cells #[.int .i64 depth, rv] 35 (0, 0))
 res : w.heap[Z1]? = some (.cells #[.int .i64 0, .slice none 0 0, .slice none 0 0, .slice none 0 0] 58 (0, 0))
 bel : Below w0.heap.size w0 w
 lo0 : w0.heap.size ≤ Z0
 lo1 : w0.heap.size ≤ Z1
variable {S : Type} {FR : S → World → Prop} {w0 w w' : World} {M Z0 Z1 : Nat} {depth : Int} {rv : Value}
theorem RSt.below (h : RSt w0 Z0 Z1 depth rv w) (hb : Below w.heap.size w w') : RSt w0 Z0 Z1 depth rv w' :=
 ⟨by rw [hb.block Z0 (lt_of_block h.tree)]; exact h.tree, by rw [hb.block Z1 (lt_of_block h.res)]; exact h.res, h.bel.trans (hb.mono h.bel.size), h.lo0, h.lo1⟩
theorem RSt.only {K : Nat} {T : TypeId} {cs : Array Value} {fr : Nat × Nat} (h : RSt w0 Z0 Z1 depth rv w) (hb : OnlyM K w w') (hK : w.heap[K]? = some (.cells cs T fr)) (hlo : w0.heap.size ≤ K) (h1 : 35 ≠ T) (h2 : 58 ≠ T) : RSt w0 Z0 Z1 depth rv w' :=
 ⟨hb.keepS hK h1 _ _ _ h.tree, hb.keepS hK h2 _ _ _ h.res, h.bel.trans (hb.below h.bel.size hlo), h.lo0, h.lo1⟩
theorem RSt.set {K k : Nat} {T : TypeId} {cs : Array Value} {fr : Nat × Nat} (h : RSt w0 Z0 Z1 depth rv w) (hK : w.heap[K]? = some (.cells cs T fr)) (hlo : w0.heap.size ≤ K) (h1 : 35 ≠ T) (h2 : 58 ≠ T) (u : Value) : RSt w0 Z0 Z1 depth rv (w.setCell ⟨K, k, none⟩ u) :=
 ⟨set_other (a := ⟨K, k, none⟩) hK h.tree h1, set_other (a := ⟨K, k, none⟩) hK h.res h2, h.bel.setCell hlo _, h.lo0, h.lo1⟩
theorem RSt.cells (h : RSt w0 Z0 Z1 depth rv w) : w.cell? ⟨Z0, 0, none⟩ = some (.int .i64 depth) ∧ w.cell? ⟨Z0, 1, none⟩ = some rv ∧ w.cell? ⟨Z1, 0, none⟩ = some (.int .i64 0) ∧ w.cell? ⟨Z1, 1, none⟩ = some (.slice none 0 0) ∧ w.cell? ⟨Z1, 2, none⟩ = some (.slice none 0 0) ∧ w.cell? ⟨Z1, 3, none⟩ = some (.slice none 0 0) ∧ ∀ k, w.frozen? ⟨Z1, k, none⟩ = false :=
 ⟨cell_of_row w Z0 0 _ _ _ h.tree, cell_of_row w Z0 1 _ _ _ h.tree, cell_of_row w Z1 0 _ _ _ h.res, cell_of_row w Z1 1 _ _ _ h.res, cell_of_row w Z1 2 _ _ _ h.res, cell_of_row w Z1 3 _ _ _ h.res, free_zero h.res⟩
def zero4 (w : World) (Z : Nat) : World := (((w.setCell ⟨Z, 0, none⟩ (.int .i64 0)).setCell ⟨Z, 1, none⟩ (.slice none 0 0)).setCell ⟨Z, 2, none⟩ (.slice none 0 0)).setCell ⟨Z, 3, none⟩ (.slice none 0 0)
theorem zero4_cells {w : World} {Z : Nat} {a b c d : Value} (h : w.heap[Z]? = some (.cells #[a, b, c, d] 58 (0, 0))) : (zero4 w Z).cell? ⟨Z, 0, none⟩ = some (.int .i64 0) ∧ (zero4 w Z).cell? ⟨Z, 1, none⟩ = some (.slice none 0 0) ∧ (zero4 w Z).cell? ⟨Z, 2, none⟩ = some (.slice none 0 0) ∧ (zero4 w Z).cell? ⟨Z, 3, none⟩ = some (.slice none 0 0) := by
 have h4 := block_setCellS (block_setCellS (block_setCellS (block_setCellS h 0 (.int .i64 0)) 1 (.slice none 0 0)) 2 (.slice none 0 0)) 3 (.slice none 0 0)
 exact ⟨cell_of_row _ Z 0 _ _ _ h4, cell_of_row _ Z 1 _ _ _ h4, cell_of_row _ Z 2 _ _ _ h4, cell_of_row _ Z 3 _ _ _ h4⟩
theorem zero4_below {B Z : Nat} (h : Below B w0 w) (hZ : B ≤ Z) : Below B w0 (zero4 w Z) := (((h.setCell hZ _).setCell hZ _).setCell hZ _).setCell hZ _
theorem zero4_step {Z B : Nat} (w : World) (hZ : B ≤ Z) : Below B w (zero4 w Z) := zero4_below (Below.refl _ _) hZ
theorem OnlyM.zero4 {Z : Nat} (h : OnlyM M w0 w) (hZ : w0.heap.size ≤ Z) : OnlyM M w0 (zero4 w Z) := by
 have hb := zero4_step w hZ
 exact ⟨hb.os.trans h.os, hb.tape.trans h.tape, hb.output.trans h.output, Nat.le_trans h.size hb.size, fun k hk hM => (hb.block k hk).trans (h.block k hk hM)⟩
theorem repl_err {r : Except Int Forks.SetR × S} {k : Int} {s : S} (hF : ∀ s wz wz', FR s wz → Below w0.heap.size wz wz' → FR s wz') (ho : OnlyM M w0 w) (hZ : w0.heap.size ≤ Z1) (hs : FR s w) (hr : r = (.error k, s)) (hk : k ≠ 0) : ReplaceOut FR w0 M r (.returned (.tuple #[setV 0 (.slice none 0 0) (.slice none 0 0) (.slice none 0 0), .int .i64 k])) (zero4 w Z1) := by
 subst hr
 exact ⟨hF _ _ _ hs (zero4_step w hZ), ho.zero4 hZ, rfl, hk⟩
def put4 (w : World) (Z : Nat) (a b c d : Value) : World := (((w.setCell ⟨Z, 0, none⟩ a).setCell ⟨Z, 1, none⟩ b).setCell ⟨Z, 2, none⟩ c).setCell ⟨Z, 3, none⟩ d
theorem put4_block {w : World} {Z : Nat} {a b c d x y z u : Value} (h : w.heap[Z]? = some (.cells #[x, y, z, u] 58 (0, 0))) : (put4 w Z a b c d).heap[Z]? = some (.cells #[a, b, c, d] 58 (0, 0)) ∧ ∀ T, T ≠ 58 → KeepT T w (put4 w Z a b c d) := by
 have h1 := block_setCellS h 0 a
 have h2 := block_setCellS h1 1 b
 have h3 := block_setCellS h2 2 c
 have h4 := block_setCellS h3 3 d
 refine ⟨by unfold put4; simpa using h4, fun T hT => ?_⟩
 exact (((KeepT.set (a := ⟨Z, 0, none⟩) h hT).trans (KeepT.set (a := ⟨Z, 1, none⟩) h1 hT)).trans (KeepT.set (a := ⟨Z, 2, none⟩) h2 hT)).trans (KeepT.set (a := ⟨Z, 3, none⟩) h3 hT)
theorem put4_below {B Z : Nat} (w : World) (a b c d : Value) (hZ : B ≤ Z) : Below B w (put4 w Z a b c d) := ((((Below.refl _ _).setCell hZ _).setCell hZ _).setCell hZ _).setCell hZ _
theorem OnlyM.put4 {Z : Nat} (h : OnlyM M w0 w) (hZ : w0.heap.size ≤ Z) (a b c d : Value) : OnlyM M w0 (put4 w Z a b c d) := by
 have hb := put4_below w a b c d hZ
 exact ⟨hb.os.trans h.os, hb.tape.trans h.tape, hb.output.trans h.output, Nat.le_trans h.size hb.size, fun k hk hM => (hb.block k hk).trans (h.block k hk hM)⟩
theorem OnlyM.of_AM {A : Nat} (h : OnlyM M w0 w) (ho : OnlyAM A M w w') (hA : w0.heap.size ≤ A) : OnlyM M w0 w' :=
 ⟨ho.os.trans h.os, ho.tape.trans h.tape, ho.output.trans h.output, Nat.le_trans h.size ho.size, fun k hk hM => (ho.block k (Nat.lt_of_lt_of_le hk h.size) (by omega) hM).trans (h.block k hk hM)⟩
theorem repl_ok {w1 : World} {r : Except Int Forks.SetR × S} {sr : Forks.SetR} {s : S} {rv' cv' fv' x y z u : Value} (hF : ∀ s wz wz', FR s wz → Below w0.heap.size wz wz' → FR s wz') (ho : OnlyM M w0 w1) (hb : Below w1.heap.size w1 w) (hZ : w0.heap.size ≤ Z1) (hs : FR s w1) (hr : r = (.ok sr, s)) (hres : w.heap[Z1]? = some (.cells #[x, y, z, u] 58 (0, 0)))
  (h1 : OwnEnts w1.heap.size w rv' sr.root) (h2 : OwnChgs w1.heap.size w cv' sr.changes) (h3 : OwnInts w1.heap.size w fv' sr.freed) :
  ReplaceOut FR w0 M r (.returned (.tuple #[setV sr.depth rv' cv' fv', .int .i64 0])) (put4 w Z1 (.int .i64 sr.depth) rv' cv' fv') ∧ (put4 w Z1 (.int .i64 sr.depth) rv' cv' fv').heap[Z1]? = some (.cells #[.int .i64 sr.depth, rv', cv', fv'] 58 (0, 0)) := by
 subst hr
 have hsz := ho.size
 obtain ⟨p1, p2⟩ := put4_block (a := .int .i64 sr.depth) (b := rv') (c := cv') (d := fv') hres
 refine ⟨⟨hF _ _ _ hs ((hb.mono hsz).trans (put4_below w _ _ _ _ hZ)), OnlyM.put4 (ho.trans (.of_below hb)) hZ _ _ _ _, rv', cv', fv', rfl, World.ownsRow.mono (own_keepT h1 (p2 _ (by decide))) hsz, World.ownsRow.mono (own_keepT h2 (p2 _ (by decide))) hsz, World.ownsRow.mono (own_keepT h3 (p2 _ (by decide))) hsz⟩, p1⟩
theorem two_put {SB : Nat} {a b x y : Value} (h : w.heap[SB]? = some (.cells #[x, y] 146 (0, 0))) : ((w.setCell ⟨SB, 0, none⟩ a).setCell ⟨SB, 1, none⟩ b).heap[SB]? = some (.cells #[a, b] 146 (0, 0)) ∧ ∀ T, T ≠ 146 → KeepT T w ((w.setCell ⟨SB, 0, none⟩ a).setCell ⟨SB, 1, none⟩ b) := by
 have h1 := two_set0 (u := a) h
 exact ⟨two_set1 (u := b) h1, fun T hT => (KeepT.set (a := ⟨SB, 0, none⟩) h hT).trans (KeepT.set (a := ⟨SB, 1, none⟩) h1 hT)⟩
theorem RSt.put2 {SB : Nat} {a b x y : Value} (h : RSt w0 Z0 Z1 depth rv w) (hS : w.heap[SB]? = some (.cells #[x, y] 146 (0, 0))) (hlo : w0.heap.size ≤ SB) : RSt w0 Z0 Z1 depth rv ((w.setCell ⟨SB, 0, none⟩ a).setCell ⟨SB, 1, none⟩ b) := by
 have k := (two_put (a := a) (b := b) hS).2
 exact ⟨k _ (by decide) _ _ _ h.tree, k _ (by decide) _ _ _ h.res, (h.bel.setCell hlo _).setCell hlo _, h.lo0, h.lo1⟩
theorem IntsAt.takeS {w : World} {ad : Option Addr} {n cap : Nat} {l : IL} (h : IntsAt w (.slice ad n cap) l) (k : Nat) (hk : k ≤ l.length) : IntsAt w (.slice ad k cap) (l.take k) := by
 have e : (l.take k).length = k := by rw [List.length_take]; omega
 rcases h with ⟨h, rfl⟩ | ⟨b, off, c, h, hc⟩
 ·cases h
  simp at hk; subst hk
  exact .inl ⟨rfl, rfl⟩
 ·cases h
  refine .inr ⟨b, off, cap, by rw [e], fun j u hu => hc j u ?_⟩
  rw [icells, List.map_take, List.getElem?_take] at hu
  split at hu
  ·exact hu
  ·cases hu
theorem IntsAt.keepT {w w' : World} {v : Value} {l : IL} {B : Nat} (h : OwnInts B w v l) (hk : KeepT 3 w w') : OwnInts B w' v l := own_keepT h hk
theorem OwnInts.caps {B : Nat} {w : World} {ad : Option Addr} {n cap : Nat} {l : IL} (h : OwnInts B w (.slice ad n cap) l) : l.length ≤ cap := by
 rcases h.2 with ⟨h, hn⟩ | ⟨g, c, cur, h, hg, hh, h1, h2, h3, h4⟩
 ·omega
 ·cases h; exact h1
theorem WAtR.lvls {B X d : Nat} {rdv : Value} {v : Forks.V} {R : EL} (h : WAtR B X w rdv d v R) : ∃ Lb, w.cell? ⟨X, 1, none⟩ = some (.slice (some ⟨Lb, 0, none⟩) d d) ∧ LvlsT w (.slice (some ⟨Lb, 0, none⟩) d d) (Forks.lvls v d) := by
 obtain ⟨Lb, Tb, lv, rv, hl, h⟩ := h
 refine ⟨Lb, by rw [← hl]; exact h.cellX.2.1, .inr ?_⟩
 obtain ⟨fr, hb⟩ := h.lb.block
 refine ⟨Lb, 0, d, lv.toArray, fr, lv, by rw [Forks.lvls_len], hb, fun j u hu => by simpa using hu, LvlCells.of (by rw [Forks.lvls_len, hl]) (fun i u hu => ?_)⟩
 have hi : i < d := by rw [← hl]; exact (List.getElem?_eq_some_iff.1 hu).1
 rw [Forks.lvls_at v d i hi]
 exact (h.lvl i u hu).c
theorem WAtR.rowv {B X d : Nat} {rdv : Value} {v : Forks.V} {R : EL} (h : WAtR B X w rdv d v R) : ∃ u, w.cell? ⟨X, 2, none⟩ = some u ∧ OwnExts B w u R := by
 obtain ⟨Lb, Tb, lv, rv, hl, h⟩ := h
 exact ⟨rv, h.cellX.2.2.1, h.row⟩
end Go.Proofs.YtgjmeeiejcbjfaaGreat
namespace Go.Proofs.YtgjmeeiejcbjfaaGreat.Forks
open Go.Lib (hid)
open Go Go.RowKit
def turnAt (l : EL) (i : Nat) (tt : Int) : EL := l.set i ((l.getD i (0, 0, 0)).1, tt, (l.getD i (0, 0, 0)).2.2)
theorem turnAt_len (l : EL) (i : Nat) (tt : Int) : (turnAt l i tt).length = l.length := by simp [turnAt]
theorem turnAt_small {l : EL} (h : SmallsE l) (i : Nat) (hi : i < l.length) (tt : Int) (ht : -9223372036854775808 ≤ tt ∧ tt ≤ 9223372036854775807) : SmallsE (turnAt l i tt) := by
 intro x hx
 rcases List.mem_or_eq_of_mem_set hx with hx | rfl
 ·exact h x hx
 ·have := h.at i hi
  unfold SmallE at *
  dsimp only
  omega
def turnN (v : V) (leaf : Bool) (p : E → Bool) (tt : Int) (c : CL) (n : Node) : CL :=
 if 0 ≤ idxOf p n.2 then
  if (Ents.encR (turnAt n.2 (idxOf p n.2).toNat tt) leaf).2 = 0 ∧ ((txt (Ents.encR (turnAt n.2 (idxOf p n.2).toNat tt) leaf).1).toList == (textOf v n.1.toNat).toList) = false then [(n.1, txt (Ents.encR (turnAt n.2 (idxOf p n.2).toNat tt) leaf).1)]
  else c
 else c
theorem turnN_def (v : V) (leaf : Bool) (p : E → Bool) (tt : Int) (c : CL) (b : Int) (l : EL) : turnN v leaf p tt c (b, l) = if 0 ≤ idxOf p l then
  if (Ents.encR (turnAt l (idxOf p l).toNat tt) leaf).2 = 0 ∧ ((txt (Ents.encR (turnAt l (idxOf p l).toNat tt) leaf).1).toList == (textOf v b.toNat).toList) = false then [(b, txt (Ents.encR (turnAt l (idxOf p l).toNat tt) leaf).1)]
  else c
 else c := rfl
def turnedT (v : V) (d : Nat) (root : EL) (level : Nat) (p : E → Bool) (tt : Int) : SetR :=
 if d = level then ⟨d, if 0 ≤ idxOf p root then turnAt root (idxOf p root).toNat tt else root, [], []⟩
 else ⟨d, root, (lvl v (level + 1)).foldl (turnN v (level == 0) p tt) [], []⟩
theorem fold_take {α β : Type} (f : β → α → β) (b : β) (l : List α) (i : Nat) (hi : i < l.length) (d : α) : (l.take (i + 1)).foldl f b = f ((l.take i).foldl f b) (l.getD i d) := by
 rw [List.take_succ_eq_append_getElem hi, List.foldl_append]
 simp [List.getD, hi]
theorem turnN_len (v : V) (leaf : Bool) (p : E → Bool) (tt : Int) (n : Node) (c : CL) (h : c.length ≤ 1) : (turnN v leaf p tt c n).length ≤ 1 := by
 unfold turnN
 split
 ·split
  ·simp
  ·exact h
 ·exact h
theorem turn_len (v : V) (leaf : Bool) (p : E → Bool) (tt : Int) : ∀ (L : List Node) (c : CL), c.length ≤ 1 → (L.foldl (turnN v leaf p tt) c).length ≤ 1
 | [], c, h => h
 | n :: L, c, h => turn_len v leaf p tt L _ (turnN_len v leaf p tt n c h)
theorem idxOf_lt {l : EL} {p : E → Bool} (h : 0 ≤ idxOf p l) : (idxOf p l).toNat < l.length := by
 rcases idxOf_cases p l with hI | ⟨j, hj, hI⟩
 ·omega
 ·omega
theorem lvl_small {v : V} (h : Good v) (k : Nat) : ∀ n ∈ lvl v k, SmallsE n.2 := fun n hn => by
 obtain ⟨x, hx, rfl⟩ := List.mem_map.1 hn
 have hr := (h.enc x (List.mem_filter.1 hx).1).2.2
 intro y hy
 have := Ents.may_fits (hr.may y hy)
 unfold Ents.Fits at this
 unfold SmallE
 omega
end Go.Proofs.YtgjmeeiejcbjfaaGreat.Forks
namespace Go.Proofs.YtgjmeeiejcbjfaaGreat
open Go.Lib (hid)
open Go Go.RowKit
structure TSt (w0 : World) (Z0 Z1 Y : Nat) (d : Nat) (rv rv' cv : Value) (l : EL) (C : CL) (w : World) : Prop where
 tree : w.heap[Z0]? = some (.cells #[.int .i64 (d : Int), rv] 35 (0, 0))
 res : w.heap[Z1]? = some (.cells #[.int .i64 0, .slice none 0 0, .slice none 0 0, .slice none 0 0] 58 (0, 0))
 y : w.heap[Y]? = some (.cells #[.int .i64 (d : Int), rv', cv, .slice none 0 0] 58 (0, 0))
 root : OwnEnts w0.heap.size w rv' l
 ch : OwnChgs w0.heap.size w cv C
 bel : Below w0.heap.size w0 w
 lo0 : w0.heap.size ≤ Z0
 lo1 : w0.heap.size ≤ Z1
 loY : w0.heap.size ≤ Y
 ne : Y ≠ Z1
variable {w0 w w' : World} {Z0 Z1 Y d : Nat} {rv rv' cv : Value} {l : EL} {C : CL}
theorem TSt.below (h : TSt w0 Z0 Z1 Y d rv rv' cv l C w) (hb : Below w.heap.size w w') : TSt w0 Z0 Z1 Y d rv rv' cv l C w' :=
 ⟨by rw [hb.block Z0 (lt_of_block h.tree)]; exact h.tree, by rw [hb.block Z1 (lt_of_block h.res)]; exact h.res, by rw [hb.block Y (lt_of_block h.y)]; exact h.y, own_below h.root hb, h.ch.below hb, h.bel.trans (hb.mono h.bel.size), h.lo0, h.lo1, h.loY, h.ne⟩
theorem TSt.cells (h : TSt w0 Z0 Z1 Y d rv rv' cv l C w) : w.cell? ⟨Z0, 0, none⟩ = some (.int .i64 (d : Int)) ∧ w.cell? ⟨Z0, 1, none⟩ = some rv ∧ w.cell? ⟨Y, 0, none⟩ = some (.int .i64 (d : Int)) ∧ w.cell? ⟨Y, 1, none⟩ = some rv' ∧ w.cell? ⟨Y, 2, none⟩ = some cv ∧ w.cell? ⟨Y, 3, none⟩ = some (.slice none 0 0) ∧ ∀ k, w.frozen? ⟨Y, k, none⟩ = false :=
 ⟨cell_of_row w Z0 0 _ _ _ h.tree, cell_of_row w Z0 1 _ _ _ h.tree, cell_of_row w Y 0 _ _ _ h.y, cell_of_row w Y 1 _ _ _ h.y, cell_of_row w Y 2 _ _ _ h.y, cell_of_row w Y 3 _ _ _ h.y, free_zero h.y⟩
theorem TSt.cellsR (h : TSt w0 Z0 Z1 Y d rv rv' cv l C w) : w.cell? ⟨Z1, 0, none⟩ = some (.int .i64 0) ∧ w.cell? ⟨Z1, 1, none⟩ = some (.slice none 0 0) ∧ w.cell? ⟨Z1, 2, none⟩ = some (.slice none 0 0) ∧ w.cell? ⟨Z1, 3, none⟩ = some (.slice none 0 0) ∧ ∀ k, w.frozen? ⟨Z1, k, none⟩ = false :=
 ⟨cell_of_row w Z1 0 _ _ _ h.res, cell_of_row w Z1 1 _ _ _ h.res, cell_of_row w Z1 2 _ _ _ h.res, cell_of_row w Z1 3 _ _ _ h.res, free_zero h.res⟩
theorem TSt.setCh {cv' : Value} {C' : CL} (h : TSt w0 Z0 Z1 Y d rv rv' cv l C w) (hc : OwnChgs w0.heap.size w cv' C') : TSt w0 Z0 Z1 Y d rv rv' cv' l C' (w.setCell ⟨Y, 2, none⟩ cv') := by
 have s := fun T (hT : T ≠ 58) => KeepT.set (T := T) (u := cv') (a := ⟨Y, 2, none⟩) h.y hT
 have y5 := block_setCellS h.y 2 cv'
 exact ⟨s _ (by decide) _ _ _ h.tree, (Below.heap_setCell _ _ _ _ h.ne.symm).trans h.res, by simpa using y5, own_keepT h.root (s _ (by decide)), own_keepT hc (s _ (by decide)), h.bel.setCell h.loY _, h.lo0, h.lo1, h.loY, h.ne⟩
theorem TSt.setRoot {g n c : Nat} (h : TSt w0 Z0 Z1 Y d rv (.slice (some ⟨g, 0, none⟩) n c) cv l C w) (i : Nat) (hi : i < l.length) (tt : Int) : TSt w0 Z0 Z1 Y d rv (.slice (some ⟨g, 0, none⟩) n c) cv (Forks.turnAt l i tt) C (w.setCell ⟨g, i * 3 + 1, none⟩ (.int .i64 tt)) ∧ w.frozen? ⟨g, i * 3 + 1, none⟩ = false ∧ ∃ u, w.cell? ⟨g, i * 3 + 1, none⟩ = some u := by
 have hr : w.ownsRow w0.heap.size 31 3 (.slice (some ⟨g, 0, none⟩) n c) l.length (ecells l) := h.root
 have hl : n = l.length := by
  rcases hr.2 with ⟨hv, _⟩ | ⟨g', cap', cur, hv, _⟩
  ·cases hv
  ·injection hv
 subst hl
 obtain ⟨cur, fr, hb⟩ : ∃ cur fr, w.heap[g]? = some (.cells cur 31 fr) := by
  rcases hr.2 with ⟨hv, _⟩ | ⟨g', cap', cur, hv, hb, hg, _⟩
  ·cases hv
  ·cases hv; exact ⟨_, _, hg⟩
 have hlo : w0.heap.size ≤ g := by
  rcases hr.2 with ⟨hv, _⟩ | ⟨g', cap', cur, hv, hb, hg, _⟩
  ·cases hv
  ·cases hv; exact hb
 have s := fun T (hT : T ≠ 31) => KeepT.set (T := T) (u := .int .i64 tt) (a := ⟨g, i * 3 + 1, none⟩) hb hT
 have ho := own_setK hr (i * 3 + 1) (.int .i64 tt)
 rw [ecells_setP _ _ _ hi] at ho
 have ho2 : OwnEnts w0.heap.size (w.setCell ⟨g, i * 3 + 1, none⟩ (.int .i64 tt)) (.slice (some ⟨g, 0, none⟩) l.length c) (Forks.turnAt l i tt) := by
  unfold OwnEnts
  rw [Forks.turnAt_len]
  exact ho
 refine ⟨⟨s _ (by decide) _ _ _ h.tree, s _ (by decide) _ _ _ h.res, s _ (by decide) _ _ _ h.y, ho2, own_keepT h.ch (s _ (by decide)), h.bel.setCell hlo _, h.lo0, h.lo1, h.loY, h.ne⟩, own_freeK hr _, _, own_cellK hr (by have := (ecells_at l i hi).2.1; exact this)⟩
def TurnOut (w0 : World) (r : Forks.SetR) (e : Ending) (w' : World) : Prop :=
 Below w0.heap.size w0 w' ∧ ∃ rv cv fv, e = .returned (setV r.depth rv cv fv) ∧ OwnEnts w0.heap.size w' rv r.root ∧ OwnChgs w0.heap.size w' cv r.changes ∧ OwnInts w0.heap.size w' fv r.freed ∧ fv = .slice none 0 0
theorem TSt.out {r : Forks.SetR} (h : TSt w0 Z0 Z1 Y d rv rv' cv l C w) (hr : r = ⟨(d : Int), l, C, []⟩) :
  TurnOut w0 r (.returned (setV (d : Int) rv' cv (.slice none 0 0))) (put4 w Z1 (.int .i64 (d : Int)) rv' cv (.slice none 0 0)) ∧ (put4 w Z1 (.int .i64 (d : Int)) rv' cv (.slice none 0 0)).heap[Z1]? = some (.cells #[.int .i64 (d : Int), rv', cv, .slice none 0 0] 58 (0, 0)) := by
 subst hr
 obtain ⟨p1, p2⟩ := put4_block (a := .int .i64 (d : Int)) (b := rv') (c := cv) (d := .slice none 0 0) h.res
 exact ⟨⟨h.bel.trans (put4_below w _ _ _ _ h.lo1), rv', cv, _, rfl, own_keepT h.root (p2 _ (by decide)), own_keepT h.ch (p2 _ (by decide)), World.ownsRow_nil _ _ _ _, rfl⟩, p1⟩
set_option maxRecDepth 100000 in
set_option maxHeartbeats 8000000 in
theorem turned_any {B X : Nat} {rdv : Value} {v : Forks.V} {R0 : EL} (isv : Value) (p : Exts.E → Bool) (tt : Int) (htt : -9223372036854775808 ≤ tt ∧ tt ≤ 9223372036854775807) (level : Nat) (w : World) (hW : WAtR B X w rdv d v R0) (hg : Forks.Good v) (root : EL) (hr : EntsAt w rv root) (hl : root.length ≤ 1000000) (hlev : level ≤ d) (hd4 : d ≤ 4)
  (hIdx : ∀ wz u l, Below w.heap.size w wz → EntsAt wz u l → l.length ≤ 1000000 → Calls Tryz.prog 99 #[u, isv] wz fun e w' => e = .returned (.int .i64 (idxOf p l)) ∧ Below wz.heap.size wz w') :
  Calls Tryz.prog 61 #[.pointer (some ⟨X, 0, none⟩), .agg #[.int .i64 (d : Int), rv], .int .i64 (level : Int), isv, .int .i64 tt] w (TurnOut w (Forks.turnedT v d root level p tt)) := by
 obtain ⟨ic, hic, hzc, hsc, hbc⟩ := info_parts info_change
 have HW := hid hW
 have HG := hid hg
 have HR := hid hr
 have HI := hid hIdx
 obtain ⟨ar, cr, rfl⟩ := hr.form
 have R1 : Hid (RSt w w.heap.size (w.heap.size + 1) (d : Int) (.slice ar root.length cr) ((w.alloc (.cells #[.int .i64 (d : Int), .slice ar root.length cr] 35)).alloc (.cells #[.int .i64 0, .slice none 0 0, .slice none 0 0, .slice none 0 0] 58))) := hid (by
  obtain ⟨h1, h2⟩ := shape_alloc2 w (.cells #[.int .i64 (d : Int), .slice ar root.length cr] 35) (.cells #[.int .i64 0, .slice none 0 0, .slice none 0 0, .slice none 0 0] 58)
  exact ⟨h1, h2, ((Below.refl _ _).alloc (Nat.le_refl _) _).alloc (by simp) _, Nat.le_refl _, Nat.le_succ _⟩)
 have qs := hid (same_any (d : Int) (.slice ar root.length cr) root _ (HR.out.keep (.of_below R1.out.bel)) hl)
 generalize hTT : Forks.turnedT v d root level p tt = RT at *
 have HTT := hid hTT
 clear hW hg hr hIdx hTT
 go_enter Tryz.func61, Tryz.ntmps61
 go_wp2_with fail
 generalize (w.alloc _).alloc _ = w1 at *
 obtain ⟨t0, t1, -, -, -, -, -⟩ := R1.out.cells
 go_wp2_with fail
 refine qs.out.mono ?_
 rintro e w2 ⟨v2, he, o2, b2⟩
 obtain ⟨a2, c2, rfl⟩ := o2.slice
 obtain rfl : e = .returned (.agg #[.int .i64 (d : Int), .slice a2 root.length c2, .slice none 0 0, .slice none 0 0]) := he
 have R2 := hid (R1.out.below b2)
 have O2 := hid o2
 clear b2 o2 qs t0 t1
 go_upto_region 2 with fail
 have T3 := hid (show TSt w w.heap.size (w.heap.size + 1) w2.heap.size d (.slice ar root.length cr) (.slice a2 root.length c2) (.slice none 0 0) root [] (w2.alloc (.cells #[.int .i64 (d : Int), .slice a2 root.length c2, .slice none 0 0, .slice none 0 0] 58)) from by
  have bA : Below w2.heap.size w2 (w2.alloc (.cells #[.int .i64 (d : Int), .slice a2 root.length c2, .slice none 0 0, .slice none 0 0] 58)) := (Below.refl _ _).alloc (Nat.le_refl _) _
  have h := R2.out.below bA
  have hz := lt_of_block R2.out.res
  exact ⟨h.tree, h.res, heap_alloc_new w2 _, World.ownsRow.mono (own_below O2.out bA) R1.out.bel.size, World.ownsRow_nil _ _ _ _, h.bel, h.lo0, h.lo1, R2.out.bel.size, by omega⟩)
 clear R2 O2 R1
 generalize w2.alloc _ = w3 at *
 generalize w2.heap.size = Y at *
 by_cases hdl : d = level
 ·have hdI : ((d : Int) == (level : Int)) = true := by rw [beq_iff_eq]; omega
  obtain ⟨t0, t1, y0, y1, y2, y3, yF⟩ := T3.out.cells
  have qi := hid (HI.out w3 (.slice ar root.length cr) root T3.out.bel (HR.out.keep (.of_below T3.out.bel)) hl)
  have hRT : Hid (RT = ⟨(d : Int), if 0 ≤ idxOf p root then Forks.turnAt root (idxOf p root).toNat tt else root, [], []⟩) := hid (by rw [← HTT.out]; unfold Forks.turnedT; rw [if_pos hdl])
  have hlt := hid (fun h => Forks.idxOf_lt (l := root) (p := p) h)
  generalize idxOf p root = I at *
  clear hlev hdl yF y2 y3
  by_cases hI : 0 ≤ I
  ·obtain ⟨i, rfl⟩ : ∃ i : Nat, I = (i : Int) := ⟨I.toNat, by omega⟩
   have hil := hlt.out hI
   rw [Int.toNat_natCast] at hil
   have hRT2 : Hid (RT = ⟨(d : Int), Forks.turnAt root i tt, [], []⟩) := hid (by rw [hRT.out, if_pos hI]; simp)
   have i0 : (0 : Int) ≤ (i : Int) := hI
   have i1 : (i : Int) < (root.length : Int) := by omega
   clear hI hlt hRT
   go_wp2_with fail
   refine qi.out.mono ?_
   rintro e w4 ⟨rfl, b4⟩
   have T4 := hid (T3.out.below b4)
   clear b4 qi T3 t0 t1 y0 y1
   obtain ⟨g, rfl⟩ : ∃ g, a2 = some ⟨g, 0, none⟩ := by
    rcases T4.out.root.2 with ⟨hv, hn⟩ | ⟨g', cap', cur, hv, _⟩
    ·omega
    ·cases hv; exact ⟨g', rfl⟩
   obtain ⟨T5, f5, u5, c5⟩ := T4.out.setRoot i hil tt
   have HT5 := hid T5
   obtain ⟨-, -, y0, y1, -, -, -⟩ := T4.out.cells
   have T6 := HT5
   clear T5
   have FO := hid (T6.out.out (r := RT) hRT2.out)
   obtain ⟨r0, r1, r2, r3, rF⟩ := T6.out.cellsR
   obtain ⟨-, -, y60, y61, y62, y63, -⟩ := T6.out.cells
   have rf0 := rF 0
   have rf1 := rF 1
   have rf2 := rF 2
   have rf3 := rF 3
   have n0 := cell_of_row _ _ 0 _ _ _ FO.out.2
   have n1 := cell_of_row _ _ 1 _ _ _ FO.out.2
   have n2 := cell_of_row _ _ 2 _ _ _ FO.out.2
   have n3 := cell_of_row _ _ 3 _ _ _ FO.out.2
   unfold put4 at FO n0 n1 n2 n3
   clear rF
   go_wp2_with fail
   refine bodyPost_ret (v := setV (d : Int) (.slice (some ⟨g, 0, none⟩) root.length c2) (.slice none 0 0) (.slice none 0 0)) ?_ rfl FO.out.1
   first | (simp [results, Tryz.results61, go_sem, n0, n1, n2, n3, setV]; done)
  ·have hRT2 : Hid (RT = ⟨(d : Int), root, [], []⟩) := hid (by rw [hRT.out, if_neg hI])
   clear hlt hRT
   go_wp2_with fail
   refine qi.out.mono ?_
   rintro e w4 ⟨rfl, b4⟩
   have T4 := hid (T3.out.below b4)
   clear b4 qi T3 t0 t1 y0 y1
   have FO := hid (T4.out.out (r := RT) hRT2.out)
   obtain ⟨r0, r1, r2, r3, rF⟩ := T4.out.cellsR
   obtain ⟨-, -, y0, y1, y2, y3, -⟩ := T4.out.cells
   have rf0 := rF 0
   have rf1 := rF 1
   have rf2 := rF 2
   have rf3 := rF 3
   have n0 := cell_of_row _ _ 0 _ _ _ FO.out.2
   have n1 := cell_of_row _ _ 1 _ _ _ FO.out.2
   have n2 := cell_of_row _ _ 2 _ _ _ FO.out.2
   have n3 := cell_of_row _ _ 3 _ _ _ FO.out.2
   unfold put4 at FO n0 n1 n2 n3
   clear rF
   go_wp2_with fail
   refine bodyPost_ret (v := setV (d : Int) (.slice a2 root.length c2) (.slice none 0 0) (.slice none 0 0)) ?_ rfl FO.out.1
   first | (simp [results, Tryz.results61, go_sem, n0, n1, n2, n3, setV]; done)
 ·have hdI : ((d : Int) == (level : Int)) = false := by rw [beq_eq_false_iff_ne]; omega
  have hld : level < d := by omega
  have hRT : Hid (RT = ⟨(d : Int), root, (Forks.lvl v (level + 1)).foldl (Forks.turnN v (level == 0) p tt) [], []⟩) := hid (by rw [← HTT.out]; unfold Forks.turnedT; rw [if_neg hdl])
  obtain ⟨Lb, cXw, hLv⟩ := HW.out.lvls
  have cX1 := (T3.out.bel.cell (p := ⟨X, 1, none⟩) (World.block_lt_of_cell? _ _ cXw)).trans cXw
  obtain ⟨b, off, u, hb, cuw, hnu⟩ := hLv.cellAt level (by rw [Forks.lvls_len]; exact hld)
  injection hb with hb
  injection hb with hb1 hb2
  subst hb1
  subst hb2
  have cu := (T3.out.bel.cell (p := ⟨Lb, 0 + level, none⟩) (World.block_lt_of_cell? _ _ cuw)).trans cuw
  rw [Nat.zero_add] at cu
  rw [Forks.lvls_at v d level hld] at hnu
  have hLF := hid (Forks.lvl_ok HG.out (level + 1))
  have hLS := hid (Forks.lvl_small HG.out (level + 1))
  obtain ⟨leaf, hleaf⟩ : ∃ leaf : Bool, (level == 0) = leaf := ⟨_, rfl⟩
  have hleafI : ((level : Int) == 0) = leaf := by
   rw [← hleaf]
   cases level with
   | zero => rfl
   | succ k => rw [beq_eq_false_iff_ne.2 (by omega), beq_eq_false_iff_ne.2 (by omega)]
  rw [hleaf] at hRT
  obtain ⟨t0, t1, y0, y1, y2, y3, yF⟩ := T3.out.cells
  have l0 : (0 : Int) ≤ (level : Int) := by omega
  have l1 : (level : Int) < (d : Int) := by omega
  have HNU := hid hnu.1
  have hnuT : Hid (∀ cv C wz, TSt w w.heap.size (w.heap.size + 1) Y d (.slice ar root.length cr) (.slice a2 root.length c2) cv root C wz → NodesT wz u (Forks.lvl v (level + 1))) := hid (fun cv C wz hz => HNU.out.below hz.bel)
  obtain ⟨au, ku, rfl⟩ := hnu.1.form
  generalize hLL : Forks.lvl v (level + 1) = L at *
  have hLn : L.length ≤ 100000 := hLF.out.2.2
  clear hLv hnu hLL hdl hleaf HTT cuw cXw
  go_wp2_with fail
  go_loopw [47] (fun q wr => ∃ (i : Nat) (cv : Value), q = .int .i64 i ∧ i ≤ L.length ∧ Hid (TSt w w.heap.size (w.heap.size + 1) Y d (.slice ar root.length cr) (.slice a2 root.length c2) cv root ((L.take i).foldl (Forks.turnN v leaf p tt) []) wr)) (fun q _ => L.length - (intOf q).toNat)
  case atStart => exact ⟨0, _, rfl, by omega, T3⟩
  case round =>
   clear T3 t0 t1 y0 y1 y2 y3 yF cX1 cu HNU
   obtain ⟨i, cv, rfl, hi, hst⟩ := hrel
   by_cases hlt : i < L.length
   ·have i0 : (0 : Int) ≤ (i : Int) := by omega
    have i1 : (i : Int) < (L.length : Int) := by omega
    obtain ⟨bn, on, ax, cx, rfl, d0, d1, hE⟩ := (hnuT.out _ _ wr hst.out).cellsAt i hlt
    have hmem : L.getD i (0, []) ∈ L := by rw [show L.getD i (0, []) = L[i] by simp [List.getD, hlt]]; exact List.getElem_mem hlt
    have hfed := hLF.out.1 _ hmem
    have hkn := hLF.out.2.1 _ hmem
    have hsx := hLS.out _ hmem
    have hF1 := hid (Forks.fold_take (Forks.turnN v leaf p tt) [] L i hlt (0, []))
    generalize L.getD i (0, []) = x at *
    obtain ⟨xb, xl⟩ := x
    dsimp only at *
    obtain ⟨nb, rfl⟩ : ∃ nb : Nat, xb = (nb : Int) := ⟨xb.toNat, by omega⟩
    have bA : Below wr.heap.size wr (wr.alloc (.cells #[.int .i64 (nb : Int), .slice ax xl.length cx] 131)) := (Below.refl _ _).alloc (Nat.le_refl _) _
    have x0 : (wr.alloc (.cells #[.int .i64 (nb : Int), .slice ax xl.length cx] 131)).cell? ⟨wr.heap.size, 0, none⟩ = some (.int .i64 (nb : Int)) := box_cell _ _ _ _
    have x1 : (wr.alloc (.cells #[.int .i64 (nb : Int), .slice ax xl.length cx] 131)).cell? ⟨wr.heap.size, 1, none⟩ = some (.slice ax xl.length cx) := box_cell _ _ _ _
    have zY : wr.heap.size < (wr.alloc (.cells #[.int .i64 (nb : Int), .slice ax xl.length cx] 131)).heap.size := by simp
    have T4 := hid (hst.out.below bA)
    have E4 := hid (hE.keep (.of_below bA))
    have qi := hid (HI.out _ (.slice ax xl.length cx) xl T4.out.bel E4.out (by omega))
    have hil := hid (fun h => Forks.idxOf_lt (l := xl) (p := p) h)
    have hF1 := hid (hF1.out.trans (Forks.turnN_def v leaf p tt _ _ xl))
    rw [Int.toNat_natCast] at hF1
    generalize hIx : idxOf p xl = I at *
    clear hst hE bA hmem hIx
    go_wp2_with fail
    generalize wr.alloc _ = w4 at *
    generalize wr.heap.size = Yn at *
    refine qi.out.mono ?_
    rintro e w5 ⟨rfl, b5⟩
    have T5 := hid (T4.out.below b5)
    have x05 := (b5.cell (p := ⟨Yn, 0, none⟩) zY).trans x0
    have x15 := (b5.cell (p := ⟨Yn, 1, none⟩) zY).trans x1
    have E5 := hid (E4.out.keep (.of_below b5))
    have zY5 : Yn < w5.heap.size := Nat.lt_of_lt_of_le zY b5.size
    clear b5 qi T4 E4 x0 x1 zY
    by_cases hI : 0 ≤ I
    ·obtain ⟨k, rfl⟩ : ∃ k : Nat, I = (k : Int) := ⟨I.toNat, by omega⟩
     have hkl := hil.out hI
     rw [Int.toNat_natCast] at hkl
     have k0 : (0 : Int) ≤ (k : Int) := hI
     have k1 : (k : Int) < (xl.length : Int) := by omega
     have k2 : ¬ (k : Int) < 0 := by omega
     rw [if_pos hI, Int.toNat_natCast] at hF1
     have qc := hid (nclone_any (.slice ax xl.length cx) xl w5 E5.out.ext (by omega))
     have hts := Forks.turnAt_small hsx k hkl tt htt
     have hW5 := hid (fun wz (hz : Below w.heap.size w wz) => HW.out.keepW (.of_below hz))
     clear hI hil
     go_wp2_with fail
     refine qc.out.mono ?_
     rintro e w6 ⟨v6, rfl, o6, b6⟩
     obtain ⟨g, c6, rfl, hg5⟩ : ∃ g c6, v6 = .slice (some ⟨g, 0, none⟩) xl.length c6 ∧ w5.heap.size ≤ g := by
      rcases o6.2 with ⟨hv, hn⟩ | ⟨g', cap', cur, hv, hg, _⟩
      ·omega
      ·exact ⟨g', cap', hv, hg⟩
     have o6' : w6.ownsRow w5.heap.size 31 3 (.slice (some ⟨g, 0, none⟩) xl.length c6) xl.length (ecells xl) := o6
     have f6 := own_freeK o6' (k * 3 + 1)
     have c6c := own_cellK o6' (ecells_at xl k hkl).2.1
     have o7 := own_setK o6' (k * 3 + 1) (.int .i64 tt)
     rw [ecells_setP _ _ _ hkl] at o7
     have O7 := hid (show OwnEnts w5.heap.size (w6.setCell ⟨g, k * 3 + 1, none⟩ (.int .i64 tt)) (.slice (some ⟨g, 0, none⟩) xl.length c6) (Forks.turnAt xl k tt) from by
      unfold OwnEnts
      rw [Forks.turnAt_len]
      exact o7)
     have B7 := hid (b6.setCell (p := ⟨g, k * 3 + 1, none⟩) hg5 (.int .i64 tt))
     have qe := hid (encode_any leaf (.slice (some ⟨g, 0, none⟩) xl.length c6) (Forks.turnAt xl k tt) _ hts (O7.out.ents.ext) (by rw [Forks.turnAt_len]; omega))
     have x07 := (B7.out.cell (p := ⟨Yn, 0, none⟩) zY5).trans x05
     have x17 := (B7.out.cell (p := ⟨Yn, 1, none⟩) zY5).trans x15
     have T7 := hid (T5.out.below B7.out)
     have zY7 : Yn < (w6.setCell ⟨g, k * 3 + 1, none⟩ (.int .i64 tt)).heap.size := Nat.lt_of_lt_of_le zY5 B7.out.size
     generalize Ents.encR (Forks.turnAt xl k tt) leaf = ER at *
     obtain ⟨bs, er⟩ := ER
     dsimp only at hF1 qe
     clear qc o6 b6 o7 x05 x15 O7 hts E5 T5 zY5
     go_wp2_with fail
     clear f6 c6c o6' x17 hg5
     have y07 := x07
     clear x07
     generalize w6.setCell _ _ = w7 at *
     refine qe.out.mono ?_
     rintro e w8 ⟨rfl, b8⟩
     have T8 := hid (T7.out.below b8)
     have x08 := (b8.cell (p := ⟨Yn, 0, none⟩) zY7).trans y07
     clear b8 qe T7 y07 zY7
     obtain ⟨Lb', Tb, lv', rv'', hl', hw'⟩ := hW5.out w8 T8.out.bel
     have cX := hw'.cellX.2.2.2
     have hTX : (Forks.texts v)[nb]? = some (Forks.textOf v nb) := Forks.texts_at v nb (by omega)
     have cV := hw'.tb.cellAt nb (v := .string (Forks.textOf v nb)) (by rw [List.getElem?_map, hTX]; rfl)
     have n0 : (0 : Int) ≤ (nb : Int) := by omega
     have n1 : (nb : Int) < 4096 := by omega
     generalize Forks.textOf v nb = S2 at *
     generalize txt bs = S1 at *
     clear hw' hTX hW5
     by_cases her : er = 0
     ·cases hcmp : S1.toList == S2.toList
      case false =>
       have hC1 : Hid ((L.take (i + 1)).foldl (Forks.turnN v leaf p tt) [] = [((nb : Int), S1)]) := hid (by rw [hF1.out, if_pos ⟨her, hcmp⟩])
       subst her
       clear hF1
       go_upto_region 15 with fail
       go_quiet (fail)
       have T9 := hid (T8.out.below (Below.drewN' (Below.refl _ _) nq))
       have x09 : (w8.drewN nq).cell? ⟨Yn, 0, none⟩ = some (.int .i64 (nb : Int)) := x08
       clear x08 cX cV T8
       generalize w8.drewN nq = w9 at *
       have bA : Below w9.heap.size w9 (w9.alloc (.cells #[.int .i64 (nb : Int), .string S1] 72)) := (Below.refl _ _).alloc (Nat.le_refl _) _
       have TA := T9.out.below bA
       have hlit : OwnChgs w.heap.size (w9.alloc (.cells #[.int .i64 (nb : Int), .string S1] 72)) (.slice (some ⟨w9.heap.size, 0, none⟩) 1 1) [((nb : Int), S1)] := World.ownsRow_lit w9 #[.int .i64 (nb : Int), .string S1] 1 T9.out.bel.size (by unfold maxLen; omega) rfl
       have T10 := hid (TA.setCh hlit)
       obtain ⟨-, -, -, -, y2, -, yF⟩ := TA.cells
       have yf2 := yF 2
       clear TA hlit bA yF
       go_wp2_with fail
       go_roundw
       case rel => exact ⟨i + 1, _, by go_num, by omega, hid (by rw [hC1.out]; exact T10.out)⟩
       case measure => simp [intOf]; omega
      case true =>
       have hC1 : Hid ((L.take (i + 1)).foldl (Forks.turnN v leaf p tt) [] = (L.take i).foldl (Forks.turnN v leaf p tt) []) := hid (by rw [hF1.out, if_neg (fun h => by rw [hcmp] at h; cases h.2)])
       subst her
       clear hF1
       go_upto_region 15 with fail
       go_quiet (fail)
       go_wp2_with fail
       go_roundw
       case rel => exact ⟨i + 1, _, by go_num, by omega, hid (by rw [hC1.out]; exact T8.out.below (Below.drewN' (Below.refl _ _) _))⟩
       case measure => simp [intOf]; omega
     ·have hC1 : Hid ((L.take (i + 1)).foldl (Forks.turnN v leaf p tt) [] = (L.take i).foldl (Forks.turnN v leaf p tt) []) := hid (by rw [hF1.out, if_neg (fun h => her h.1)])
      have herb : (er == 0) = false := by rw [beq_eq_false_iff_ne]; exact her
      clear hF1
      go_upto_region 15 with fail
      go_quiet (fail)
      go_wp2_with fail
      go_roundw
      case rel => exact ⟨i + 1, _, by go_num, by omega, hid (by rw [hC1.out]; exact T8.out.below (Below.drewN' (Below.refl _ _) _))⟩
      case measure => simp [intOf]; omega
    ·have I1 : I < 0 := by omega
     have hC1 : Hid ((L.take (i + 1)).foldl (Forks.turnN v leaf p tt) [] = (L.take i).foldl (Forks.turnN v leaf p tt) []) := hid (by rw [hF1.out, if_neg hI])
     clear hF1 hil hI
     go_wp2_with fail
     go_roundw
     case rel => exact ⟨i + 1, _, by go_num, by omega, hid (by rw [hC1.out]; exact T5.out)⟩
     case measure => simp [intOf]; omega
   ·obtain rfl : i = L.length := by omega
    have hst2 := hst.out
    rw [List.take_length] at hst2
    have T9 := hid hst2
    obtain ⟨ac, cc, rfl⟩ := hst2.ch.slice
    generalize hCC : L.foldl (Forks.turnN v leaf p tt) [] = CC at *
    generalize hnc : CC.length = nc at *
    clear hst hst2 hCC
    have FO := hid (T9.out.out (r := RT) hRT.out)
    obtain ⟨r0, r1, r2, r3, rF⟩ := T9.out.cellsR
    obtain ⟨-, -, y0, y1, y2, y3, -⟩ := T9.out.cells
    have rf0 := rF 0
    have rf1 := rF 1
    have rf2 := rF 2
    have rf3 := rF 3
    have n0 := cell_of_row _ _ 0 _ _ _ FO.out.2
    have n1 := cell_of_row _ _ 1 _ _ _ FO.out.2
    have n2 := cell_of_row _ _ 2 _ _ _ FO.out.2
    have n3 := cell_of_row _ _ 3 _ _ _ FO.out.2
    unfold put4 at FO n0 n1 n2 n3
    clear rF
    go_wp2_with fail
    refine bodyPost_ret (v := setV (d : Int) (.slice a2 root.length c2) (.slice ac nc cc) (.slice none 0 0)) ?_ rfl FO.out.1
    first | (simp [results, Tryz.results61, go_sem, n0, n1, n2, n3, setV]; done)
end Go.Proofs.YtgjmeeiejcbjfaaGreat
