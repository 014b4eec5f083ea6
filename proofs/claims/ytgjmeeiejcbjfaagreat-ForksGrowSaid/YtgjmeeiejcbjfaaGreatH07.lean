/- Numbers in texts: the bytes of a number, the lowest first; what becomes of a text. No program. -/
import Derived.WalkKit
import Derived.WalkSpells
import Derived.WalkLawsBesides
import Derived.Lib.Hide
import Derived.Test.YtgjmeeiejcbjfaaGreatH02
set_option linter.unusedSimpArgs false
set_option linter.unusedVariables false
namespace Go.Proofs.YtgjmeeiejcbjfaaGreat
open Go Go.RowKit
abbrev Bytes := List UInt8
def txt (l : Bytes) : ByteArray := ⟨l.toArray⟩
theorem txt_size (l : Bytes) : (txt l).size = l.length := by simp [txt, ByteArray.size]
theorem txt_list (l : Bytes) : (txt l).data.toList = l := by simp [txt]
theorem txt_of (s : ByteArray) : txt s.data.toList = s := by simp [txt]
theorem list_length (s : ByteArray) : s.data.toList.length = s.size := by
 show s.data.toList.length = s.data.size
 exact Array.length_toList
def le : Nat → Nat → Bytes
 | 0, _ => []
 | k + 1, n => UInt8.ofNat (n % 256) :: le k (n / 256)
theorem le_length : ∀ (k n : Nat), (le k n).length = k
 | 0, _ => rfl
 | k + 1, n => by simp [le, le_length k]
def lv : Bytes → Nat
 | [] => 0
 | b :: l => b.toNat + 256 * lv l
theorem lv_lt : ∀ l : Bytes, lv l < 256 ^ l.length
 | [] => by simp [lv]
 | b :: l => by
  have h := lv_lt l
  have := b.toNat_lt
  simp only [lv, List.length_cons, Nat.pow_succ]
  omega
theorem lv_snoc : ∀ (l : Bytes) (b : UInt8), lv (l ++ [b]) = lv l + 256 ^ l.length * b.toNat
 | [], b => by simp [lv]
 | c :: l, b => by
  simp only [List.cons_append, lv, lv_snoc l b, List.length_cons, Nat.pow_succ, Nat.mul_add]
  rw [← Nat.mul_assoc, Nat.mul_comm 256 (256 ^ l.length)]
  omega
theorem lv_le : ∀ (k n : Nat), n < 256 ^ k → lv (le k n) = n
 | 0, n, h => by simp at h; simp [le, lv, h]
 | k + 1, n, h => by
  have h2 : n / 256 < 256 ^ k := by
   rw [Nat.pow_succ] at h
   exact Nat.div_lt_of_lt_mul (by rw [Nat.mul_comm]; exact h)
  simp only [le, lv, lv_le k _ h2]
  have : (UInt8.ofNat (n % 256)).toNat = n % 256 := by simp
  omega
theorem le_at : ∀ (k n i : Nat), i < k → (le k n)[i]? = some (UInt8.ofNat (n / 256 ^ i))
 | k + 1, n, 0, _ => by
  simp only [le, List.getElem?_cons_zero, Nat.pow_zero, Nat.div_one]
  congr 1
  apply UInt8.toNat_inj.1
  simp
 | k + 1, n, i + 1, h => by
  simp only [le, List.getElem?_cons_succ]
  rw [le_at k _ i (by omega), Nat.div_div_eq_div_mul, Nat.pow_succ, Nat.mul_comm 256]
def splice (l : Bytes) (at_ : Nat) (b : Bytes) : Bytes := l.take at_ ++ b ++ l.drop (at_ + b.length)
theorem splice_length (l : Bytes) (at_ : Nat) (b : Bytes) (h : at_ + b.length ≤ l.length) : (splice l at_ b).length = l.length := by
 simp [splice]; omega
theorem splice_nil (l : Bytes) (at_ : Nat) : splice l at_ [] = l := by simp [splice]
theorem splice_snoc (l : Bytes) (at_ : Nat) (b : Bytes) (x : UInt8) (h : at_ + b.length < l.length) : (splice l at_ b).set (at_ + b.length) x = splice l at_ (b ++ [x]) := by
 apply List.ext_getElem?
 intro j
 simp only [splice, List.getElem?_set, List.length_append, List.length_take, List.length_drop, List.length_cons, List.length_nil]
 rw [Nat.min_eq_left (by omega)]
 rcases Nat.lt_or_ge j at_ with h1 | h1
 ·rw [if_neg (by omega), List.getElem?_append_left (by simp; omega), List.getElem?_append_left (by simp; omega), List.getElem?_append_left (by simp; omega), List.getElem?_append_left (by simp; omega)]
 ·rcases Nat.lt_trichotomy j (at_ + b.length) with h2 | h2 | h2
  ·rw [if_neg (by omega), List.getElem?_append_left (by simp; omega), List.getElem?_append_right (by simp; omega), List.getElem?_append_left (by simp; omega), List.getElem?_append_right (by simp; omega)]
   rw [List.getElem?_append_left (by simp; omega)]
  ·subst h2
   rw [if_pos rfl, if_pos (by omega), List.getElem?_append_left (by simp; omega), List.getElem?_append_right (by simp; omega)]
   simp [Nat.min_eq_left (show at_ ≤ l.length by omega)]
  ·rw [if_neg (by omega), List.getElem?_append_right (by simp; omega), List.getElem?_append_right (by simp; omega)]
   simp only [List.getElem?_drop, List.length_append, List.length_take, List.length_cons, List.length_nil]
   congr 1
   omega
def getW (l : Bytes) (at_ k : Nat) : Nat := lv ((l.drop at_).take k)
theorem getW_zero (l : Bytes) (at_ : Nat) : getW l at_ 0 = 0 := by simp [getW, lv]
theorem getW_succ (l : Bytes) (at_ k : Nat) (h : at_ + k < l.length) : getW l at_ (k + 1) = getW l at_ k + 256 ^ k * (l.getD (at_ + k) 0).toNat := by
 unfold getW
 rw [List.take_succ_eq_append_getElem (by simp; omega), lv_snoc]
 simp [List.getD, h]
 rw [Nat.min_eq_left (by omega)]
theorem getW_lt (l : Bytes) (at_ k : Nat) : getW l at_ k < 256 ^ k := by
 refine Nat.lt_of_lt_of_le (lv_lt _) (Nat.pow_le_pow_right (by decide) (by simp; omega))
theorem or_add (a b i : Nat) (h : a < 2 ^ i) : a ||| 2 ^ i * b = a + 2 ^ i * b := by
 rw [Nat.or_comm, ← Nat.two_pow_add_eq_or_of_lt h, Nat.add_comm]
theorem pow256 (i : Nat) : 256 ^ i = 2 ^ (8 * i) := by rw [show 256 = 2 ^ 8 by decide, ← Nat.pow_mul]
end Go.Proofs.YtgjmeeiejcbjfaaGreat
namespace Go.Proofs.YtgjmeeiejcbjfaaGreat.Ents
open Go.Proofs.YtgjmeeiejcbjfaaGreat
abbrev E := Exts.E
abbrev EL := Exts.EL
def mayN (x : E) : Prop := x.2.2 = 0 ∧ 0 ≤ x.1 ∧ x.1 ≤ 2047 ∧ 1 ≤ x.2.1 ∧ x.2.1 ≤ 4095
instance (x : E) : Decidable (mayN x) := by unfold mayN; infer_instance
def may (leaf : Bool) (x : E) : Bool := if leaf then decide (Exts.may x) else decide (mayN x)
def step (y x : E) : Bool := decide (0 < x.1 - y.1) && decide (y.2.2 ≤ x.1 - y.1)
def okTo (leaf : Bool) (l : EL) : Nat → Bool
 | 0 => true
 | i + 1 => okTo leaf l i && may leaf (l.getD i (0, 0, 0)) && (i == 0 || step (l.getD (i - 1) (0, 0, 0)) (l.getD i (0, 0, 0)))
theorem okTo_may {leaf : Bool} {l : EL} : ∀ {j : Nat}, okTo leaf l j = true → ∀ k, k < j → may leaf (l.getD k (0, 0, 0)) = true
 | 0, _, k, hk => absurd hk (Nat.not_lt_zero _)
 | j + 1, h, k, hk => by
  unfold okTo at h
  simp only [Bool.and_eq_true] at h
  rcases Nat.lt_or_ge k j with h1 | h1
  ·exact okTo_may h.1.1 k h1
  ·obtain rfl : k = j := by omega
   exact h.1.2
theorem okTo_false (leaf : Bool) (l : EL) (i : Nat) (h : okTo leaf l i = false) {n : Nat} (hn : i ≤ n) : okTo leaf l n = false := by
 induction hn with
 | refl => exact h
 | step _ ih => unfold okTo; rw [ih]; rfl
theorem okTo_leaf (l : EL) : ∀ j, okTo true l j = Exts.okTo l j
 | 0 => rfl
 | j + 1 => by
  unfold okTo Exts.okTo
  rw [okTo_leaf l j]
  cases h : Exts.okTo l j
  ·rfl
  ·by_cases hm : Exts.may (l.getD j (0, 0, 0))
   ·rw [show may true (l.getD j (0, 0, 0)) = true from decide_eq_true hm, decide_eq_true hm]
    by_cases h0 : j = 0
    ·subst h0; rfl
    ·have hp : Exts.may (l.getD (j - 1) (0, 0, 0)) := by
      rw [← okTo_leaf l j] at h
      have := okTo_may h (j - 1) (by omega)
      exact of_decide_eq_true this
     have : step (l.getD (j - 1) (0, 0, 0)) (l.getD j (0, 0, 0)) = decide (Exts.fin (l.getD (j - 1) (0, 0, 0)) ≤ (l.getD j (0, 0, 0)).1) := by
      unfold step
      rw [← Bool.decide_and]
      unfold Exts.may at hp
      unfold Exts.fin
      exact decide_eq_decide.2 (by omega)
     rw [this]
   ·rw [show may true (l.getD j (0, 0, 0)) = false from decide_eq_false hm, decide_eq_false hm]
    rfl
def Row (leaf : Bool) (l : EL) : Prop := okTo leaf l l.length = true
instance (leaf : Bool) (l : EL) : Decidable (Row leaf l) := by unfold Row; infer_instance
theorem Row.may {leaf : Bool} {l : EL} (h : Row leaf l) : ∀ x ∈ l, Ents.may leaf x = true := by
 intro x hx
 obtain ⟨k, hk, rfl⟩ := List.mem_iff_getElem.1 hx
 have := okTo_may h k hk
 rwa [show l.getD k (0, 0, 0) = l[k] by simp [List.getD, hk]] at this
theorem row_leaf {l : EL} : Row true l ↔ Exts.Row l := by unfold Row; rw [okTo_leaf]; exact Exts.check_row
def Fits (x : E) : Prop := (0 ≤ x.1 ∧ x.1 < 4294967296) ∧ (0 ≤ x.2.1 ∧ x.2.1 < 4294967296) ∧ 0 ≤ x.2.2 ∧ x.2.2 < 4294967296
theorem may_fits {leaf : Bool} {x : E} (h : may leaf x = true) : Fits x := by
 unfold may at h
 unfold Fits
 cases leaf
 ·have h := of_decide_eq_true h
  unfold mayN at h
  omega
 ·have h := of_decide_eq_true h
  unfold Exts.may at h
  omega
def eb (x : E) : Bytes := le 4 x.1.toNat ++ le 4 x.2.1.toNat ++ le 4 x.2.2.toNat
theorem eb_length (x : E) : (eb x).length = 12 := by simp [eb, le_length]
def ebs (l : EL) : Bytes := l.flatMap eb
theorem ebs_length (l : EL) : (ebs l).length = 12 * l.length := by
 induction l with
 | nil => rfl
 | cons x l ih =>
  have e : ebs (x :: l) = eb x ++ ebs l := by simp [ebs]
  rw [e, List.length_append, eb_length, ih, List.length_cons]; omega
theorem ebs_append (a b : EL) : ebs (a ++ b) = ebs a ++ ebs b := by simp [ebs]
def getE (s : Bytes) (at_ : Nat) : E := ((getW s at_ 4 : Nat), (getW s (at_ + 4) 4 : Nat), (getW s (at_ + 8) 4 : Nat))
def getL (s : Bytes) (at_ : Nat) : Nat → EL
 | 0 => []
 | n + 1 => getL s at_ n ++ [getE s (at_ + 12 * n)]
theorem getL_length (s : Bytes) (at_ n : Nat) : (getL s at_ n).length = n := by
 induction n with
 | zero => rfl
 | succ n ih => simp [getL, ih]
theorem getW_append (a b c : Bytes) (k : Nat) (h : b.length = k) : getW (a ++ (b ++ c)) a.length k = lv b := by
 unfold getW
 rw [List.drop_left, List.take_left' h]
theorem getE_append (a c : Bytes) (x : E) (h : Fits x) : getE (a ++ (eb x ++ c)) a.length = x := by
 obtain ⟨⟨h1, h2⟩, ⟨h3, h4⟩, h5, h6⟩ := h
 have e1 : a ++ (eb x ++ c) = a ++ (le 4 x.1.toNat ++ (le 4 x.2.1.toNat ++ (le 4 x.2.2.toNat ++ c))) := by simp [eb]
 have e2 : a ++ (eb x ++ c) = (a ++ le 4 x.1.toNat) ++ (le 4 x.2.1.toNat ++ (le 4 x.2.2.toNat ++ c)) := by simp [eb]
 have e3 : a ++ (eb x ++ c) = (a ++ le 4 x.1.toNat ++ le 4 x.2.1.toNat) ++ (le 4 x.2.2.toNat ++ c) := by simp [eb]
 have g1 : getW (a ++ (eb x ++ c)) a.length 4 = x.1.toNat := by
  rw [e1, getW_append _ _ _ _ (le_length _ _), lv_le _ _ (by omega)]
 have g2 : getW (a ++ (eb x ++ c)) (a.length + 4) 4 = x.2.1.toNat := by
  rw [e2, show a.length + 4 = (a ++ le 4 x.1.toNat).length by simp [le_length], getW_append _ _ _ _ (le_length _ _), lv_le _ _ (by omega)]
 have g3 : getW (a ++ (eb x ++ c)) (a.length + 8) 4 = x.2.2.toNat := by
  rw [e3, show a.length + 8 = (a ++ le 4 x.1.toNat ++ le 4 x.2.1.toNat).length by simp [le_length], getW_append _ _ _ _ (le_length _ _), lv_le _ _ (by omega)]
 unfold getE
 rw [g1, g2, g3]
 obtain ⟨x1, x2, x3⟩ := x
 dsimp only at *
 simp only [Prod.mk.injEq]
 omega
theorem getL_ebs (a c : Bytes) : ∀ (l : EL), (∀ x ∈ l, Fits x) → ∀ n, n ≤ l.length → getL (a ++ (ebs l ++ c)) a.length n = l.take n := by
 intro l hl n
 induction n with
 | zero => intro _; rw [List.take_zero]; rfl
 | succ n ih =>
  intro hn
  have hn' : n < l.length := by omega
  rw [getL, ih (by omega), List.take_succ_eq_append_getElem hn']
  congr 2
  have e : a ++ (ebs l ++ c) = (a ++ ebs (l.take n)) ++ (eb l[n] ++ (ebs (l.drop (n + 1)) ++ c)) := by
   have : l = l.take n ++ (l[n] :: l.drop (n + 1)) := by rw [← List.drop_eq_getElem_cons hn', List.take_append_drop]
   have e5 : ebs l = ebs (l.take n) ++ (eb l[n] ++ ebs (l.drop (n + 1))) := by
    conv => lhs; rw [this]
    rw [ebs_append]
    rfl
   rw [e5]
   simp only [List.append_assoc]
  have h2 : (a ++ ebs (l.take n)).length = a.length + 12 * n := by
   rw [List.length_append, ebs_length, List.length_take]; omega
  rw [e, ← h2]
  exact getE_append _ _ _ (hl _ (List.getElem_mem hn'))
def nodeB (l : EL) (leaf : Bool) : Bytes := [70, if leaf then 1 else 0, UInt8.ofNat l.length] ++ (ebs l ++ List.replicate (125 - 12 * l.length) 0)
def EncOk (l : EL) (leaf : Bool) : Prop := 1 ≤ l.length ∧ l.length ≤ 10 ∧ Row leaf l
instance (l : EL) (leaf : Bool) : Decidable (EncOk l leaf) := by unfold EncOk; infer_instance
theorem nodeB_length (l : EL) (leaf : Bool) (h : l.length ≤ 10) : (nodeB l leaf).length = 128 := by
 unfold nodeB
 simp [ebs_length]
 omega
def encR (l : EL) (leaf : Bool) : Bytes × Int := if EncOk l leaf then (nodeB l leaf, 0) else ([], 2)
def rawL (s : Bytes) : EL := getL s 3 (min (s.getD 2 0).toNat 10)
def rawLeaf (s : Bytes) : Bool := s.getD 1 0 == 1
def dec (s : Bytes) : Option (EL × Bool) := if s.length = 128 ∧ EncOk (rawL s) (rawLeaf s) ∧ nodeB (rawL s) (rawLeaf s) = s then some (rawL s, rawLeaf s) else none
theorem raw_node {l : EL} {leaf : Bool} (h : EncOk l leaf) : rawL (nodeB l leaf) = l ∧ rawLeaf (nodeB l leaf) = leaf := by
 obtain ⟨h1, h2, h3⟩ := h
 have e2 : (nodeB l leaf).getD 2 0 = UInt8.ofNat l.length := rfl
 have e1 : (nodeB l leaf).getD 1 0 = if leaf then 1 else 0 := rfl
 constructor
 ·unfold rawL
  rw [e2]
  have : (UInt8.ofNat l.length).toNat = l.length := by simp; omega
  rw [this, Nat.min_eq_left h2]
  have := getL_ebs [70, if leaf then 1 else 0, UInt8.ofNat l.length] (List.replicate (125 - 12 * l.length) 0) l (fun x hx => may_fits (h3.may x hx)) l.length (Nat.le_refl _)
  rw [List.take_length] at this
  exact this
 ·unfold rawLeaf
  rw [e1]
  cases leaf <;> rfl
theorem dec_node {l : EL} {leaf : Bool} (h : EncOk l leaf) : dec (nodeB l leaf) = some (l, leaf) := by
 obtain ⟨e1, e2⟩ := raw_node h
 unfold dec
 rw [e1, e2, if_pos ⟨nodeB_length _ _ h.2.1, h, rfl⟩]
theorem dec_some {s : Bytes} {l : EL} {leaf : Bool} (h : dec s = some (l, leaf)) : EncOk l leaf ∧ s = nodeB l leaf := by
 unfold dec at h
 split at h
 ·rename_i hc
  cases h
  exact ⟨hc.2.1, hc.2.2.symm⟩
 ·cases h
theorem nodeB_inj {l m : EL} {a b : Bool} (h : EncOk l a) (h2 : EncOk m b) (e : nodeB l a = nodeB m b) : l = m ∧ a = b := by
 have e1 := dec_node h
 rw [e, dec_node h2] at e1
 cases e1
 exact ⟨rfl, rfl⟩
end Go.Proofs.YtgjmeeiejcbjfaaGreat.Ents
namespace Go.Proofs.YtgjmeeiejcbjfaaGreat.Forks
open Go.Proofs.YtgjmeeiejcbjfaaGreat
abbrev E := Exts.E
abbrev EL := Exts.EL
structure Vis where
 b : Nat
 h : Nat
 l : EL
 s : ByteArray
abbrev V := List Vis
structure Disk where
 L : List ByteArray
 bad : Int
def Disk.rd (d : Disk) (b : Nat) : Option ByteArray := if (b : Int) = d.bad then none else d.L[b]?
def has (v : V) (b : Nat) : Bool := v.any fun x => x.b == b
def nodeW (d : Disk) (child : EL → V → Except Int V) (h : Nat) (x : E) (v : V) : Except Int V :=
 if has v x.2.1.toNat = true then .error 80 else
 match d.rd x.2.1.toNat with
 | none => .error 60
 | some s => match Ents.dec s.data.toList with
  | none => .error 80
  | some (l, leaf) =>
   if leaf ≠ (h == 1) ∨ (l.getD 0 (0, 0, 0)).1 ≠ x.1 then .error 80
   else if leaf = true then .ok (v ++ [⟨x.2.1.toNat, h, l, s⟩])
   else child l (v ++ [⟨x.2.1.toNat, h, l, s⟩])
def foldW (f : E → V → Except Int V) : EL → V → Except Int V
 | [], v => .ok v
 | x :: l, v => match f x v with
  | .error e => .error e
  | .ok v' => foldW f l v'
def allW (d : Disk) : Nat → EL → V → Except Int V
 | 0, _, v => .ok v
 | h + 1, l, v => foldW (nodeW d (allW d h) (h + 1)) l v
def rowV (v : V) : EL := (v.filter fun x => x.h == 1).flatMap fun x => x.l
abbrev Node := Int × EL
def lvl (v : V) (h : Nat) : List Node := (v.filter fun x => x.h == h).map fun x => ((x.b : Int), x.l)
def textOf (v : V) (b : Nat) : ByteArray := match v.find? fun x => x.b == b with
 | some x => x.s
 | none => ⟨#[]⟩
def texts (v : V) : List ByteArray := (List.range 4096).map (textOf v)
def nodes (v : V) : List Nat := (List.range 4096).filter (has v)
def inX (b : Int) (x : E) : Bool := decide (x.2.1 ≤ b) && decide (b - x.2.1 < x.2.2)
def taken (row : EL) (b : Int) : Bool := row.any (inX b)
def meets (v : V) (row : EL) : Bool := (nodes v).any fun b => taken row b
def RootOk (depth : Int) (root : EL) : Prop := 0 ≤ depth ∧ depth ≤ 4 ∧ root.length ≤ 4 ∧ (0 < depth → root.length ≠ 0) ∧ Ents.Row (depth == 0) root
instance (depth : Int) (root : EL) : Decidable (RootOk depth root) := by unfold RootOk; infer_instance
def walkT (d : Disk) (depth : Int) (root : EL) : Except Int (V × EL) :=
 if ¬ RootOk depth root then .error 80 else
 match (if depth = 0 then .ok [] else allW d depth.toNat root [] : Except Int V) with
 | .error e => .error e
 | .ok v => let row := if depth = 0 then root else rowV v
  if Ents.Row true row ∧ meets v row = false then .ok (v, row) else .error 80
section
variable {d : Disk} {child : EL → V → Except Int V} {h : Nat} {xa : Int} {b : Nat} {v : V}
theorem nodeW_has (hh : has v b = true) : nodeW d child h (xa, (b : Int), 0) v = .error 80 := by
 unfold nodeW
 dsimp only
 rw [Int.toNat_natCast, if_pos hh]
theorem nodeW_none (hh : has v b = false) (ho : d.rd b = none) : nodeW d child h (xa, (b : Int), 0) v = .error 60 := by
 unfold nodeW
 dsimp only
 rw [Int.toNat_natCast, if_neg (by rw [hh]; decide), ho]
theorem nodeW_bad {s : ByteArray} (hh : has v b = false) (ho : d.rd b = some s) (hd : Ents.dec s.data.toList = none) : nodeW d child h (xa, (b : Int), 0) v = .error 80 := by
 unfold nodeW
 dsimp only
 rw [Int.toNat_natCast, if_neg (by rw [hh]; decide), ho]
 dsimp only
 rw [hd]
theorem nodeW_ne {s : ByteArray} {l : EL} {leaf : Bool} (hh : has v b = false) (ho : d.rd b = some s) (hd : Ents.dec s.data.toList = some (l, leaf)) (hn : leaf ≠ (h == 1) ∨ (l.getD 0 (0, 0, 0)).1 ≠ xa) : nodeW d child h (xa, (b : Int), 0) v = .error 80 := by
 unfold nodeW
 dsimp only
 rw [Int.toNat_natCast, if_neg (by rw [hh]; decide), ho]
 dsimp only
 rw [hd]
 dsimp only
 rw [if_pos hn]
theorem nodeW_leaf {s : ByteArray} {l : EL} (hh : has v b = false) (ho : d.rd b = some s) (hd : Ents.dec s.data.toList = some (l, true)) (h1 : h = 1) (hn : (l.getD 0 (0, 0, 0)).1 = xa) : nodeW d child h (xa, (b : Int), 0) v = .ok (v ++ [⟨b, h, l, s⟩]) := by
 unfold nodeW
 dsimp only
 rw [Int.toNat_natCast, if_neg (by rw [hh]; decide), ho]
 dsimp only
 rw [hd]
 dsimp only
 rw [if_neg (by rw [h1, hn]; simp), if_pos rfl]
theorem nodeW_ok {s : ByteArray} {l : EL} {leaf : Bool} (hh : has v b = false) (ho : d.rd b = some s) (hd : Ents.dec s.data.toList = some (l, leaf)) (h1 : leaf = (h == 1)) (hn : (l.getD 0 (0, 0, 0)).1 = xa) : nodeW d child h (xa, (b : Int), 0) v = if leaf = true then .ok (v ++ [⟨b, h, l, s⟩]) else child l (v ++ [⟨b, h, l, s⟩]) := by
 unfold nodeW
 dsimp only
 rw [Int.toNat_natCast, if_neg (by rw [hh]; decide), ho]
 dsimp only
 rw [hd]
 dsimp only
 rw [if_neg (by rw [hn, h1]; simp)]
end
structure Good (v : V) : Prop where
 blk : ∀ x ∈ v, 1 ≤ x.b ∧ x.b ≤ 4095
 ok : ∀ x ∈ v, Ents.dec x.s.data.toList = some (x.l, x.h == 1)
 ne : (v.map fun x => x.b).Nodup
theorem Good.nil : Good [] := ⟨(fun _ h => nomatch h), (fun _ h => nomatch h), List.nodup_nil⟩
theorem has_false {v : V} {b : Nat} (h : has v b = false) : ∀ x ∈ v, x.b ≠ b := by
 intro x hx e
 have : has v b = true := List.any_eq_true.2 ⟨x, hx, by simp [e]⟩
 rw [h] at this
 cases this
theorem Good.snoc {v : V} (h : Good v) {x : Vis} (h1 : 1 ≤ x.b) (h2 : x.b ≤ 4095) (hd : Ents.dec x.s.data.toList = some (x.l, x.h == 1)) (hn : has v x.b = false) : Good (v ++ [x]) := by
 refine ⟨fun y hy => ?_, fun y hy => ?_, ?_⟩
 ·rcases List.mem_append.1 hy with h3 | h3
  ·exact h.blk y h3
  ·obtain rfl := List.mem_singleton.1 h3; exact ⟨h1, h2⟩
 ·rcases List.mem_append.1 hy with h3 | h3
  ·exact h.ok y h3
  ·obtain rfl := List.mem_singleton.1 h3; exact hd
 ·rw [List.map_append, List.nodup_append]
  refine ⟨h.ne, by simp, fun a ha b hb => ?_⟩
  obtain ⟨y, hy, rfl⟩ := List.mem_map.1 ha
  simp at hb
  subst hb
  exact has_false hn y hy
theorem nodup_bound {l : List Nat} {n : Nat} (h : l.Nodup) (hb : ∀ x ∈ l, x < n) : l.length ≤ n := by
 have := List.Nodup.length_le_of_subset h (l₂ := List.range n) (fun x hx => List.mem_range.2 (hb x hx))
 simpa using this
theorem Good.len {v : V} (h : Good v) : v.length ≤ 4096 := by
 have := nodup_bound h.ne (n := 4096) (fun x hx => by
  obtain ⟨y, hy, rfl⟩ := List.mem_map.1 hx
  have := h.blk y hy
  omega)
 simpa using this
theorem Good.enc {v : V} (h : Good v) : ∀ x ∈ v, Ents.EncOk x.l (x.h == 1) := fun x hx => (Ents.dec_some (h.ok x hx)).1
theorem flat_len (v : V) (h : ∀ x ∈ v, x.l.length ≤ 10) : (v.flatMap fun x => x.l).length ≤ 10 * v.length := by
 induction v with
 | nil => simp
 | cons x v ih =>
  have h1 := h x (by simp)
  have h2 := ih (fun y hy => h y (by simp [hy]))
  simp only [List.flatMap_cons, List.length_append, List.length_cons]
  omega
theorem Good.row_len {v : V} (h : Good v) : (rowV v).length ≤ 40960 := by
 have h1 := flat_len (v.filter fun x => x.h == 1) (fun x hx => (h.enc x (List.mem_filter.1 hx).1).2.1)
 have h2 := List.length_filter_le (fun x : Vis => x.h == 1) v
 have h3 := h.len
 unfold rowV
 omega
theorem lvl_len {v : V} (h : Good v) (k : Nat) : (lvl v k).length ≤ 4096 := by
 unfold lvl
 rw [List.length_map]
 have := List.length_filter_le (fun x : Vis => x.h == k) v
 have := h.len
 omega
theorem rowV_leaf (v : V) (b : Nat) (l : EL) (s : ByteArray) : rowV (v ++ [⟨b, 1, l, s⟩]) = rowV v ++ l := by simp [rowV]
theorem rowV_other (v : V) (b h : Nat) (l : EL) (s : ByteArray) (hh : h ≠ 1) : rowV (v ++ [⟨b, h, l, s⟩]) = rowV v := by simp [rowV, hh]
theorem lvl_same (v : V) (b h : Nat) (l : EL) (s : ByteArray) : lvl (v ++ [⟨b, h, l, s⟩]) h = lvl v h ++ [((b : Int), l)] := by simp [lvl]
theorem lvl_other (v : V) (b h k : Nat) (l : EL) (s : ByteArray) (hh : h ≠ k) : lvl (v ++ [⟨b, h, l, s⟩]) k = lvl v k := by simp [lvl, hh]
theorem texts_len (v : V) : (texts v).length = 4096 := by simp [texts]
theorem texts_at (v : V) (b : Nat) (h : b < 4096) : (texts v)[b]? = some (textOf v b) := by simp [texts, h]
theorem textOf_snoc (v : V) (b h : Nat) (l : EL) (s : ByteArray) (hn : has v b = false) (k : Nat) : textOf (v ++ [⟨b, h, l, s⟩]) k = if k = b then s else textOf v k := by
 unfold textOf
 rw [List.find?_append]
 by_cases e : k = b
 ·subst e
  have : v.find? (fun x => x.b == k) = none := by
   rw [List.find?_eq_none]
   intro x hx
   simpa using has_false hn x hx
  rw [this]
  simp
 ·rw [if_neg e]
  cases h1 : v.find? fun x => x.b == k
  ·have : ¬ b = k := fun h => e h.symm
   simp [this]
  ·simp
theorem texts_snoc (v : V) (b h : Nat) (l : EL) (s : ByteArray) (hn : has v b = false) (hb : b < 4096) : (texts v).set b s = texts (v ++ [⟨b, h, l, s⟩]) := by
 apply List.ext_getElem?
 intro k
 rw [List.getElem?_set, texts_len]
 by_cases hk : k < 4096
 ·rw [texts_at (v ++ [Vis.mk b h l s]) _ hk, textOf_snoc v b h l s hn, texts_at v _ hk]
  by_cases e : b = k
  ·subst e; rw [if_pos rfl, if_pos hb, if_pos rfl]
  ·rw [if_neg e, if_neg (fun h => e h.symm)]
 ·rw [if_neg (by omega)]
  rw [List.getElem?_eq_none (by rw [texts_len]; omega), List.getElem?_eq_none (by rw [texts_len]; omega)]
theorem dec_size {s : ByteArray} {x : EL × Bool} (h : Ents.dec s.data.toList = some x) : s.size = 128 := by
 unfold Ents.dec at h
 split at h
 ·rename_i hc
  have := hc.1
  rwa [list_length] at this
 ·cases h
theorem textOf_has {v : V} (hg : Good v) (b : Nat) : ((textOf v b).size = 0) = (has v b = false) := by
 unfold textOf
 cases h : v.find? fun x => x.b == b
 ·have : has v b = false := by
   unfold has
   rw [List.any_eq_false]
   intro x hx
   exact List.find?_eq_none.1 h x hx
  rw [this]
  simp
  rfl
 ·rename_i x
  have hx := List.mem_of_find?_eq_some h
  have hb := List.find?_some h
  have : has v b = true := List.any_eq_true.2 ⟨x, hx, hb⟩
  rw [this]
  have := dec_size (hg.ok x hx)
  simp [this]
end Go.Proofs.YtgjmeeiejcbjfaaGreat.Forks
namespace Go.Proofs.YtgjmeeiejcbjfaaGreat.Forks
open Go.Proofs.YtgjmeeiejcbjfaaGreat
def lens : List Node → Nat
 | [] => 0
 | n :: L => n.2.length + lens L
theorem lens_append (a b : List Node) : lens (a ++ b) = lens a + lens b := by
 induction a with
 | nil => simp [lens]
 | cons n a ih => simp only [List.cons_append, lens, ih]; omega
def preN : List Node → EL → Nat
 | [], _ => 0
 | n :: old, want => if n.2.length ≤ want.length ∧ want.take n.2.length = n.2 then preN old (want.drop n.2.length) + 1 else 0
def sufN : List Node → EL → Nat
 | [], _ => 0
 | x :: r, mid => if x.2.length ≤ mid.length ∧ mid.drop (mid.length - x.2.length) = x.2 then sufN r (mid.take (mid.length - x.2.length)) + 1 else 0
theorem preN_le : ∀ (old : List Node) (want : EL), preN old want ≤ old.length ∧ lens (old.take (preN old want)) ≤ want.length
 | [], want => by simp [preN, lens]
 | n :: old, want => by
  unfold preN
  split
  ·rename_i h
   have := preN_le old (want.drop n.2.length)
   rw [List.length_drop] at this
   refine ⟨by simp only [List.length_cons]; omega, ?_⟩
   rw [List.take_succ_cons]
   simp only [lens]
   omega
  ·simp [lens]
theorem sufN_le : ∀ (r : List Node) (mid : EL), sufN r mid ≤ r.length ∧ lens (r.take (sufN r mid)) ≤ mid.length
 | [], mid => by simp [sufN, lens]
 | n :: r, mid => by
  unfold sufN
  split
  ·rename_i h
   have := sufN_le r (mid.take (mid.length - n.2.length))
   rw [List.length_take] at this
   refine ⟨by simp only [List.length_cons]; omega, ?_⟩
   rw [List.take_succ_cons]
   simp only [lens]
   omega
  ·simp [lens]
def partN : Nat → EL → List EL
 | 0, _ => []
 | k + 1, l => l.take (l.length / (k + 1)) :: partN k (l.drop (l.length / (k + 1)))
def parted (most : Nat) (l : EL) : List EL := partN ((l.length + most - 1) / most) l
def nameN : List Int → Nat → List EL → List Node × Nat
 | _, m, [] => ([], m)
 | b :: bs, m, l :: r => ((b, l) :: (nameN bs m r).1, (nameN bs m r).2)
 | [], m, l :: r => ((-((m : Int) + 1), l) :: (nameN [] (m + 1) r).1, (nameN [] (m + 1) r).2)
structure Cuts where
 first : Nat
 from_ : Nat
 last : Nat
 to_ : Nat
def cuts0 (old : List Node) (want : EL) : Cuts :=
 let first := preN old want
 let from_ := lens (old.take first)
 let last := old.length - sufN (old.drop first).reverse (want.drop from_)
 ⟨first, from_, last, want.length - lens (old.drop last)⟩
def cuts1 (old : List Node) (c : Cuts) : Cuts :=
 if 0 < c.to_ - c.from_ ∧ c.to_ - c.from_ < 5 then
  if 0 < c.first then ⟨c.first - 1, c.from_ - (old.getD (c.first - 1) (0, [])).2.length, c.last, c.to_⟩
  else if c.last < old.length then ⟨c.first, c.from_, c.last + 1, c.to_ + (old.getD c.last (0, [])).2.length⟩
  else c
 else c
def levelC (old : List Node) (want : EL) (m : Nat) (c : Cuts) : List Node × Nat :=
 (old.take c.first ++ (nameN (((old.take c.last).drop c.first).map fun n => n.1) m (parted 10 ((want.take c.to_).drop c.from_))).1 ++ old.drop c.last,
  (nameN (((old.take c.last).drop c.first).map fun n => n.1) m (parted 10 ((want.take c.to_).drop c.from_))).2)
def level (old : List Node) (want : EL) (m : Nat) : List Node × Nat := levelC old want m (cuts1 old (cuts0 old want))
def leads (l : List Node) : EL := l.map fun n => ((n.2.getD 0 (0, 0, 0)).1, n.1, 0)
def upNew : Nat → EL → Nat → List (List Node) × EL × Nat
 | 0, root, m => ([], root, m)
 | k + 1, root, m => if root.length ≤ 4 then ([], root, m) else
   let r := upNew k (leads (level [] root m).1) (level [] root m).2
   ((level [] root m).1 :: r.1, r.2)
def upOld : List (List Node) → EL → Nat → List (List Node) × EL × Nat
 | [], root, m => upNew root.length root m
 | l :: old, root, m =>
   let r := upOld old (leads (level l root m).1) (level l root m).2
   ((level l root m).1 :: r.1, r.2)
def trimR : List (List Node) → EL → List (List Node) × EL
 | [], root => ([], root)
 | [] :: r, root => trimR r root
 | [n] :: r, root => if n.2.length ≤ 4 then trimR r n.2 else ([n] :: r, root)
 | l :: r, root => (l :: r, root)
def shapeT (old : List (List Node)) (row : EL) (m : Nat) : (List (List Node) × EL) × Nat :=
 let u := upOld old row m
 let t := trimR u.1.reverse u.2.1
 ((t.1.reverse, t.2), u.2.2)
theorem partN_len : ∀ (k : Nat) (l : EL), (partN k l).length = k
 | 0, _ => rfl
 | k + 1, l => by simp [partN, partN_len k]
theorem partN_join : ∀ (k : Nat) (l : EL), 0 < k ∨ l = [] → (partN k l).flatten = l
 | 0, l, h => by
  rcases h with h | h
  ·omega
  ·subst h; rfl
 | k + 1, l, _ => by
  unfold partN
  rw [List.flatten_cons, partN_join k (l.drop (l.length / (k + 1))) ?_, List.take_append_drop]
  rcases Nat.eq_zero_or_pos k with rfl | h
  ·right; simp
  ·exact .inl h
theorem partN_bounds : ∀ (k : Nat) (l : EL) (lo hi : Nat), lo * k ≤ l.length → l.length ≤ hi * k → ∀ p ∈ partN k l, lo ≤ p.length ∧ p.length ≤ hi
 | 0, _, _, _, _, _, p, hp => by cases hp
 | k + 1, l, lo, hi, h1, h2, p, hp => by
  have hq1 : lo ≤ l.length / (k + 1) := (Nat.le_div_iff_mul_le (by omega)).2 h1
  have hq2 : l.length / (k + 1) ≤ hi := Nat.div_le_of_le_mul (by rw [Nat.mul_comm]; exact h2)
  have hle : l.length / (k + 1) ≤ l.length := Nat.div_le_self _ _
  unfold partN at hp
  rcases List.mem_cons.1 hp with rfl | hp
  ·rw [List.length_take]; omega
  ·have hm := Nat.div_mul_le_self l.length (k + 1)
   have hd := Nat.div_add_mod l.length (k + 1)
   have hl := Nat.mod_lt l.length (show k + 1 > 0 by omega)
   generalize l.length / (k + 1) = q at *
   refine partN_bounds k (l.drop q) lo hi ?_ ?_ p hp
   ·rw [List.length_drop]
    have e1 : (k + 1) * q = q * k + q := by rw [Nat.mul_comm, Nat.mul_succ]
    have : lo * k ≤ q * k := Nat.mul_le_mul_right _ hq1
    omega
   ·rw [List.length_drop]
    have e1 : (k + 1) * q = q * k + q := by rw [Nat.mul_comm, Nat.mul_succ]
    have e2 : hi * (k + 1) = hi * k + hi := Nat.mul_succ _ _
    rcases Nat.lt_or_ge q hi with h3 | h3
    ·have : (q + 1) * k ≤ hi * k := Nat.mul_le_mul_right _ h3
     rw [Nat.add_mul, Nat.one_mul] at this
     omega
    ·have : q = hi := by omega
     subst this
     omega
theorem nameN_len : ∀ (bs : List Int) (m : Nat) (p : List EL), (nameN bs m p).1.length = p.length
 | _, _, [] => by cases ‹List Int› <;> rfl
 | b :: bs, m, l :: r => by simp [nameN, nameN_len bs m r]
 | [], m, l :: r => by simp [nameN, nameN_len [] (m + 1) r]
theorem nameN_parts : ∀ (bs : List Int) (m : Nat) (p : List EL), (nameN bs m p).1.map (fun n => n.2) = p
 | bs, _, [] => by cases bs <;> rfl
 | b :: bs, m, l :: r => by simp [nameN, nameN_parts bs m r]
 | [], m, l :: r => by simp [nameN, nameN_parts [] (m + 1) r]
end Go.Proofs.YtgjmeeiejcbjfaaGreat.Forks
namespace Go.Proofs.YtgjmeeiejcbjfaaGreat
open Go Go.RowKit
def u32 (x : BitVec 32) : Int := (x.toNat : Int)
theorem u32_lo (x : BitVec 32) : 0 ≤ u32 x := by unfold u32; omega
theorem u32_hi (x : BitVec 32) : u32 x < 4294967296 := by unfold u32; have := x.isLt; omega
theorem u32_inj {x y : BitVec 32} (h : u32 x = u32 y) : x = y := by
 unfold u32 at h; exact BitVec.eq_of_toNat_eq (by omega)
@[go_sem] theorem u32_xor (x y : BitVec 32) : bits .xor .u32 (u32 x) (u32 y) = u32 (x ^^^ y) := by
 unfold u32; rw [u32_xor_nat _ _ x.isLt y.isLt]; simp
@[go_sem] theorem u32_and' (x y : BitVec 32) : bits .and .u32 (u32 x) (u32 y) = u32 (x &&& y) := by
 unfold u32; rw [u32_and_nat _ _ x.isLt y.isLt]; simp
@[go_sem] theorem u32_and_one (x : BitVec 32) : bits .and .u32 (u32 x) 1 = u32 (x &&& 1#32) := u32_and' x 1#32
@[go_sem] theorem u32_poly (z : BitVec 32) : bits .and .u32 3988292384 (u32 z) = u32 (3988292384#32 &&& z) := u32_and' 3988292384#32 z
@[go_sem] theorem u32_poly' (z : BitVec 32) : bits .xor .u32 (u32 z) 3988292384 = u32 (z ^^^ 3988292384#32) := u32_xor z 3988292384#32
@[go_sem] theorem u32_not (x : BitVec 32) : bits .xor .u32 IntKind.u32.max (u32 x) = u32 (~~~x) := by
 have h : IntKind.u32.max = u32 4294967295#32 := by decide
 rw [h, u32_xor]
 have : (4294967295#32) = BitVec.allOnes 32 := by decide
 rw [this, BitVec.allOnes_xor]
@[go_sem] theorem u32_not' (x : BitVec 32) : bits .xor .u32 (u32 x) 4294967295 = u32 (~~~x) := by
 have h := u32_xor x 4294967295#32
 have : (4294967295#32) = BitVec.allOnes 32 := by decide
 rw [this, BitVec.xor_allOnes] at h
 exact h
@[go_sem] theorem u32_half (x : BitVec 32) : u32 x / (2 : Int) = u32 (x >>> 1) := by
 unfold u32; rw [BitVec.toNat_ushiftRight, Nat.shiftRight_eq_div_pow]; omega
def bit0 (x : BitVec 32) : Bool := x.getLsbD 0
theorem and_one (x : BitVec 32) : x &&& 1#32 = if bit0 x then 1#32 else 0#32 := by
 unfold bit0
 apply BitVec.eq_of_getLsbD_eq
 intro i hi
 by_cases h0 : i = 0
 ·subst h0; cases h : x.getLsbD 0 <;> (simp only [BitVec.getLsbD_and, h]; simp)
 ·have h1 : (1#32).getLsbD i = false := by
   rw [BitVec.getLsbD_one]; simp [h0]
  cases h : x.getLsbD 0 <;> simp [h1]
@[go_sem] theorem u32_rem2 (x : BitVec 32) : u32 x % (2 : Int) = u32 (x &&& 1#32) := by
 unfold u32
 have : (x &&& 1#32).toNat = x.toNat % 2 := by
  rw [BitVec.toNat_and]; exact Nat.and_two_pow_sub_one_eq_mod x.toNat 1
 rw [this]; omega
@[go_sem] theorem u32_tmod2 (x : BitVec 32) : (u32 x).tmod (2 : Int) = u32 (x &&& 1#32) := by
 rw [Int.tmod_eq_emod_of_nonneg (u32_lo x), u32_rem2]
@[go_sem] theorem u32_tdiv2 (x : BitVec 32) : (u32 x).tdiv (2 : Int) = u32 (x >>> 1) := by
 rw [Int.tdiv_eq_ediv_of_nonneg (u32_lo x), u32_half]
@[go_sem] theorem u32_one_eq (x : BitVec 32) : (u32 (x &&& 1#32) == 1) = bit0 x := by
 rw [and_one]; cases bit0 x <;> decide
@[go_sem] theorem u32_neg (x : BitVec 32) : -(u32 x) % 4294967296 = u32 (-x) := by
 unfold u32; rw [BitVec.toNat_neg]; have := x.isLt; omega
@[go_sem] theorem u32_mod (x : BitVec 32) : u32 x % 4294967296 = u32 x := by
 have h0 := u32_lo x; have h1 := u32_hi x; omega
@[go_sem] theorem u32_shr (x : BitVec 32) (k : Nat) : u32 x / (2 : Int) ^ k = u32 (x >>> k) := by
 unfold u32
 rw [BitVec.toNat_ushiftRight, Nat.shiftRight_eq_div_pow]
 norm_cast
@[go_sem] theorem u32_wrap64 (x : BitVec 32) : wrap64 (u32 x) = u32 x := by
 have h0 := u32_lo x; have h1 := u32_hi x
 exact IntWalk.wrap64_in _ ⟨by omega, by omega⟩
@[go_sem] theorem u32_eq (x y : BitVec 32) : (u32 x == u32 y) = (x == y) := by
 by_cases h : x = y
 ·subst h; simp
 ·have : u32 x ≠ u32 y := fun e => h (u32_inj e)
  rw [beq_eq_false_iff_ne.2 this, beq_eq_false_iff_ne.2 h]
@[go_sem] theorem u32_eq_zero (x : BitVec 32) : (u32 x == 0) = (x == 0#32) := u32_eq x 0#32
@[go_sem] theorem u32_of_byte (b : UInt8) : ((b.toNat : Nat) : Int) % 4294967296 = u32 (b.toBitVec.setWidth 32) := by
 unfold u32
 have := b.toNat_lt
 simp only [BitVec.toNat_setWidth, UInt8.toNat_toBitVec]
 omega
end Go.Proofs.YtgjmeeiejcbjfaaGreat
