/- Devices in memory: what a device is; its small methods that only read. Devices: what writes to them; Read, act, Arm. Devices: Read, Arm. Devices: Write. Devices: Pending. Devices: Flush. Devices: Flush, the walk. -/
import Derived.Test.YtlickjaopbcanaaRow
import Derived.Test.YtlickjaopbcanaaProg
import Derived.WalkKit
import Derived.Deep.QuietTactic
import Derived.BigQuiet
import Derived.Test.YtlickjaopbcanaaShelf
import Derived.Deep.RegionHeld3
import Derived.Lib.SliceRun
import Derived.StillTailTactics
namespace Go.Proofs.Ytlickjaopbcanaa
open Go Go.RowKit

structure Dev where
  kept : List ByteArray
  now : List ByteArray
  pend : List Bool
  armed : Bool
  left : Int
  acts : Int
/-- Where a device's rows lie. -/
structure Lay where
  gk : Nat
  ck : Nat
  gn : Nat
  cn : Nat
  gp : Nat
  cp : Nat

def strs (l : List ByteArray) : List Value := l.map Value.string
def bools (l : List Bool) : List Value := l.map Value.bool

structure DevAt (B : Nat) (w : World) (b : Nat) (y : Lay) (D : Dev) : Prop where
  own : B ≤ b
  cells : Row w b 45 [.slice (some ⟨y.gk, 0, none⟩) D.kept.length y.ck, .slice (some ⟨y.gn, 0, none⟩) D.kept.length y.cn, .slice (some ⟨y.gp, 0, none⟩) D.kept.length y.cp, .bool D.armed, .int .i64 D.left, .int .i64 D.acts]
  kept : w.ownsRow B 9 1 (.slice (some ⟨y.gk, 0, none⟩) D.kept.length y.ck) D.kept.length (strs D.kept)
  now : w.ownsRow B 9 1 (.slice (some ⟨y.gn, 0, none⟩) D.kept.length y.cn) D.kept.length (strs D.now)
  pend : w.ownsRow B 4 1 (.slice (some ⟨y.gp, 0, none⟩) D.kept.length y.cp) D.kept.length (bools D.pend)
  ne : b ≠ y.gk ∧ b ≠ y.gn ∧ b ≠ y.gp ∧ y.gk ≠ y.gn ∧ y.gk ≠ y.gp ∧ y.gn ≠ y.gp
  pos : 0 < D.kept.length ∧ D.kept.length ≤ 4096
  left : -9223372036854775808 ≤ D.left ∧ D.left ≤ 9223372036854775807
  acts : 0 ≤ D.acts ∧ D.acts ≤ 1000000000000

variable {B b : Nat} {w : World} {y : Lay} {D : Dev}
theorem DevAt.c0 (h : DevAt B w b y D) : w.cell? ⟨b, 0, none⟩ = some (.slice (some ⟨y.gk, 0, none⟩) D.kept.length y.ck) := h.cells.cellAt 0 rfl
theorem DevAt.c1 (h : DevAt B w b y D) : w.cell? ⟨b, 1, none⟩ = some (.slice (some ⟨y.gn, 0, none⟩) D.kept.length y.cn) := h.cells.cellAt 1 rfl
theorem DevAt.c2 (h : DevAt B w b y D) : w.cell? ⟨b, 2, none⟩ = some (.slice (some ⟨y.gp, 0, none⟩) D.kept.length y.cp) := h.cells.cellAt 2 rfl
theorem DevAt.c3 (h : DevAt B w b y D) : w.cell? ⟨b, 3, none⟩ = some (.bool D.armed) := h.cells.cellAt 3 rfl
theorem DevAt.c4 (h : DevAt B w b y D) : w.cell? ⟨b, 4, none⟩ = some (.int .i64 D.left) := h.cells.cellAt 4 rfl
theorem DevAt.c5 (h : DevAt B w b y D) : w.cell? ⟨b, 5, none⟩ = some (.int .i64 D.acts) := h.cells.cellAt 5 rfl

theorem blocks_any (h : DevAt B w b y D) : Calls Try.prog 10 #[.pointer (some ⟨b, 0, none⟩)] w fun e w' => e = .returned (.int .i64 D.kept.length) ∧ w = w' := by
  have c0 := h.c0
  have hp := h.pos
  clear h
  go_enter Try.func10, Try.ntmps10
  go_wp2_with fail
  go_ret
  exact ⟨rfl, rfl⟩

theorem acts_any (h : DevAt B w b y D) : Calls Try.prog 14 #[.pointer (some ⟨b, 0, none⟩)] w fun e w' => e = .returned (.int .i64 D.acts) ∧ w = w' := by
  have c0 := h.c5
  clear h
  go_enter Try.func14, Try.ntmps14
  go_wp2_with fail
  go_ret
  exact ⟨rfl, rfl⟩

/-- Is nothing done any more? -/
def Dev.dead (D : Dev) : Bool := D.armed && decide (D.left ≤ 0)
theorem dead_any (h : DevAt B w b y D) : Calls Try.prog 95 #[.pointer (some ⟨b, 0, none⟩)] w fun e w' => e = .returned (.bool D.dead) ∧ w = w' := by
  have c3 := h.c3
  have c4 := h.c4
  have hb := h.left
  clear h
  unfold Dev.dead
  obtain ⟨_, _, _, armed, left, _⟩ := D
  dsimp only at c3 c4 hb ⊢
  cases armed
  · go_enter Try.func95, Try.ntmps95
    go_wp2_with fail
    go_ret
    exact ⟨rfl, rfl⟩
  · go_enter Try.func95, Try.ntmps95
    go_wp2_with fail
    go_ret
    exact ⟨by first | rfl | simp, rfl⟩

/-- Why a block is none. -/
def Dev.ask (D : Dev) (i : Int) : Int := if i < 0 ∨ (D.kept.length : Int) ≤ i then 60 else 0
theorem ask_any (h : DevAt B w b y D) (i : Int) : Calls Try.prog 59 #[.pointer (some ⟨b, 0, none⟩), .int .i64 i] w fun e w' => e = .returned (.int .i64 (D.ask i)) ∧ w = w' := by
  have hb := Lib.hid (blocks_any h)
  have hp := h.pos
  clear h
  unfold Dev.ask
  generalize D.kept.length = n at *
  by_cases h0 : i < 0
  · rw [if_pos (.inl h0)]
    go_enter Try.func59, Try.ntmps59
    go_wp2_with fail
    refine hb.out.mono ?_
    rintro e w' ⟨rfl, rfl⟩
    go_wp2_with fail
    go_ret
    exact ⟨rfl, rfl⟩
  · by_cases h1 : (n : Int) ≤ i
    · rw [if_pos (.inr h1)]
      go_enter Try.func59, Try.ntmps59
      go_wp2_with fail
      refine hb.out.mono ?_
      rintro e w' ⟨rfl, rfl⟩
      go_wp2_with fail
      go_ret
      exact ⟨rfl, rfl⟩
    · rw [if_neg (by omega)]
      go_enter Try.func59, Try.ntmps59
      go_wp2_with fail
      refine hb.out.mono ?_
      rintro e w' ⟨rfl, rfl⟩
      go_wp2_with fail
      go_ret
      exact ⟨rfl, rfl⟩

end Go.Proofs.Ytlickjaopbcanaa

namespace Go.Proofs.Ytlickjaopbcanaa
open Go Go.RowKit

/-- Of what was there only the blocks S have turned. -/
structure Only (S : List Nat) (w w' : World) : Prop where
  os : w'.os = w.os
  tape : w'.tape = w.tape
  output : w'.output = w.output
  size : w.heap.size ≤ w'.heap.size
  block : ∀ k, k < w.heap.size → k ∉ S → w'.heap[k]? = w.heap[k]?
theorem Only.refl (S : List Nat) (w : World) : Only S w w := ⟨rfl, rfl, rfl, Nat.le_refl _, fun _ _ _ => rfl⟩
theorem Only.trans {S : List Nat} {a b c : World} (h : Only S a b) (k : Only S b c) : Only S a c :=
  ⟨k.os.trans h.os, k.tape.trans h.tape, k.output.trans h.output, Nat.le_trans h.size k.size, fun i hi hs => (k.block i (Nat.lt_of_lt_of_le hi h.size) hs).trans (h.block i hi hs)⟩
theorem Only.sub {S T : List Nat} {a b : World} (h : Only S a b) (hs : ∀ k ∈ S, k ∈ T) : Only T a b :=
  ⟨h.os, h.tape, h.output, h.size, fun i hi hn => h.block i hi (fun h2 => hn (hs i h2))⟩
theorem Only.ofBelow {S : List Nat} {a b : World} (h : Below a.heap.size a b) : Only S a b := ⟨h.os, h.tape, h.output, h.size, fun k hk _ => h.block k hk⟩
theorem Only.below {S : List Nat} {B : Nat} {a b : World} (h : Only S a b) (hB : B ≤ a.heap.size) (hs : ∀ k ∈ S, B ≤ k) : Below B a b :=
  ⟨h.os, h.tape, h.output, h.size, fun k hk => h.block k (by omega) (fun h2 => by have := hs k h2; omega)⟩
theorem Only.setCell {S : List Nat} (w : World) (p : Addr) (u : Value) (h : p.block ∈ S) : Only S w (w.setCell p u) :=
  ⟨rfl, rfl, rfl, by simp, fun k _ hn => Below.heap_setCell _ _ _ _ (fun e => hn (e ▸ h))⟩
theorem Only.drew {S : List Nat} {a b : World} (h : Only S a b) : Only S a b.drew := ⟨h.os, h.tape, h.output, h.size, h.block⟩

variable {B b : Nat} {w : World} {y : Lay} {D : Dev}

theorem DevAt.field (h : DevAt B w b y D) (k : Nat) (v : Value) (D' : Dev) (h1 : D'.kept = D.kept) (h2 : D'.now = D.now) (h3 : D'.pend = D.pend)
    (hc : Row (w.setCell ⟨b, k, none⟩ v) b 45 [.slice (some ⟨y.gk, 0, none⟩) D'.kept.length y.ck, .slice (some ⟨y.gn, 0, none⟩) D'.kept.length y.cn, .slice (some ⟨y.gp, 0, none⟩) D'.kept.length y.cp, .bool D'.armed, .int .i64 D'.left, .int .i64 D'.acts])
    (hl : -9223372036854775808 ≤ D'.left ∧ D'.left ≤ 9223372036854775807) (ha : 0 ≤ D'.acts ∧ D'.acts ≤ 1000000000000) : DevAt B (w.setCell ⟨b, k, none⟩ v) b y D' := by
  obtain ⟨n1, n2, n3, _⟩ := h.ne
  refine ⟨h.own, hc, ?_, ?_, ?_, h.ne, by rw [h1]; exact h.pos, hl, ha⟩
  · rw [h1]; exact ownsRow_setCell_other h.kept (by simp [Value.ownBlock]; exact fun e => n1 e.symm) _
  · rw [h1, h2]; exact ownsRow_setCell_other h.now (by simp [Value.ownBlock]; exact fun e => n2 e.symm) _
  · rw [h1, h3]; exact ownsRow_setCell_other h.pend (by simp [Value.ownBlock]; exact fun e => n3 e.symm) _

def Dev.acted (D : Dev) : Dev := { D with left := wrap64 (D.left - 1), acts := D.acts + 1 }

theorem DevAt.acted (h : DevAt B w b y D) (ha : D.acts < 1000000000000) : DevAt B ((w.setCell ⟨b, 4, none⟩ (.int .i64 (wrap64 (D.left - 1)))).setCell ⟨b, 5, none⟩ (.int .i64 (D.acts + 1))) b y D.acted := by
  have hw : -9223372036854775808 ≤ wrap64 (D.left - 1) ∧ wrap64 (D.left - 1) ≤ 9223372036854775807 := by unfold wrap64; omega
  have h1 : DevAt B (w.setCell ⟨b, 4, none⟩ (.int .i64 (wrap64 (D.left - 1)))) b y { D with left := wrap64 (D.left - 1) } :=
    h.field 4 _ _ rfl rfl rfl (h.cells.set 4 _) hw h.acts
  exact h1.field 5 _ _ rfl rfl rfl (h1.cells.set 5 _) hw (by have := h.acts; dsimp only [Dev.acted]; omega)

theorem act_any (h : DevAt B w b y D) (ha : D.acts < 1000000000000) : Calls Try.prog 82 #[.pointer (some ⟨b, 0, none⟩)] w fun e w' =>
    if D.dead then e = .returned (.int .i64 61) ∧ w = w' else e = .returned (.int .i64 0) ∧ DevAt B w' b y D.acted ∧ Only [b] w w' := by
  have hd := Lib.hid (dead_any h)
  have hA := Lib.hid (h.acted ha)
  cases hdead : D.dead
  · rw [hdead] at hd
    have c4 := h.c4
    have c5 := h.c5
    have f4 := h.cells.free 4 (by simp)
    have f5 := h.cells.free 5 (by simp)
    have hac := h.acts
    clear h hdead
    simp only [Bool.false_eq_true, if_false]
    generalize D.acted = D2 at *
    obtain ⟨_, _, _, armed, left, acts⟩ := D
    dsimp only at c4 c5 hac hA ha
    go_enter Try.func82, Try.ntmps82
    go_wp2_with fail
    refine hd.out.mono ?_
    rintro e w' ⟨rfl, rfl⟩
    go_wp2_with fail
    go_ret
    exact ⟨rfl, hA.out, (Only.setCell _ _ _ (by simp)).trans (Only.setCell _ _ _ (by simp))⟩
  · rw [hdead] at hd
    clear h hdead hA
    simp only [if_true]
    go_enter Try.func82, Try.ntmps82
    go_wp2_with fail
    refine hd.out.mono ?_
    rintro e w' ⟨rfl, rfl⟩
    go_wp2_with fail
    go_ret
    exact ⟨rfl, rfl⟩

end Go.Proofs.Ytlickjaopbcanaa

namespace Go.Proofs.Ytlickjaopbcanaa
open Go Go.RowKit
variable {B b : Nat} {w : World} {y : Lay} {D : Dev}

theorem own_cellAt {B n g cap : Nat} {T : TypeId} {xs : List Value} (h : w.ownsRow B T 1 (.slice (some ⟨g, 0, none⟩) n cap) n xs) {j : Nat} {u : Value} (hu : xs[j]? = some u) : w.cell? ⟨g, j, none⟩ = some u := by
  have := h.cells rfl j u hu
  have hadd : (⟨g, 0, none⟩ : Addr).add j = ⟨g, j, none⟩ := by unfold Addr.add; split <;> simp_all
  rwa [hadd] at this

def Dev.readS (D : Dev) (i : Int) : ByteArray := if i < 0 ∨ (D.kept.length : Int) ≤ i then ⟨#[]⟩ else D.now.getD i.toNat ⟨#[]⟩

theorem read_any (h : DevAt B w b y D) (i : Int) : Calls Try.prog 28 #[.pointer (some ⟨b, 0, none⟩), .int .i64 i] w fun e w' => e = .returned (.tuple #[.string (D.readS i), .int .i64 (D.ask i)]) ∧ w = w' := by
  have ha := ask_any h i
  unfold Dev.readS
  by_cases hi : i < 0 ∨ (D.kept.length : Int) ≤ i
  · have hk : D.ask i = 60 := by unfold Dev.ask; rw [if_pos hi]
    rw [hk] at ha ⊢
    rw [if_pos hi]
    have HA := Lib.hid ha
    clear h ha hi hk
    go_enter Try.func28, Try.ntmps28
    go_wp2_with fail
    refine HA.out.mono ?_
    rintro e w' ⟨rfl, rfl⟩
    go_wp2_with fail
    exact bodyPost_ret (v := .tuple #[.string ⟨#[]⟩, .int .i64 60]) (by simp [results, Try.results28, go_sem]) rfl ⟨rfl, rfl⟩
  · have hk : D.ask i = 0 := by unfold Dev.ask; rw [if_neg hi]
    rw [hk] at ha ⊢
    rw [if_neg hi]
    obtain ⟨k, rfl⟩ := Int.eq_ofNat_of_zero_le (show 0 ≤ i by omega)
    have HA := Lib.hid ha
    have c1 := h.c1
    have hlen : D.now.length = D.kept.length := by have := h.now.1; simpa [strs] using this
    have hkl : k < D.kept.length := by omega
    have hc : w.cell? ⟨y.gn, k, none⟩ = some (.string (D.now.getD k ⟨#[]⟩)) := own_cellAt h.now (by simp [strs, List.getD, hlen, hkl])
    have hp := h.pos
    rw [show ((k : Int)).toNat = k from rfl]
    generalize D.now.getD k ⟨#[]⟩ = t at *
    have i0 : (0 : Int) ≤ (k : Int) := by omega
    have i1 : (k : Int) < (D.kept.length : Int) := by omega
    clear h ha hi hk hlen
    generalize D.kept.length = n at *
    go_enter Try.func28, Try.ntmps28
    go_wp2_with fail
    refine HA.out.mono ?_
    rintro e w' ⟨rfl, rfl⟩
    go_wp2_with fail
    exact bodyPost_ret (v := .tuple #[.string t, .int .i64 0]) (by simp [results, Try.results28, go_sem]) rfl ⟨rfl, rfl⟩

def Dev.arm (D : Dev) (n : Int) : Dev := { D with armed := decide (0 ≤ n), left := n }
theorem DevAt.arm (h : DevAt B w b y D) (n : Int) (hn : -9223372036854775808 ≤ n ∧ n ≤ 9223372036854775807) : DevAt B ((w.setCell ⟨b, 3, none⟩ (.bool (decide (0 ≤ n)))).setCell ⟨b, 4, none⟩ (.int .i64 n)) b y (D.arm n) := by
  have h1 : DevAt B (w.setCell ⟨b, 3, none⟩ (.bool (decide (0 ≤ n)))) b y { D with armed := decide (0 ≤ n) } := h.field 3 _ _ rfl rfl rfl (h.cells.set 3 _) h.left h.acts
  exact h1.field 4 _ _ rfl rfl rfl (h1.cells.set 4 _) hn h.acts

theorem arm_any (h : DevAt B w b y D) (n : Int) (hn : -9223372036854775808 ≤ n ∧ n ≤ 9223372036854775807) : Calls Try.prog 30 #[.pointer (some ⟨b, 0, none⟩), .int .i64 n] w fun e w' => e = .returned (.tuple #[]) ∧ DevAt B w' b y (D.arm n) ∧ Only [b] w w' := by
  have hb := Lib.hid (blocks_any h)
  have HA := Lib.hid (h.arm n hn)
  have hp := h.pos
  have f3 := h.cells.free 3 (by simp)
  have f4 := h.cells.free 4 (by simp)
  have c3 := h.c3
  have c4 := h.c4
  clear h
  generalize D.arm n = D2 at *
  generalize D.kept.length = m at *
  go_enter Try.func30, Try.ntmps30
  go_wp2_with fail
  refine hb.out.mono ?_
  rintro e w' ⟨rfl, rfl⟩
  go_wp2_with fail
  go_end0
  exact ⟨rfl, HA.out, (Only.setCell _ _ _ (by simp)).trans (Only.setCell _ _ _ (by simp))⟩

end Go.Proofs.Ytlickjaopbcanaa

namespace Go.Proofs.Ytlickjaopbcanaa
open Go Go.RowKit
variable {B b : Nat} {w : World} {y : Lay} {D : Dev}

theorem clone_any (s : ByteArray) (w : World) (hs : s.size ≤ 281474976710656) : Calls Try.prog 53 #[.string s] w fun e w' => e = .returned (.string s) ∧ Below w.heap.size w w' := by
  have hc := Lib.hid (Try.stringslite_Clone s w hs)
  go_enter Try.func53, Try.ntmps53
  go_wp2_with fail
  refine hc.out.mono ?_
  rintro e w' ⟨rfl, hb⟩
  go_wp2_with fail
  go_ret
  exact ⟨rfl, hb⟩

theorem ownsRow_free1 {T : TypeId} {xs : List Value} {n g cap size : Nat} (h : w.ownsRow B T size (.slice (some ⟨g, 0, none⟩) n cap) n xs) (k : Nat) : w.frozen? ⟨g, k, none⟩ = false := by
  rcases h.2 with ⟨hv, _⟩ | ⟨g', cap', cur, hv, hb, hg, _⟩
  · cases hv
  · cases hv
    simp [World.frozen?, hg]

/-- Behind the acting: the data and the mark are laid. -/
def Dev.put (D : Dev) (k : Nat) (t : ByteArray) : Dev := { D with now := D.now.set k t, pend := D.pend.set k true }

theorem own_below {w w' : World} {base size n : Nat} {e : TypeId} {v : Value} {xs : List Value} (h : w.ownsRow base e size v n xs) (hb : Below w.heap.size w w') : w'.ownsRow base e size v n xs := by
  obtain ⟨h1, h2⟩ := h
  refine ⟨h1, ?_⟩
  rcases h2 with h2 | ⟨g, cap, cur, hv, hg, hh, r⟩
  · exact .inl h2
  · exact .inr ⟨g, cap, cur, hv, hg, by rw [hb.block g (lt_of_block hh)]; exact hh, r⟩

theorem ownsRow_set {w : World} {base size n g cap : Nat} {e : TypeId} {xs : List Value} (h : w.ownsRow base e size (.slice (some ⟨g, 0, none⟩) n cap) n xs) (k : Nat) (u : Value) :
    (w.setCell ⟨g, k, none⟩ u).ownsRow base e size (.slice (some ⟨g, 0, none⟩) n cap) n (xs.set k u) := by
  obtain ⟨h1, h2⟩ := h
  refine ⟨by simpa using h1, ?_⟩
  rcases h2 with ⟨hv, _⟩ | ⟨g', cap', cur, hv, hb, hg, hc1, hc2, hsz, htk⟩
  · cases hv
  · cases hv
    refine .inr ⟨g, cap, cur.set! k u, rfl, hb, ?_, hc1, hc2, by simpa using hsz, ?_⟩
    · have hlt := lt_of_block hg
      have h' : w.heap[g] = .cells cur e (0, 0) := by simpa [Array.getElem?_eq_getElem hlt] using hg
      show (w.heap.modify g _)[g]? = _
      rw [Array.getElem?_eq_getElem (by simpa using hlt), Array.getElem_modify_self, h']
      simp
    · rw [← htk]
      simp [List.take_set]

theorem DevAt.below {w' : World} (h : DevAt B w b y D) (hb : Below w.heap.size w w') : DevAt B w' b y D :=
  ⟨h.own, h.cells.below hb h.cells.lt, own_below h.kept hb, own_below h.now hb, own_below h.pend hb, h.ne, h.pos, h.left, h.acts⟩

theorem DevAt.put (h : DevAt B w b y D) (k : Nat) (t : ByteArray) (_hk : k < D.kept.length) : DevAt B ((w.setCell ⟨y.gn, k, none⟩ (.string t)).setCell ⟨y.gp, k, none⟩ (.bool true)) b y (D.put k t) := by
  obtain ⟨n1, n2, n3, n4, n5, n6⟩ := h.ne
  refine ⟨h.own, (h.cells.other (fun e => n2 e.symm) _).other (fun e => n3 e.symm) _, ?_, ?_, ?_, h.ne, h.pos, h.left, h.acts⟩
  · exact ownsRow_setCell_other (ownsRow_setCell_other h.kept (by simp [Value.ownBlock]; exact n4) _) (by simp [Value.ownBlock]; exact n5) _
  · have := ownsRow_setCell_other (ownsRow_set h.now k (.string t)) (a := ⟨y.gp, k, none⟩) (by simp [Value.ownBlock]; exact n6) (.bool true)
    simpa [Dev.put, strs, List.map_set] using this
  · have := ownsRow_set (ownsRow_setCell_other h.pend (a := ⟨y.gn, k, none⟩) (by simp [Value.ownBlock]; exact fun e => n6 e.symm) (.string t)) k (.bool true)
    simpa [Dev.put, bools, List.map_set] using this

set_option maxHeartbeats 1000000 in
theorem write_ok (h : DevAt B w b y D) (k : Nat) (t : ByteArray) (hk : k < D.kept.length) (ht : t.size = 128) (hd : D.dead = false) (ha : D.acts < 1000000000000) :
    Calls Try.prog 58 #[.pointer (some ⟨b, 0, none⟩), .int .i64 k, .string t] w fun e w' => e = .returned (.int .i64 0) ∧ DevAt B w' b y (D.acted.put k t) ∧ Only [b, y.gn, y.gp] w w' := by
  have hask := ask_any h k
  have hk0 : D.ask k = 0 := by unfold Dev.ask; rw [if_neg (by omega)]
  rw [hk0] at hask
  have hact := act_any h ha
  rw [hd] at hact
  simp only [Bool.false_eq_true, if_false] at hact
  have HASK := Lib.hid hask
  have HACT := Lib.hid hact
  have hcl := Lib.hid (fun w => clone_any t w (by omega))
  have hkn : k < D.acted.kept.length := hk
  clear h hask hact hk0 hd ha hk
  generalize D.acted = E at *
  go_enter Try.func58, Try.ntmps58
  go_wp2_with fail
  refine HASK.out.mono ?_
  rintro e w' ⟨rfl, rfl⟩
  go_wp2_with fail
  refine HACT.out.mono ?_
  rintro e w2 ⟨rfl, hE, hO⟩
  have c1 := hE.c1
  have c2 := hE.c2
  have lb := hE.cells.lt
  have fgn := ownsRow_free1 hE.now k
  have fgp := ownsRow_free1 hE.pend k
  have lgn := (hE.now.lt _ rfl).2
  have lgp := (hE.pend.lt _ rfl).2
  have cgn : ∃ u, w2.cell? ⟨y.gn, k, none⟩ = some u := ⟨_, own_cellAt hE.now (List.getElem?_eq_getElem (by rw [hE.now.1]; omega))⟩
  have cgp : ∃ u, w2.cell? ⟨y.gp, k, none⟩ = some u := ⟨_, own_cellAt hE.pend (List.getElem?_eq_getElem (by rw [hE.pend.1]; omega))⟩
  obtain ⟨u1, cgn⟩ := cgn
  obtain ⟨u2, cgp⟩ := cgp
  have HE := Lib.hid hE
  have HO := Lib.hid hO
  obtain ⟨n1, n2, n3, _⟩ := hE.ne
  have i0 : (0 : Int) ≤ (k : Int) := by omega
  have i1 : (k : Int) < (E.kept.length : Int) := by omega
  clear hE hO
  go_wp2_with fail
  go_region_held3 (fun w' => w'.cell? ⟨b, 1, none⟩ = some (.slice (some ⟨y.gn, 0, none⟩) E.kept.length y.cn) ∧ w'.cell? ⟨b, 2, none⟩ = some (.slice (some ⟨y.gp, 0, none⟩) E.kept.length y.cp))
    (first | exact ⟨c1, c2⟩ | exact ⟨(hb1.cell (p := ⟨_, _, none⟩) lb).trans c1, (hb1.cell (p := ⟨_, _, none⟩) lb).trans c2⟩ | exact ⟨(World.cell?_setCell_other _ _ _ _ (by first | (simp; done) | (simp; omega))).trans ((hb1.cell (p := ⟨_, _, none⟩) lb).trans c1), (World.cell?_setCell_other _ _ _ _ (by first | (simp; done) | (simp; omega))).trans ((hb1.cell (p := ⟨_, _, none⟩) lb).trans c2)⟩ | exact ⟨(World.cell?_setCell_other _ _ _ _ (by first | (simp; done) | (simp; omega))).trans ((World.cell?_setCell_other _ _ _ _ (by first | (simp; done) | (simp; omega))).trans ((hb1.cell (p := ⟨_, _, none⟩) lb).trans c1)), (World.cell?_setCell_other _ _ _ _ (by first | (simp; done) | (simp; omega))).trans ((World.cell?_setCell_other _ _ _ _ (by first | (simp; done) | (simp; omega))).trans ((hb1.cell (p := ⟨_, _, none⟩) lb).trans c2))⟩)
    (first | (go_at_call 53; refine (hcl.out _).mono ?_; rintro e w1 ⟨rfl, hb1⟩; have k1 := (hb1.cell (p := ⟨y.gn, k, none⟩) lgn).trans cgn; have k2 := (hb1.cell (p := ⟨y.gp, k, none⟩) lgp).trans cgp; have k3 := (hb1.frozen (p := ⟨y.gn, k, none⟩) lgn).trans fgn; have k4 := (hb1.frozen (p := ⟨y.gp, k, none⟩) lgp).trans fgp))
  go_wp2_with fail
  go_ret
  have hb2 : Below w2.heap.size w2 w1 := ⟨hb1.os, hb1.tape, hb1.output, hb1.size, hb1.block⟩
  refine ⟨rfl, (HE.out.below hb2).put k t hkn, ?_⟩
  exact ((HO.out.sub (by simp)).trans (.ofBelow hb2)).trans ((Only.setCell _ _ _ (by simp)).trans (Only.setCell _ _ _ (by simp)))

def Dev.writeE (D : Dev) (i : Int) (t : ByteArray) : Int := if D.ask i ≠ 0 then D.ask i else if t.size ≠ 128 then 2 else if D.dead then 61 else 0
def Dev.write (D : Dev) (i : Int) (t : ByteArray) : Dev := if D.writeE i t = 0 then D.acted.put i.toNat t else D

theorem write_any (h : DevAt B w b y D) (i : Int) (t : ByteArray) (_ht : t.size ≤ 9223372036854775807) (ha : D.acts < 1000000000000) :
    Calls Try.prog 58 #[.pointer (some ⟨b, 0, none⟩), .int .i64 i, .string t] w fun e w' => e = .returned (.int .i64 (D.writeE i t)) ∧ DevAt B w' b y (D.write i t) ∧ Only [b, y.gn, y.gp] w w' := by
  have hask := ask_any h i
  by_cases hi : i < 0 ∨ (D.kept.length : Int) ≤ i
  · have hk : D.ask i = 60 := by unfold Dev.ask; rw [if_pos hi]
    have e1 : D.writeE i t = 60 := by unfold Dev.writeE; rw [hk]; rfl
    have e2 : D.write i t = D := by unfold Dev.write; rw [e1]; rfl
    rw [e1, e2]
    rw [hk] at hask
    have HA := Lib.hid hask
    have HH := Lib.hid h
    clear h hask hi hk e1 e2
    go_enter Try.func58, Try.ntmps58
    go_wp2_with fail
    refine HA.out.mono ?_
    rintro e w' ⟨rfl, rfl⟩
    go_wp2_with fail
    go_ret
    exact ⟨rfl, HH.out, Only.refl _ _⟩
  · have hk : D.ask i = 0 := by unfold Dev.ask; rw [if_neg hi]
    by_cases hs : t.size = 128
    · cases hd : D.dead
      · obtain ⟨k, rfl⟩ := Int.eq_ofNat_of_zero_le (show 0 ≤ i by omega)
        have e1 : D.writeE k t = 0 := by unfold Dev.writeE; rw [hk, hs, hd]; rfl
        have e2 : D.write k t = D.acted.put k t := by unfold Dev.write; rw [e1]; rfl
        rw [e1, e2]
        exact write_ok h k t (by omega) hs hd ha
      · have e1 : D.writeE i t = 61 := by unfold Dev.writeE; rw [hk, hs, hd]; rfl
        have e2 : D.write i t = D := by unfold Dev.write; rw [e1]; rfl
        rw [e1, e2]
        have hact := act_any h ha
        rw [hd] at hact
        simp only [if_true] at hact
        rw [hk] at hask
        have HA := Lib.hid hask
        have HC := Lib.hid hact
        have HH := Lib.hid h
        clear h hask hact hi hk hd e1 e2 ha
        go_enter Try.func58, Try.ntmps58
        go_wp2_with fail
        refine HA.out.mono ?_
        rintro e w' ⟨rfl, rfl⟩
        go_wp2_with fail
        refine HC.out.mono ?_
        rintro e w' ⟨rfl, rfl⟩
        go_wp2_with fail
        go_ret
        exact ⟨rfl, HH.out, Only.refl _ _⟩
    · have e1 : D.writeE i t = 2 := by unfold Dev.writeE; rw [hk]; simp [hs]
      have e2 : D.write i t = D := by unfold Dev.write; rw [e1]; rfl
      rw [e1, e2]
      rw [hk] at hask
      have HA := Lib.hid hask
      have HH := Lib.hid h
      clear h hask hi hk e1 e2 ha
      go_enter Try.func58, Try.ntmps58
      go_wp2_with fail
      refine HA.out.mono ?_
      rintro e w' ⟨rfl, rfl⟩
      go_wp2_with fail
      go_ret
      exact ⟨rfl, HH.out, Only.refl _ _⟩

end Go.Proofs.Ytlickjaopbcanaa

namespace Go.Proofs.Ytlickjaopbcanaa
open Go Go.RowKit
variable {B b : Nat} {w : World} {y : Lay} {D : Dev}

def pendTo (l : List Bool) : Nat → List Nat
  | 0 => []
  | k + 1 => if l.getD k false then pendTo l k ++ [k] else pendTo l k
theorem pendTo_length (l : List Bool) (k : Nat) : (pendTo l k).length ≤ k := by
  induction k with
  | zero => exact Nat.le_refl _
  | succ k ih =>
    show (if l.getD k false = true then pendTo l k ++ [k] else pendTo l k).length ≤ k + 1
    split
    · rw [List.length_append]; simp; exact ih
    · omega
def natVs (l : List Nat) : List Value := l.map fun (n : Nat) => Value.int .i64 (n : Int)

theorem info_int : (Try.prog.info? 3).map (fun i => (i.zero, i.size, i.bytes)) = some (some (.int .i64 0), 1, 8) := by kernel_rfl

set_option maxHeartbeats 1000000 in
theorem pending_any (h : DevAt B w b y D) : Calls Try.prog 37 #[.pointer (some ⟨b, 0, none⟩)] w fun e w' =>
    ∃ v, e = .returned v ∧ w'.ownsRow w.heap.size 3 1 v (pendTo D.pend D.pend.length).length (natVs (pendTo D.pend D.pend.length)) ∧ Below w.heap.size w w' := by
  obtain ⟨i0, hi0, hz0, hz1, hz2⟩ := info_parts info_int
  have c2 := h.c2
  have hlen : D.pend.length = D.kept.length := by have := h.pend.1; simpa [bools] using this
  have hcell : ∀ k, k < D.kept.length → w.cell? ⟨y.gp, k, none⟩ = some (.bool (D.pend.getD k false)) := fun k hk => own_cellAt h.pend (by simp [bools, List.getD, hlen, hk])
  have hgp := (h.pend.lt _ rfl).2
  have hp := h.pos
  have HC := Lib.hid hcell
  rw [hlen]
  clear h hcell hlen
  generalize D.kept.length = n at *
  generalize D.pend = L at *
  go_enter Try.func37, Try.ntmps37
  go_wp2_with fail
  go_loopw [3, 13] (fun v q wr => ∃ (j : Nat) (u : Value), j ≤ n ∧ u = v ∧ q = .int .i64 j ∧ Hid (wr.ownsRow w.heap.size 3 1 u (pendTo L j).length (natVs (pendTo L j))) ∧ Below w.heap.size w wr) (fun _ q _ => n - (intOf q).toNat)
  case atStart => exact ⟨0, _, by omega, rfl, rfl, Lib.hid (World.ownsRow_nil _ _ _ _), Below.refl _ _⟩
  case round =>
    obtain ⟨j, v, hj, rfl, rfl, hg, hbw⟩ := hrel
    by_cases hlt : j < n
    · have hc := (hbw.cell (p := ⟨y.gp, j, none⟩) hgp).trans (HC.out j hlt)
      have i0' : (0 : Int) ≤ (j : Int) := by omega
      have i1 : (j : Int) < (n : Int) := by omega
      have hl := pendTo_length L j
      cases hb : L.getD j false
      · have hr : Hid (pendTo L (j + 1) = pendTo L j) := Lib.hid (by show (if L.getD j false = true then pendTo L j ++ [j] else pendTo L j) = _; rw [hb]; rfl)
        rw [hb] at hc
        clear hb
        go_wp2_with fail
        go_roundw
        case rel => exact ⟨j + 1, _, by omega, rfl, by go_num, by rw [hr.out]; exact hg, hbw⟩
        case measure => simp [intOf]; omega
      · have hr : Hid (pendTo L (j + 1) = pendTo L j ++ [j]) := Lib.hid (by show (if L.getD j false = true then pendTo L j ++ [j] else pendTo L j) = _; rw [hb]; rfl)
        rw [hb] at hc
        clear hb
        generalize pendTo L j = P at *
        have hone : ∀ u ∈ ([.int .i64 (j : Int)] : List Value), u.oneCell' = true := by simp [Value.oneCell']
        go_wp2_with (first
          | (at_builtin; refine wpList_append_own _ rfl _ _ 28 rfl w.heap.size 3 i0 (.int .i64 0) 1 8 Try.underlying28 hi0 hz0 hz1 hz2 rfl (by decide) _ P.length _ rfl (hg.out.alloc _) ⟨wr.heap.size, 0, none⟩ 1 1 [.int .i64 j] rfl rfl
              (World.news_of_block (heap_alloc_new _ _)) hone (by unfold maxLen; omega) (by omega) (by have := hbw.size; simp; omega) ?_))
        intro v' w1 hown hgrow _
        have hW : Below w.heap.size w w1 := (hbw.alloc hbw.size (.cells #[.int .i64 j] 3)).grown hgrow (by have := hbw.size; simp; omega) (fun k hk => (hg.out.lt k hk).1)
        have hG : Hid (w1.ownsRow w.heap.size 3 1 v' (P ++ [j]).length (natVs (P ++ [j]))) := Lib.hid (by
          have e : natVs (P ++ [j]) = natVs P ++ [.int .i64 (j : Int)] := by simp [natVs]
          rw [e, List.length_append]; exact hown)
        clear hown hgrow
        go_wp2_with fail
        go_roundw
        case rel => exact ⟨j + 1, v', by omega, rfl, by go_num, by rw [hr.out]; exact hG, hW⟩
        case measure => simp [intOf]; omega
    · obtain rfl : j = n := by omega
      go_wp2_with fail
      go_ret
      exact ⟨_, rfl, hg.out, hbw⟩

end Go.Proofs.Ytlickjaopbcanaa

namespace Go.Proofs.Ytlickjaopbcanaa
open Go Go.RowKit
variable {B b : Nat} {w : World} {y : Lay} {D : Dev}

theorem ownsRow_setCells {T : TypeId} {n g cap : Nat} : ∀ (vs : List Value) (o : Nat) (w : World) (xs : List Value), w.ownsRow B T 1 (.slice (some ⟨g, 0, none⟩) n cap) n xs →
    (w.setCells g o vs).ownsRow B T 1 (.slice (some ⟨g, 0, none⟩) n cap) n (List.foldl (fun (p : List Value × Nat) v => (p.1.set p.2 v, p.2 + 1)) (xs, o) vs).1 := by
  intro vs
  induction vs with
  | nil => intro o w xs h; exact h
  | cons v vs ih => intro o w xs h; exact ih (o + 1) _ _ (ownsRow_set h o v)
theorem ownsRow_setCells_other {T : TypeId} {n g gg cap : Nat} {xs : List Value} (hne : g ≠ gg) : ∀ (vs : List Value) (o : Nat) (w : World), w.ownsRow B T 1 (.slice (some ⟨g, 0, none⟩) n cap) n xs →
    (w.setCells gg o vs).ownsRow B T 1 (.slice (some ⟨g, 0, none⟩) n cap) n xs := by
  intro vs
  induction vs with
  | nil => intro o w h; exact h
  | cons v vs ih => intro o w h; exact ih (o + 1) _ (ownsRow_setCell_other h (by simp [Value.ownBlock]; exact hne) v)
theorem row_setCells_other {T : TypeId} {g gg : Nat} {xs : List Value} (hne : g ≠ gg) : ∀ (vs : List Value) (o : Nat) (w : World), Row w g T xs → Row (w.setCells gg o vs) g T xs := by
  intro vs
  induction vs with
  | nil => intro o w h; exact h
  | cons v vs ih => intro o w h; exact ih (o + 1) _ (h.other (fun e => hne e.symm) v)
theorem only_setCells {S : List Nat} {g : Nat} (hS : g ∈ S) : ∀ (vs : List Value) (o : Nat) (w : World), Only S w (w.setCells g o vs) := by
  intro vs
  induction vs with
  | nil => intro o w; exact Only.refl _ _
  | cons v vs ih => intro o w; exact (Only.setCell w _ v hS).trans (ih (o + 1) _)
theorem fold_set (vs : List Value) : ∀ (o : Nat) (xs : List Value), o + vs.length = xs.length → (List.foldl (fun (p : List Value × Nat) v => (p.1.set p.2 v, p.2 + 1)) (xs, o) vs).1 = xs.take o ++ vs := by
  induction vs with
  | nil => intro o xs h; simp at h ⊢; rw [List.take_of_length_le (by omega)]
  | cons v vs ih =>
    intro o xs h
    simp only [List.length_cons] at h
    rw [List.foldl_cons, ih (o + 1) (xs.set o v) (by simp; omega), List.take_succ_eq_append_getElem (by simp; omega), List.take_set_of_le (Nat.le_refl _)]
    simp

theorem own_same {T : TypeId} {n g cap : Nat} {xs : List Value} {w' : World} (h : w.ownsRow B T 1 (.slice (some ⟨g, 0, none⟩) n cap) n xs) (he : w'.heap[g]? = w.heap[g]?) : w'.ownsRow B T 1 (.slice (some ⟨g, 0, none⟩) n cap) n xs := by
  refine ⟨h.1, ?_⟩
  rcases h.2 with ⟨hv, _⟩ | ⟨g', cap', cur, hv, hb, hg, r⟩
  · cases hv
  · cases hv
    exact .inr ⟨g, cap, cur, rfl, hb, by rw [he]; exact hg, r⟩
theorem row_same {T : TypeId} {g : Nat} {xs : List Value} {w' : World} (h : Row w g T xs) (he : w'.heap[g]? = w.heap[g]?) : Row w' g T xs := by
  obtain ⟨fr, h, hf⟩ := h
  exact ⟨fr, by rw [he]; exact h, hf⟩

def Dev.flushed (D : Dev) : Dev := { D with kept := D.now, pend := List.replicate D.kept.length false }

/-- The kept row is laid over by what stands there. -/
theorem DevAt.copied (h : DevAt B w b y D) (cur : Array Value) (hg : w.heap[y.gk]? = some (.cells cur 9 (0, 0))) (_hsz : D.kept.length ≤ cur.size) :
    DevAt B (w.setRow y.gk (cur.toList.take 0 ++ (strs D.now ++ cur.toList.drop (0 + (strs D.now).length))).toArray) b y { D with kept := D.now } := by
  obtain ⟨n1, n2, n3, n4, n5, n6⟩ := h.ne
  have hl : D.now.length = D.kept.length := by have := h.now.1; simpa [strs] using this
  have hl2 : (strs D.now).length = D.kept.length := by simp [strs, hl]
  have ho : ∀ k, k ≠ y.gk → (w.setRow y.gk (cur.toList.take 0 ++ (strs D.now ++ cur.toList.drop (0 + (strs D.now).length))).toArray).heap[k]? = w.heap[k]? := fun k hk => setRow_other w _ k _ hk
  refine ⟨h.own, ?_, ?_, ?_, ?_, h.ne, by dsimp only; rw [hl]; exact h.pos, h.left, h.acts⟩
  · dsimp only; rw [hl]; exact row_same h.cells (ho _ n1)
  · dsimp only
    rw [hl]
    refine ⟨by simp [hl2], ?_⟩
    rcases h.kept.2 with ⟨hv, _⟩ | ⟨g', cap', cur', hv, hb, hg', r1, r2, r3, r4⟩
    · cases hv
    · cases hv
      rw [hg] at hg'
      cases hg'
      refine .inr ⟨y.gk, y.ck, _, rfl, hb, setRow_heap w _ _ _ _ _ hg, r1, r2, ?_, ?_⟩
      · simp [hl2]; omega
      · simp [hl2]
  · dsimp only; rw [hl]; exact own_same h.now (ho _ (fun e => n4 e.symm))
  · dsimp only; rw [hl]; exact own_same h.pend (ho _ (fun e => n5 e.symm))

theorem DevAt.cleared (h : DevAt B w b y D) : DevAt B (w.setCells y.gp 0 (List.replicate D.kept.length (.bool false))) b y { D with pend := List.replicate D.kept.length false } := by
  obtain ⟨n1, n2, n3, n4, n5, n6⟩ := h.ne
  refine ⟨h.own, row_setCells_other n3 _ _ _ h.cells, ownsRow_setCells_other n5 _ _ _ h.kept, ownsRow_setCells_other n6 _ _ _ h.now, ?_, h.ne, h.pos, h.left, h.acts⟩
  have := ownsRow_setCells (List.replicate D.kept.length (.bool false)) 0 w _ h.pend
  rw [fold_set _ _ _ (by have := h.pend.1; simpa using this.symm)] at this
  simpa [bools] using this

end Go.Proofs.Ytlickjaopbcanaa

namespace Go.Proofs.Ytlickjaopbcanaa
open Go Go.RowKit
variable {B b : Nat} {w : World} {y : Lay} {D : Dev}

set_option maxRecDepth 100000 in
set_option maxHeartbeats 1000000 in
theorem flush_ok (h : DevAt B w b y D) (hd : D.dead = false) (ha : D.acts < 1000000000000) :
    Calls Try.prog 57 #[.pointer (some ⟨b, 0, none⟩)] w fun e w' => e = .returned (.int .i64 0) ∧ DevAt B w' b y D.acted.flushed ∧ Only [b, y.gk, y.gp] w w' := by
  have hask := ask_any h 0
  have hk0 : D.ask 0 = 0 := by unfold Dev.ask; have := h.pos; rw [if_neg (by omega)]
  rw [hk0] at hask
  have hact := act_any h ha
  rw [hd] at hact
  simp only [Bool.false_eq_true, if_false] at hact
  have HASK := Lib.hid hask
  have HACT := Lib.hid hact
  clear h hask hact hk0 hd ha
  generalize D.acted = E at *
  go_enter Try.func57, Try.ntmps57
  go_wp2_with fail
  refine HASK.out.mono ?_
  rintro e w' ⟨rfl, rfl⟩
  go_wp2_with fail
  refine HACT.out.mono ?_
  rintro e w2 ⟨rfl, hE, hO⟩
  have c0 := hE.c0
  have c1 := hE.c1
  have HE := Lib.hid hE
  have HO := Lib.hid hO
  obtain ⟨cur, hcur, hsz⟩ : ∃ cur, w2.heap[y.gk]? = some (.cells cur 9 (0, 0)) ∧ E.kept.length ≤ cur.size := by
    rcases hE.kept.2 with ⟨hv, _⟩ | ⟨g', cap', cur', hv, hb, hg', r1, r2, r3, r4⟩
    · cases hv
    · cases hv; exact ⟨cur', hg', by omega⟩
  have hl2 : (strs E.now).length = E.kept.length := hE.now.1.trans (Nat.mul_one _)
  have hsrc : ∀ j v, (strs E.now)[j]? = some v → w2.cell? ((⟨y.gn, 0, none⟩ : Addr).add j) = some v := hE.now.cells rfl
  have hone : ∀ v ∈ strs E.now, v.oneCell' = true := by intro v hv; simp [strs] at hv; obtain ⟨_, _, rfl⟩ := hv; rfl
  have hEd : DevAt B w2.drew b y E := hE.below ⟨rfl, rfl, rfl, Nat.le_refl _, fun _ _ => rfl⟩
  have hcp := hEd.copied cur hcur hsz
  have hO3 : Only [b, y.gk, y.gp] w (w2.drew.setRow y.gk (cur.toList.take 0 ++ (strs E.now ++ cur.toList.drop (0 + (strs E.now).length))).toArray) :=
    (hO.sub (by simp)).trans ⟨rfl, rfl, rfl, by simp [World.setRow], fun k _ hn => setRow_other _ _ _ _ (fun e => hn (by simp [e]))⟩
  clear hE hO
  go_wp2_with fail
  go_still_tail 8, (by kernel_rfl)
  refine wpList_copy_own rfl _ _ 42 42 rfl 9 Try.underlying42 (by kernel_rfl) y.gk 0 E.kept.length y.ck ⟨y.gn, 0, none⟩ E.kept.length y.cn rfl rfl cur 9 hcur (strs E.now) (by rw [hl2]; simp) hsrc (by omega) hone ?_
  have he : cur.toList.take 0 ++ (strs E.now ++ cur.toList.drop (0 + (strs E.now).length)) = strs E.now ++ List.drop E.kept.length cur.toList := by simp [hl2]
  rw [he] at hcp hO3
  rw [he]
  have z2 := hcp.c2
  dsimp only at z2
  have HCL := Lib.hid hcp.cleared
  have hcl : ∀ ty, (Builtin.clear_ #[43] ty #[.slice (some ⟨y.gp, 0, none⟩) E.now.length y.cp]).run Try.prog (w2.drew.setRow y.gk (strs E.now ++ List.drop E.kept.length cur.toList).toArray) = .ok (.tuple #[]) ((w2.drew.setRow y.gk (strs E.now ++ List.drop E.kept.length cur.toList).toArray).setCells y.gp 0 (List.replicate E.now.length (.bool false))) := fun ty =>
    Lib.run_clear_slice (w2.drew.setRow y.gk (strs E.now ++ List.drop E.kept.length cur.toList).toArray) _ _ ty _ Try.underlying43 (fun _ => rfl) rfl rfl y.gp 0 _ _ hcp.pos.1 (fun j hj => by
      rw [Nat.zero_add, own_cellAt hcp.pend (List.getElem?_eq_getElem (by rw [hcp.pend.1]; simpa using hj))]; rfl) (fun j _ => by rw [Nat.zero_add]; exact ownsRow_free1 hcp.pend j)
  have hO4 : Only [b, y.gk, y.gp] w ((w2.drew.setRow y.gk (strs E.now ++ List.drop E.kept.length cur.toList).toArray).setCells y.gp 0 (List.replicate E.now.length (.bool false))) := hO3.trans (only_setCells (by simp) _ _ _)
  have hEn : E.now.length = E.kept.length := by rw [← hl2]; simp [strs]
  have HFL : Hid (DevAt B ((w2.drew.setRow y.gk (strs E.now ++ List.drop E.kept.length cur.toList).toArray).setCells y.gp 0 (List.replicate E.now.length (.bool false))) b y E.flushed) := Lib.hid (by
    have e : E.flushed = { E with kept := E.now, pend := List.replicate E.now.length false } := by unfold Dev.flushed; rw [hEn]
    rw [e]; exact HCL.out)
  have HO4 := Lib.hid hO4
  clear he
  clear hO4 hO3 hcp hEd hEn HCL HE HO hsrc hone
  go_wp2_with fail
  go_ret
  exact ⟨rfl, HFL.out, HO4.out⟩

def Dev.flushE (D : Dev) : Int := if D.dead then 61 else 0
def Dev.flush (D : Dev) : Dev := if D.dead then D else D.acted.flushed
theorem flush_any (h : DevAt B w b y D) (ha : D.acts < 1000000000000) :
    Calls Try.prog 57 #[.pointer (some ⟨b, 0, none⟩)] w fun e w' => e = .returned (.int .i64 D.flushE) ∧ DevAt B w' b y D.flush ∧ Only [b, y.gk, y.gp] w w' := by
  cases hd : D.dead
  · have e1 : D.flushE = 0 := by unfold Dev.flushE; rw [hd]; rfl
    have e2 : D.flush = D.acted.flushed := by unfold Dev.flush; rw [hd]; rfl
    rw [e1, e2]; exact flush_ok h hd ha
  · have e1 : D.flushE = 61 := by unfold Dev.flushE; rw [hd]; rfl
    have e2 : D.flush = D := by unfold Dev.flush; rw [hd]; rfl
    rw [e1, e2]
    have hask := ask_any h 0
    have hk0 : D.ask 0 = 0 := by unfold Dev.ask; have := h.pos; rw [if_neg (by omega)]
    rw [hk0] at hask
    have hact := act_any h ha
    rw [hd] at hact
    simp only [if_true] at hact
    have HASK := Lib.hid hask
    have HACT := Lib.hid hact
    have HH := Lib.hid h
    clear h hask hact hk0 hd ha e1 e2
    go_enter Try.func57, Try.ntmps57
    go_wp2_with fail
    refine HASK.out.mono ?_
    rintro e w' ⟨rfl, rfl⟩
    go_wp2_with fail
    refine HACT.out.mono ?_
    rintro e w' ⟨rfl, rfl⟩
    go_wp2_with fail
    go_ret
    exact ⟨rfl, HH.out, Only.refl _ _⟩

end Go.Proofs.Ytlickjaopbcanaa
