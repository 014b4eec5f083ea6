/- Devices: what writes to them; Read, act, Arm. -/
import Derived.Test.YtjoopkdednmllaaDev
namespace Go.Proofs.Ytjoopkdednmllaa
open Go Go.RowKit

/-- Of what was there only the blocks S have turned. -/
structure Only (S : List Nat) (w w' : World) : Prop where
  os : w'.os = w.os
  tape : w'.tape = w.tape
  output : w'.output = w.output
  size : w.heap.size ≤ w'.heap.size
  block : ∀ k, k < w.heap.size → k ∉ S → w'.heap[k]? = w.heap[k]?
theorem Only.refl (S : List Nat) (w : World) : Only S w w := ⟨rfl, rfl, rfl, Nat.le_refl _, fun _ _ _ => rfl⟩
theorem Only.trans {S : List Nat} {a b c : World} (h : Only S a b) (k : Only S b c) : Only S a c :=
  ⟨k.os.trans h.os, k.tape.trans h.tape, k.output.trans h.output, Nat.le_trans h.size k.size, fun i hi hs => (k.block i (Nat.lt_of_lt_of_le hi h.size) hs).trans (h.block i hi hs)⟩
theorem Only.sub {S T : List Nat} {a b : World} (h : Only S a b) (hs : ∀ k ∈ S, k ∈ T) : Only T a b :=
  ⟨h.os, h.tape, h.output, h.size, fun i hi hn => h.block i hi (fun h2 => hn (hs i h2))⟩
theorem Only.ofBelow {S : List Nat} {a b : World} (h : Below a.heap.size a b) : Only S a b := ⟨h.os, h.tape, h.output, h.size, fun k hk _ => h.block k hk⟩
theorem Only.below {S : List Nat} {B : Nat} {a b : World} (h : Only S a b) (hB : B ≤ a.heap.size) (hs : ∀ k ∈ S, B ≤ k) : Below B a b :=
  ⟨h.os, h.tape, h.output, h.size, fun k hk => h.block k (by omega) (fun h2 => by have := hs k h2; omega)⟩
theorem Only.setCell {S : List Nat} (w : World) (p : Addr) (u : Value) (h : p.block ∈ S) : Only S w (w.setCell p u) :=
  ⟨rfl, rfl, rfl, by simp, fun k _ hn => Below.heap_setCell _ _ _ _ (fun e => hn (e ▸ h))⟩
theorem Only.drew {S : List Nat} {a b : World} (h : Only S a b) : Only S a b.drew := ⟨h.os, h.tape, h.output, h.size, h.block⟩

variable {B b : Nat} {w : World} {y : Lay} {D : Dev}

theorem DevAt.field (h : DevAt B w b y D) (k : Nat) (v : Value) (D' : Dev) (h1 : D'.kept = D.kept) (h2 : D'.now = D.now) (h3 : D'.pend = D.pend)
    (hc : Row (w.setCell ⟨b, k, none⟩ v) b 52 [.slice (some ⟨y.gk, 0, none⟩) D'.kept.length y.ck, .slice (some ⟨y.gn, 0, none⟩) D'.kept.length y.cn, .slice (some ⟨y.gp, 0, none⟩) D'.kept.length y.cp, .bool D'.armed, .int .i64 D'.left, .int .i64 D'.acts])
    (hl : -9223372036854775808 ≤ D'.left ∧ D'.left ≤ 9223372036854775807) (ha : 0 ≤ D'.acts ∧ D'.acts ≤ 1000000000000) : DevAt B (w.setCell ⟨b, k, none⟩ v) b y D' := by
  obtain ⟨n1, n2, n3, _⟩ := h.ne
  refine ⟨h.own, hc, ?_, ?_, ?_, h.ne, by rw [h1]; exact h.pos, hl, ha⟩
  · rw [h1]; exact ownsRow_setCell_other h.kept (by simp [Value.ownBlock]; exact fun e => n1 e.symm) _
  · rw [h1, h2]; exact ownsRow_setCell_other h.now (by simp [Value.ownBlock]; exact fun e => n2 e.symm) _
  · rw [h1, h3]; exact ownsRow_setCell_other h.pend (by simp [Value.ownBlock]; exact fun e => n3 e.symm) _

def Dev.acted (D : Dev) : Dev := { D with left := wrap64 (D.left - 1), acts := D.acts + 1 }

theorem DevAt.acted (h : DevAt B w b y D) (ha : D.acts < 1000000000000) : DevAt B ((w.setCell ⟨b, 4, none⟩ (.int .i64 (wrap64 (D.left - 1)))).setCell ⟨b, 5, none⟩ (.int .i64 (D.acts + 1))) b y D.acted := by
  have hw : -9223372036854775808 ≤ wrap64 (D.left - 1) ∧ wrap64 (D.left - 1) ≤ 9223372036854775807 := by unfold wrap64; omega
  have h1 : DevAt B (w.setCell ⟨b, 4, none⟩ (.int .i64 (wrap64 (D.left - 1)))) b y { D with left := wrap64 (D.left - 1) } :=
    h.field 4 _ _ rfl rfl rfl (h.cells.set 4 _) hw h.acts
  exact h1.field 5 _ _ rfl rfl rfl (h1.cells.set 5 _) hw (by have := h.acts; dsimp only [Dev.acted]; omega)

theorem act_any (h : DevAt B w b y D) (ha : D.acts < 1000000000000) : Calls Try.prog 44 #[.pointer (some ⟨b, 0, none⟩)] w fun e w' =>
    if D.dead then e = .returned (.int .i64 61) ∧ w = w' else e = .returned (.int .i64 0) ∧ DevAt B w' b y D.acted ∧ Only [b] w w' := by
  have hd := Lib.hid (dead_any h)
  have hA := Lib.hid (h.acted ha)
  cases hdead : D.dead
  · rw [hdead] at hd
    have c4 := h.c4
    have c5 := h.c5
    have f4 := h.cells.free 4 (by simp)
    have f5 := h.cells.free 5 (by simp)
    have hac := h.acts
    clear h hdead
    simp only [Bool.false_eq_true, if_false]
    generalize D.acted = D2 at *
    obtain ⟨_, _, _, armed, left, acts⟩ := D
    dsimp only at c4 c5 hac hA ha
    go_enter Try.func44, Try.ntmps44
    go_wp2_with fail
    refine hd.out.mono ?_
    rintro e w' ⟨rfl, rfl⟩
    go_wp2_with fail
    go_ret
    exact ⟨rfl, hA.out, (Only.setCell _ _ _ (by simp)).trans (Only.setCell _ _ _ (by simp))⟩
  · rw [hdead] at hd
    clear h hdead hA
    simp only [if_true]
    go_enter Try.func44, Try.ntmps44
    go_wp2_with fail
    refine hd.out.mono ?_
    rintro e w' ⟨rfl, rfl⟩
    go_wp2_with fail
    go_ret
    exact ⟨rfl, rfl⟩

end Go.Proofs.Ytjoopkdednmllaa
