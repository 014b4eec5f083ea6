/- Devices in memory: what a device is; its small methods that only read. -/
import Derived.Test.YtjoopkdednmllaaRow
import Derived.Test.YtjoopkdednmllaaProg
import Derived.WalkKit
import Derived.Deep.QuietTactic
import Derived.BigQuiet
namespace Go.Proofs.Ytjoopkdednmllaa
open Go Go.RowKit

structure Dev where
  kept : List ByteArray
  now : List ByteArray
  pend : List Bool
  armed : Bool
  left : Int
  acts : Int
/-- Where a device's rows lie. -/
structure Lay where
  gk : Nat
  ck : Nat
  gn : Nat
  cn : Nat
  gp : Nat
  cp : Nat

def strs (l : List ByteArray) : List Value := l.map Value.string
def bools (l : List Bool) : List Value := l.map Value.bool

structure DevAt (B : Nat) (w : World) (b : Nat) (y : Lay) (D : Dev) : Prop where
  own : B ≤ b
  cells : Row w b 52 [.slice (some ⟨y.gk, 0, none⟩) D.kept.length y.ck, .slice (some ⟨y.gn, 0, none⟩) D.kept.length y.cn, .slice (some ⟨y.gp, 0, none⟩) D.kept.length y.cp, .bool D.armed, .int .i64 D.left, .int .i64 D.acts]
  kept : w.ownsRow B 9 1 (.slice (some ⟨y.gk, 0, none⟩) D.kept.length y.ck) D.kept.length (strs D.kept)
  now : w.ownsRow B 9 1 (.slice (some ⟨y.gn, 0, none⟩) D.kept.length y.cn) D.kept.length (strs D.now)
  pend : w.ownsRow B 4 1 (.slice (some ⟨y.gp, 0, none⟩) D.kept.length y.cp) D.kept.length (bools D.pend)
  ne : b ≠ y.gk ∧ b ≠ y.gn ∧ b ≠ y.gp ∧ y.gk ≠ y.gn ∧ y.gk ≠ y.gp ∧ y.gn ≠ y.gp
  pos : 0 < D.kept.length ∧ D.kept.length ≤ 4096
  left : -9223372036854775808 ≤ D.left ∧ D.left ≤ 9223372036854775807
  acts : 0 ≤ D.acts ∧ D.acts ≤ 1000000000000

variable {B b : Nat} {w : World} {y : Lay} {D : Dev}
theorem DevAt.c0 (h : DevAt B w b y D) : w.cell? ⟨b, 0, none⟩ = some (.slice (some ⟨y.gk, 0, none⟩) D.kept.length y.ck) := h.cells.cellAt 0 rfl
theorem DevAt.c1 (h : DevAt B w b y D) : w.cell? ⟨b, 1, none⟩ = some (.slice (some ⟨y.gn, 0, none⟩) D.kept.length y.cn) := h.cells.cellAt 1 rfl
theorem DevAt.c2 (h : DevAt B w b y D) : w.cell? ⟨b, 2, none⟩ = some (.slice (some ⟨y.gp, 0, none⟩) D.kept.length y.cp) := h.cells.cellAt 2 rfl
theorem DevAt.c3 (h : DevAt B w b y D) : w.cell? ⟨b, 3, none⟩ = some (.bool D.armed) := h.cells.cellAt 3 rfl
theorem DevAt.c4 (h : DevAt B w b y D) : w.cell? ⟨b, 4, none⟩ = some (.int .i64 D.left) := h.cells.cellAt 4 rfl
theorem DevAt.c5 (h : DevAt B w b y D) : w.cell? ⟨b, 5, none⟩ = some (.int .i64 D.acts) := h.cells.cellAt 5 rfl

theorem blocks_any (h : DevAt B w b y D) : Calls Try.prog 29 #[.pointer (some ⟨b, 0, none⟩)] w fun e w' => e = .returned (.int .i64 D.kept.length) ∧ w = w' := by
  have c0 := h.c0
  have hp := h.pos
  clear h
  go_enter Try.func29, Try.ntmps29
  go_wp2_with fail
  go_ret
  exact ⟨rfl, rfl⟩

theorem acts_any (h : DevAt B w b y D) : Calls Try.prog 28 #[.pointer (some ⟨b, 0, none⟩)] w fun e w' => e = .returned (.int .i64 D.acts) ∧ w = w' := by
  have c0 := h.c5
  clear h
  go_enter Try.func28, Try.ntmps28
  go_wp2_with fail
  go_ret
  exact ⟨rfl, rfl⟩

/-- Is nothing done any more? -/
def Dev.dead (D : Dev) : Bool := D.armed && decide (D.left ≤ 0)
theorem dead_any (h : DevAt B w b y D) : Calls Try.prog 26 #[.pointer (some ⟨b, 0, none⟩)] w fun e w' => e = .returned (.bool D.dead) ∧ w = w' := by
  have c3 := h.c3
  have c4 := h.c4
  have hb := h.left
  clear h
  unfold Dev.dead
  obtain ⟨_, _, _, armed, left, _⟩ := D
  dsimp only at c3 c4 hb ⊢
  cases armed
  · go_enter Try.func26, Try.ntmps26
    go_wp2_with fail
    go_ret
    exact ⟨rfl, rfl⟩
  · go_enter Try.func26, Try.ntmps26
    go_wp2_with fail
    go_ret
    exact ⟨by first | rfl | simp, rfl⟩

/-- Why a block is none. -/
def Dev.ask (D : Dev) (i : Int) : Int := if i < 0 ∨ (D.kept.length : Int) ≤ i then 60 else 0
theorem ask_any (h : DevAt B w b y D) (i : Int) : Calls Try.prog 43 #[.pointer (some ⟨b, 0, none⟩), .int .i64 i] w fun e w' => e = .returned (.int .i64 (D.ask i)) ∧ w = w' := by
  have hb := Lib.hid (blocks_any h)
  have hp := h.pos
  clear h
  unfold Dev.ask
  generalize D.kept.length = n at *
  by_cases h0 : i < 0
  · rw [if_pos (.inl h0)]
    go_enter Try.func43, Try.ntmps43
    go_wp2_with fail
    refine hb.out.mono ?_
    rintro e w' ⟨rfl, rfl⟩
    go_wp2_with fail
    go_ret
    exact ⟨rfl, rfl⟩
  · by_cases h1 : (n : Int) ≤ i
    · rw [if_pos (.inr h1)]
      go_enter Try.func43, Try.ntmps43
      go_wp2_with fail
      refine hb.out.mono ?_
      rintro e w' ⟨rfl, rfl⟩
      go_wp2_with fail
      go_ret
      exact ⟨rfl, rfl⟩
    · rw [if_neg (by omega)]
      go_enter Try.func43, Try.ntmps43
      go_wp2_with fail
      refine hb.out.mono ?_
      rintro e w' ⟨rfl, rfl⟩
      go_wp2_with fail
      go_ret
      exact ⟨rfl, rfl⟩

end Go.Proofs.Ytjoopkdednmllaa
