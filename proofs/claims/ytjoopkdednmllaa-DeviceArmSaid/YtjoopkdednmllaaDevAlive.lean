/- Laws of devices: alive. -/
import Derived.Test.YtjoopkdednmllaaDevPlayed
namespace Go.Proofs.Ytjoopkdednmllaa
open Go Go.RowKit
variable {B b : Nat} {w : World} {y : Lay} {D : Dev}

def blk (x : UInt8) : ByteArray := txt (List.replicate 128 x)
theorem blk_size (x : UInt8) : (blk x).size = 128 := by show (List.toArray _).size = _; simp
theorem zblock_blk : zblock = blk 0 := rfl

/-- A device that is not armed. -/
def plain (kept now : List ByteArray) (pend : List Bool) (left acts : Int) : Dev := ⟨kept, now, pend, false, left, acts⟩

theorem plain_write (kept now : List ByteArray) (pend : List Bool) (left acts : Int) (ii : Int) (i : Nat) (t : ByteArray) (hii : ii = (i : Int)) (hi : i < kept.length) (ht : t.size = 128) :
    (plain kept now pend left acts).writeE ii t = 0 ∧ (plain kept now pend left acts).write ii t = plain kept (now.set i t) (pend.set i true) (wrap64 (left - 1)) (acts + 1) := by
  subst hii
  have h1 : (plain kept now pend left acts).writeE i t = 0 := by
    unfold Dev.writeE Dev.ask
    have : ¬ ((i : Int) < 0 ∨ ((plain kept now pend left acts).kept.length : Int) ≤ (i : Int)) := by show ¬ (_ ∨ (kept.length : Int) ≤ _); omega
    rw [if_neg this]
    simp [ht, Dev.dead, plain]
  refine ⟨h1, ?_⟩
  unfold Dev.write
  rw [if_pos h1]
  rfl
theorem plain_flush (kept now : List ByteArray) (pend : List Bool) (left acts : Int) :
    (plain kept now pend left acts).flushE = 0 ∧ (plain kept now pend left acts).flush = plain now now (List.replicate kept.length false) (wrap64 (left - 1)) (acts + 1) := ⟨rfl, rfl⟩

theorem intsIn_own {n : Nat} {T : TypeId} {ad : Option Addr} {cap : Nat} {l : List Nat} (h : w.ownsRow B T 1 (.slice ad n cap) n (natVs l)) : IntsIn w ad (l.map fun (n : Nat) => (n : Int)) := by
  intro i hi
  rw [List.length_map] at hi
  have hn : l.length = n := by have := h.1; simpa [natVs] using this
  obtain ⟨g, c, e⟩ := own_some h (by omega)
  cases e
  refine ⟨g, 0, rfl, ?_⟩
  rw [Nat.zero_add]
  refine own_cellAt h ?_
  simp [natVs, List.getD, hi]

theorem alive_dev : ∃ k0 k1 k2 k3 k4 : Dev, zeros 3 = k0 ∧ k0.write 1 (blk 97) = k1 ∧ k1.flush = k2 ∧ k2.write 1 (blk 98) = k3 ∧ k3.write 0 (blk 99) = k4 := ⟨_, _, _, _, _, rfl, rfl, rfl, rfl, rfl⟩

def A0 : Dev := plain [blk 0, blk 0, blk 0] [blk 0, blk 0, blk 0] [false, false, false] 0 0
def A1 : Dev := plain [blk 0, blk 0, blk 0] [blk 0, blk 97, blk 0] [false, true, false] (wrap64 (0 - 1)) 1
def A2 : Dev := plain [blk 0, blk 97, blk 0] [blk 0, blk 97, blk 0] [false, false, false] (wrap64 (wrap64 (0 - 1) - 1)) 2
def A3 : Dev := plain [blk 0, blk 97, blk 0] [blk 0, blk 98, blk 0] [false, true, false] (wrap64 (wrap64 (wrap64 (0 - 1) - 1) - 1)) 3
def A4 : Dev := plain [blk 0, blk 97, blk 0] [blk 99, blk 98, blk 0] [true, true, false] (wrap64 (wrap64 (wrap64 (wrap64 (0 - 1) - 1) - 1) - 1)) 4
theorem A0_eq : zeros 3 = A0 := rfl
theorem A1_eq : A0.writeE 1 (blk 97) = 0 ∧ A0.write 1 (blk 97) = A1 := plain_write [blk 0, blk 0, blk 0] [blk 0, blk 0, blk 0] [false, false, false] 0 0 1 1 (blk 97) rfl (Nat.lt_of_sub_eq_succ rfl) (blk_size _)
theorem A2_eq : A1.flushE = 0 ∧ A1.flush = A2 := plain_flush [blk 0, blk 0, blk 0] [blk 0, blk 97, blk 0] _ _ 1
theorem A3_eq : A2.writeE 1 (blk 98) = 0 ∧ A2.write 1 (blk 98) = A3 := plain_write [blk 0, blk 97, blk 0] [blk 0, blk 97, blk 0] [false, false, false] _ 2 1 1 (blk 98) rfl (Nat.lt_of_sub_eq_succ rfl) (blk_size _)
theorem A4_eq : A3.writeE 0 (blk 99) = 0 ∧ A3.write 0 (blk 99) = A4 := plain_write [blk 0, blk 97, blk 0] [blk 0, blk 98, blk 0] [false, true, false] _ 3 0 0 (blk 99) rfl (Nat.lt_of_sub_eq_succ rfl) (blk_size _)
theorem A4_read : A4.readS 1 = blk 98 ∧ A4.ask 1 = 0 := ⟨rfl, rfl⟩
theorem A4_pend : pendTo A4.pend A4.pend.length = [0, 1] := rfl
theorem A4_kept : txt (cat A4.kept) = blk 0 ++ blk 97 ++ blk 0 := by
  unfold blk
  rw [txt_append, txt_append]
  simp [cat, A4, plain, blk, txt]
theorem A4_crash : txt (cat (A4.crash [false, true])) = blk 0 ++ blk 98 ++ blk 0 := by
  have h : A4.crash [false, true] = [blk 0, blk 98, blk 0] := rfl
  rw [h]
  unfold blk
  rw [txt_append, txt_append]
  simp [cat, txt]
theorem A4_dead : A4.dead = false := rfl
theorem A4_sized : sized A4.kept ∧ sized A4.now := by
  constructor <;> (intro s hs; simp [A4, plain] at hs; rcases hs with rfl | rfl | rfl <;> exact blk_size _)

end Go.Proofs.Ytjoopkdednmllaa
