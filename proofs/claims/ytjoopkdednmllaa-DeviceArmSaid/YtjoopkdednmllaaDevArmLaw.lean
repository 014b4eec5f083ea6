/- The law DeviceArm: its walk. -/
import Derived.Test.YtjoopkdednmllaaDevFlushLaw
namespace Go.Proofs.Ytjoopkdednmllaa
open Go Go.RowKit
variable {B b : Nat} {w : World} {y : Lay} {D : Dev}

theorem own_only {S : List Nat} {w' : World} {n g cap : Nat} {T : TypeId} {xs : List Value} (h : w.ownsRow B T 1 (.slice (some ⟨g, 0, none⟩) n cap) n xs) (ho : Only S w w') (hn : g ∉ S) : w'.ownsRow B T 1 (.slice (some ⟨g, 0, none⟩) n cap) n xs :=
  own_same h (ho.block g (h.lt _ rfl).2 hn)
/-- What is done elsewhere leaves a device. -/
theorem DevAt.only {S : List Nat} {w' : World} (h : DevAt B w b y D) (ho : Only S w w') (h1 : b ∉ S) (h2 : y.gk ∉ S) (h3 : y.gn ∉ S) (h4 : y.gp ∉ S) : DevAt B w' b y D :=
  ⟨h.own, row_same h.cells (ho.block b h.cells.lt h1), own_only h.kept ho h2, own_only h.now ho h3, own_only h.pend ho h4, h.ne, h.pos, h.left, h.acts⟩

/-- An armed device, and one that is not, that have done the same. -/
structure Twin (D C : Dev) (n done : Nat) : Prop where
  kept : D.kept = C.kept
  now : D.now = C.now
  pend : D.pend = C.pend
  da : D.armed = true
  ca : C.armed = false
  left : D.left = (n : Int) - done
  dacts : D.acts = done
  cacts : C.acts = done
  le : done ≤ n

theorem Twin.dead {D C : Dev} {n done : Nat} (h : Twin D C n done) : D.dead = decide (done = n) := by
  unfold Dev.dead
  rw [h.da, h.left, Bool.true_and]
  have := h.le
  by_cases hd : done = n
  · rw [decide_eq_true hd, decide_eq_true (by omega)]
  · rw [decide_eq_false hd, decide_eq_false (by omega)]
theorem Twin.cdead {D C : Dev} {n done : Nat} (h : Twin D C n done) : C.dead = false := by unfold Dev.dead; rw [h.ca]; rfl
theorem Twin.ask {D C : Dev} {n done : Nat} (h : Twin D C n done) (i : Int) : D.ask i = C.ask i := by unfold Dev.ask; rw [h.kept]

/-- All acts are done: nothing turns. -/
theorem Twin.over_write {D C : Dev} {n : Nat} (h : Twin D C n n) (i : Int) (t : ByteArray) : D.writeE i t ≠ 0 ∧ D.write i t = D := by
  have hd : D.dead = true := by rw [h.dead]; simp
  have h1 : D.writeE i t ≠ 0 := by
    unfold Dev.writeE
    rw [hd]
    split
    · assumption
    · split
      · decide
      · simp
  refine ⟨h1, ?_⟩
  unfold Dev.write; rw [if_neg h1]
theorem Twin.over_flush {D C : Dev} {n : Nat} (h : Twin D C n n) : D.flushE = 61 ∧ D.flush = D := by
  have hd : D.dead = true := by rw [h.dead]; simp
  exact ⟨(flush_dead D hd).2, (flush_dead D hd).1⟩
theorem Twin.write {D C : Dev} {n done : Nat} (h : Twin D C n done) (hlt : done < n) (hn : n < 1000) (i : Int) (t : ByteArray) : D.writeE i t = C.writeE i t ∧ (D.writeE i t ≠ 0 → Twin (D.write i t) (C.write i t) n done) ∧ (D.writeE i t = 0 → Twin (D.write i t) (C.write i t) n (done + 1)) := by
  have hd : D.dead = false := by rw [h.dead]; simp; omega
  have he : D.writeE i t = C.writeE i t := by unfold Dev.writeE; rw [hd, h.cdead, h.ask]
  refine ⟨he, fun h0 => ?_, fun h0 => ?_⟩
  · have e1 : D.write i t = D := by unfold Dev.write; rw [if_neg h0]
    have e2 : C.write i t = C := by unfold Dev.write; rw [if_neg (by rw [← he]; exact h0)]
    rw [e1, e2]; exact h
  · have e1 : D.write i t = D.acted.put i.toNat t := by unfold Dev.write; rw [if_pos h0]
    have e2 : C.write i t = C.acted.put i.toNat t := by unfold Dev.write; rw [if_pos (by rw [← he]; exact h0)]
    rw [e1, e2]
    refine ⟨h.kept, by show D.now.set _ _ = C.now.set _ _; rw [h.now], by show D.pend.set _ _ = C.pend.set _ _; rw [h.pend], h.da, h.ca, ?_, ?_, ?_, by omega⟩
    · show wrap64 (D.left - 1) = _; rw [h.left]; unfold wrap64; omega
    · show D.acts + 1 = _; rw [h.dacts]; omega
    · show C.acts + 1 = _; rw [h.cacts]; omega
theorem Twin.flush {D C : Dev} {n done : Nat} (h : Twin D C n done) (hlt : done < n) (hn : n < 1000) : D.flushE = 0 ∧ C.flushE = 0 ∧ Twin D.flush C.flush n (done + 1) := by
  have hd : D.dead = false := by rw [h.dead]; simp; omega
  have e1 : D.flush = D.acted.flushed := by unfold Dev.flush; rw [hd]; rfl
  have e2 : C.flush = C.acted.flushed := by unfold Dev.flush; rw [h.cdead]; rfl
  refine ⟨by unfold Dev.flushE; rw [hd]; rfl, by unfold Dev.flushE; rw [h.cdead]; rfl, ?_⟩
  rw [e1, e2]
  refine ⟨h.now, h.now, by show List.replicate _ _ = List.replicate _ _; rw [show D.acted.kept = C.acted.kept from h.kept], h.da, h.ca, ?_, ?_, ?_, by omega⟩
  · show wrap64 (D.left - 1) = _; rw [h.left]; unfold wrap64; omega
  · show D.acts + 1 = _; rw [h.dacts]; omega
  · show C.acts + 1 = _; rw [h.cacts]; omega

end Go.Proofs.Ytjoopkdednmllaa
