/- Small laws for the step from a law's walk to its row: what a parameter of each kind is. -/
import Derived.Test.YtgjmeeiejcbjfaaGreatRows
import Derived.WalkKit
import Derived.ProofKit
import Derived.OpenShut
import Derived.ShutString
import Derived.ChangeOld
import Derived.Below
import Derived.Lib.SmallJoins
import Derived.Laws.IdiomArrays
import Derived.Deep.Slices
set_option linter.unusedSimpArgs false
set_option linter.unusedVariables false
namespace Go.Proofs.YtgjmeeiejcbjfaaGreat
open Go Go.ChangeShapes Go.WideShapes Go.ChangeAt Go.RowKit
open Go.ChangeMaps (open_string shut_string)
theorem own : ownKnob Tryz.prog.godebug = none := by kernel_rfl
theorem laidOut : laidOutB Tryz.prog = true := by kernel_rfl
section
variable {H : Type} {enc : TypeId × Value → H} {P : Program} {w : World} {base : Nat} {spare : Nat → Bool} {held : Bool}
theorem trod_int1 {t : TypeId} {k : IntKind} {fuel : Nat} {v : Value} {x : DataW H × List MemPlace} (ht : P.underlying t = some (.int k)) (h : DataW.trod enc P w base spare held fuel t [v] = some x) :
  ∃ n, v = .int k n ∧ (Lit.int k n).wf = true := by
 obtain ⟨n, h1, _, hw⟩ := DataW.trod_int ht h
 exact ⟨n, by simpa using h1, hw⟩
end
end Go.Proofs.YtgjmeeiejcbjfaaGreat
namespace Go.Proofs.YtgjmeeiejcbjfaaGreat
open Go Go.ChangeShapes Go.WideShapes Go.ChangeAt Go.RowKit
def CellsIn (w : World) (ad : Option Addr) (cs : List Value) : Prop := ∀ j v, cs[j]? = some v → ∃ g off, ad = some ⟨g, off, none⟩ ∧ w.cell? ⟨g, off + j, none⟩ = some v
theorem below_drewN {B : Nat} {w w' : World} (h : Below B w w') (k : Nat) : Below B w (w'.drewN k) := ⟨h.os, h.tape, h.output, h.size, h.block⟩
theorem CellsIn.below {w w' : World} {ad : Option Addr} {cs : List Value} (h : CellsIn w ad cs) (hb : Below w.heap.size w w') : CellsIn w' ad cs := by
 intro j v hj
 obtain ⟨g, off, e, hc⟩ := h j v hj
 exact ⟨g, off, e, (hb.cell (p := ⟨g, off + j, none⟩) (World.block_lt_of_cell? w _ hc)).trans hc⟩
section
variable {H : Type} {enc : TypeId × Value → H} {P : Program} {w : World} {base : Nat} {spare : Nat → Bool} {held : Bool}
theorem read_slice {t e : TypeId} {c fuel : Nat} {v : Value} {x : DataW H × List MemPlace} (ht : P.underlying t = some (.slice e)) (hc : P.cellsOf e = c) (h0 : 0 < c)
  (h : DataW.trod enc P w base spare held fuel t [v] = some x) :
  ∃ (ad : Option Addr) (len cap : Nat) (E : Nat → List Value), v = .slice ad len cap ∧ len ≤ cap ∧ cap ≤ maxLen ∧ ∀ i, i < len → (E i).length = c ∧ (∀ k u, (E i)[k]? = some u → ∃ g off, ad = some ⟨g, off, none⟩ ∧ w.cell? ⟨g, off + (i * c + k), none⟩ = some u) ∧
   ∃ n y, DataW.trod enc P w base spare held n e (E i) = some y := by
 rcases Deep.open_slice ht h with ⟨h1, _⟩ | ⟨a, len, cap, m, n, D, Pl, h1, hb, hl, hm, hmm, _, hx⟩
 ·cases h1
  exact ⟨none, 0, 0, fun _ => [], rfl, Nat.le_refl _, Nat.zero_le _, fun i hi => absurd hi (Nat.not_lt_zero _)⟩
 ·cases h1
  have hlm : len ≤ m := by rw [hmm]; split <;> omega
  obtain ⟨E, hE⟩ := Deep.choose_lt (α := List Value) (p := fun i cs' => w.cells? base (a.add (i * P.cellsOf e)) (P.cellsOf e) = some cs' ∧ ∃ n y, DataW.trod enc P w base spare held n e cs' = some y) (fun i hi => by
   obtain ⟨cs', h1, h2⟩ := hx i hi
   exact ⟨cs', h1, n, _, h2⟩)
  refine ⟨some a, len, cap, E, rfl, hl, hm, fun i hi => ?_⟩
  obtain ⟨h1, h2⟩ := hE i (by omega)
  rw [hc] at h1
  obtain ⟨_, h3, h4⟩ := World.cells?_some h1
  refine ⟨h3, fun k u hk => ?_, h2⟩
  have hkl : k < c := by rw [← h3]; exact (List.getElem?_eq_some_iff.1 hk).1
  have h5 := h4 k hkl
  rw [hk, Deep.add_add] at h5
  have hsp : a.spot = none := by
   obtain ⟨_, _, h4'⟩ := World.cells?_some (hE 0 (by omega)).1
   have h6 := h4' 0 (by omega)
   rw [Deep.add_add] at h6
   simp only [Nat.zero_mul, Nat.add_zero] at h6
   have h7 : ((E 0)[0]?).isSome = true := by
    obtain ⟨h8, _⟩ := hE 0 (by omega)
    rw [hc] at h8
    obtain ⟨_, h9, _⟩ := World.cells?_some h8
    simp [h9, h0]
   rw [← h6] at h7
   obtain ⟨b, off, sp⟩ := a
   cases sp with
   | none => rfl
   | some s =>
    simp only [Addr.add, if_pos, World.cell?] at h7
    split at h7 <;> simp at h7
  refine ⟨a.block, a.off, ?_, ?_⟩
  ·obtain ⟨b, off, sp⟩ := a; simp only at hsp; subst hsp; rfl
  ·have e1 : a.add (i * c + k) = ⟨a.block, a.off + (i * c + k), none⟩ := by
    unfold Addr.add
    split
    ·rename_i h; obtain ⟨b, off, sp⟩ := a; simp only at hsp; subst hsp; simp only [Addr.mk.injEq, true_and, and_true]; omega
    ·rfl
   rw [← e1]; exact h5
theorem read_field {fs : Array Field} {t : TypeId} {cs : List Value} {fuel : Nat} {x : DataW H × List MemPlace} (ht : P.underlying t = some (.struct fs)) (h : DataW.trod enc P w base spare held fuel t cs = some x) (i : Nat) (f : Field) (hf : fs[i]? = some f)
  (o c : Nat) (ho : f.offset = o) (hc : P.cellsOf f.type = c) : ∃ n y, DataW.trod enc P w base spare held n f.type ((cs.drop o).take c) = some y := by
 obtain ⟨xs, n, _, _, _, hl, hx⟩ := DataW.trod_struct ht h
 subst ho; subst hc
 have h1 := hx i f hf
 have h2 : i < fs.size := (Array.getElem?_eq_some_iff.1 hf).1
 rw [List.getElem?_eq_getElem (by omega)] at h1
 exact ⟨n, _, h1⟩
end
end Go.Proofs.YtgjmeeiejcbjfaaGreat
