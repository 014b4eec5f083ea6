/- Rows of exts that a law is handed. -/
import Derived.Test.YtgjmeeiejcbjfaaGreatH01
import Derived.Test.YtgjmeeiejcbjfaaGreatH05
set_option linter.unusedSimpArgs false
set_option linter.unusedVariables false
namespace Go.Proofs.YtgjmeeiejcbjfaaGreat
open Go Go.ChangeShapes Go.WideShapes Go.ChangeAt Go.RowKit
section
variable {H : Type} {enc : TypeId × Value → H} {w : World} {base : Nat} {spare : Nat → Bool} {held : Bool}
theorem slice_spotE {P : Program} {r : Reach} {b0 : Nat} {t e : TypeId} {ad : Option Addr} {len cap : Nat} (ht : P.underlying t = some (.slice e)) (h : Value.okWide P w r b0 t (.slice ad len cap)) : (ad = none ∧ len = 0 ∧ cap = 0) ∨ ∃ b off, ad = some ⟨b, off, none⟩ := by
 simp only [Value.okWide, ht, Cell.okWide] at h
 cases ad with
 | none =>
  cases len with
  | zero =>
   cases cap with
   | zero => exact .inl ⟨rfl, rfl, rfl⟩
   | succ n => simp [Cell.ok, ht] at h
  | succ n => simp [Cell.ok, ht] at h
 | some a =>
  simp only [Cell.ok, ht] at h
  obtain ⟨_, _, _, hs, _⟩ := h
  obtain ⟨b, off, sp⟩ := a
  simp only at hs
  subst hs
  exact .inr ⟨b, off, rfl⟩
end
end Go.Proofs.YtgjmeeiejcbjfaaGreat
