/- Slices of bytes that came in. -/
import Derived.Test.YtlickjaopbcanaaRead
import Derived.Test.YtlickjaopbcanaaRow
namespace Go.Proofs.Ytlickjaopbcanaa
open Go Go.ChangeShapes Go.WideShapes Go.ChangeAt Go.RowKit
section
variable {H : Type} {enc : TypeId × Value → H} {P : Program} {w : World} {base : Nat} {spare : Nat → Bool} {held : Bool}
def BytesIn (w : World) (ad : Option Addr) (cap : Nat) (l : List UInt8) : Prop := CellsIn w ad (bcells l) ∧ l.length ≤ cap ∧ cap ≤ 9223372036854775807
theorem BytesIn.below {w w' : World} {ad : Option Addr} {cap : Nat} {l : List UInt8} (h : BytesIn w ad cap l) (hb : Below w.heap.size w w') : BytesIn w' ad cap l := ⟨h.1.below hb, h.2⟩
theorem BytesIn.at {w : World} {ad : Option Addr} {cap : Nat} {l : List UInt8} (h : BytesIn w ad cap l) (j : Nat) (hj : j < l.length) : ∃ g off, ad = some ⟨g, off, none⟩ ∧ w.cell? ⟨g, off + j, none⟩ = some (bval (l.getD j 0)) := h.1 j _ (bcells_at l j hj)
theorem read_bytes {t e : TypeId} {fuel : Nat} {v : Value} {x : DataW H × List MemPlace} (ht : P.underlying t = some (.slice e)) (he : P.underlying e = some (.int .u8)) (hc : P.cellsOf e = 1) (h : DataW.trod enc P w base spare held fuel t [v] = some x) :
    ∃ ad cap l, v = .slice ad (List.length l) cap ∧ BytesIn w ad cap l := by
  obtain ⟨ad, len, cap, E, rfl, h1, h2, h3⟩ := read_slice ht hc Nat.one_pos h
  obtain ⟨B, hB⟩ := Deep.choose_lt (α := UInt8) (p := fun i b => E i = [bval b]) (fun i hi => by
    obtain ⟨hl, _, n, y, h4⟩ := h3 i hi
    match hE : E i, hl with
    | [c0], _ =>
      rw [hE] at h4
      obtain ⟨z, rfl, w0⟩ := trod_int1 he h4
      obtain ⟨k, rfl⟩ := wf_u8 w0
      exact ⟨k, rfl⟩)
  refine ⟨ad, cap, (List.range len).map B, by simp, ?_, by simpa using h1, h2⟩
  intro j u hj
  have hjl : j < len := by have := (List.getElem?_eq_some_iff.1 hj).1; simpa [bcells] using this
  have hu : u = bval (B j) := by simp [bcells, hjl] at hj; exact hj.symm
  obtain ⟨_, h4, _⟩ := h3 j hjl
  have h5 := h4 0 u (by rw [hB j hjl, hu]; rfl)
  simpa using h5
end

end Go.Proofs.Ytlickjaopbcanaa
