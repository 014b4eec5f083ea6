/- A layout that came in; changes that came in. -/
import Derived.Test.YtnpdhidliaahbaaGreatR28
import Derived.Test.YtnpdhidliaahbaaGreatR23
set_option linter.unusedSimpArgs false
set_option linter.unusedVariables false
namespace Go.Proofs.YtnpdhidliaahbaaGreat
open Go Go.ChangeShapes Go.WideShapes Go.ChangeAt Go.RowKit
section
variable {H : Type} {enc : TypeId × Value → H} {w : World} {base : Nat} {spare : Nat → Bool} {held : Bool}
def GeoIn (g : Geo.G) : Prop := In64 g.blocks ∧ In64 g.log ∧ In64 g.inodes ∧ In64 g.logAt ∧ In64 g.mapAt ∧ In64 g.mapLen ∧ In64 g.tableAt ∧ In64 g.tableLen ∧ In64 g.dataAt
set_option maxRecDepth 100000 in
set_option maxHeartbeats 2000000 in
theorem read_geometry {v : Value} {d : DataW H} {p : List MemPlace} {r : Reach} {b0 : Nat} (hv : Value.okWide Tryz.prog w r b0 30 v) (h : DataW.Trod enc Tryz.prog w base spare held 30 v d p) :
  ∃ g : Geo.G, v = .agg (Geo.cells g) ∧ GeoIn g := by
 obtain ⟨cs, rfl, hsz⟩ := okWide_struct Tryz.underlying30 hv
 have hC : Tryz.prog.cellsOf 30 = 9 := by kernel_rfl
 rw [hC] at hsz
 obtain ⟨c0, c1, c2, c3, c4, c5, c6, c7, c8, rfl⟩ : ∃ c0 c1 c2 c3 c4 c5 c6 c7 c8, cs = #[c0, c1, c2, c3, c4, c5, c6, c7, c8] := by
  obtain ⟨l⟩ := cs
  match l, hsz with
  | [a, b, c, d, e, f, g, h, i], _ => exact ⟨a, b, c, d, e, f, g, h, i, rfl⟩
 obtain ⟨fuel, hf⟩ := h
 obtain ⟨xs, n, _, hx, hl, hlen, hfs⟩ := DataW.trod_struct Tryz.underlying30 hf
 have h1 : Tryz.prog.cellsOf 3 = 1 := by kernel_rfl
 obtain ⟨y0, y1, y2, y3, y4, y5, y6, y7, y8, rfl⟩ : ∃ y0 y1 y2 y3 y4 y5 y6 y7 y8, xs = [y0, y1, y2, y3, y4, y5, y6, y7, y8] := by
  match xs, hlen with
  | [a, b, c, d, e, f, g, h, i], _ => exact ⟨a, b, c, d, e, f, g, h, i, rfl⟩
 have e0 : DataW.trod enc Tryz.prog w base spare held n 3 ((([c0, c1, c2, c3, c4, c5, c6, c7, c8] : List Value).drop 0).take (Tryz.prog.cellsOf 3)) = some y0 := hfs 0 _ rfl
 have e1 : DataW.trod enc Tryz.prog w base spare held n 3 ((([c0, c1, c2, c3, c4, c5, c6, c7, c8] : List Value).drop 1).take (Tryz.prog.cellsOf 3)) = some y1 := hfs 1 _ rfl
 have e2 : DataW.trod enc Tryz.prog w base spare held n 3 ((([c0, c1, c2, c3, c4, c5, c6, c7, c8] : List Value).drop 2).take (Tryz.prog.cellsOf 3)) = some y2 := hfs 2 _ rfl
 have e3 : DataW.trod enc Tryz.prog w base spare held n 3 ((([c0, c1, c2, c3, c4, c5, c6, c7, c8] : List Value).drop 3).take (Tryz.prog.cellsOf 3)) = some y3 := hfs 3 _ rfl
 have e4 : DataW.trod enc Tryz.prog w base spare held n 3 ((([c0, c1, c2, c3, c4, c5, c6, c7, c8] : List Value).drop 4).take (Tryz.prog.cellsOf 3)) = some y4 := hfs 4 _ rfl
 have e5 : DataW.trod enc Tryz.prog w base spare held n 3 ((([c0, c1, c2, c3, c4, c5, c6, c7, c8] : List Value).drop 5).take (Tryz.prog.cellsOf 3)) = some y5 := hfs 5 _ rfl
 have e6 : DataW.trod enc Tryz.prog w base spare held n 3 ((([c0, c1, c2, c3, c4, c5, c6, c7, c8] : List Value).drop 6).take (Tryz.prog.cellsOf 3)) = some y6 := hfs 6 _ rfl
 have e7 : DataW.trod enc Tryz.prog w base spare held n 3 ((([c0, c1, c2, c3, c4, c5, c6, c7, c8] : List Value).drop 7).take (Tryz.prog.cellsOf 3)) = some y7 := hfs 7 _ rfl
 have e8 : DataW.trod enc Tryz.prog w base spare held n 3 ((([c0, c1, c2, c3, c4, c5, c6, c7, c8] : List Value).drop 8).take (Tryz.prog.cellsOf 3)) = some y8 := hfs 8 _ rfl
 rw [h1] at e0 e1 e2 e3 e4 e5 e6 e7 e8
 simp only [List.drop, List.take] at e0 e1 e2 e3 e4 e5 e6 e7 e8
 obtain ⟨z0, rfl, w0⟩ := trod_int1 Tryz.underlying3 e0
 obtain ⟨z1, rfl, w1⟩ := trod_int1 Tryz.underlying3 e1
 obtain ⟨z2, rfl, w2⟩ := trod_int1 Tryz.underlying3 e2
 obtain ⟨z3, rfl, w3⟩ := trod_int1 Tryz.underlying3 e3
 obtain ⟨z4, rfl, w4⟩ := trod_int1 Tryz.underlying3 e4
 obtain ⟨z5, rfl, w5⟩ := trod_int1 Tryz.underlying3 e5
 obtain ⟨z6, rfl, w6⟩ := trod_int1 Tryz.underlying3 e6
 obtain ⟨z7, rfl, w7⟩ := trod_int1 Tryz.underlying3 e7
 obtain ⟨z8, rfl, w8⟩ := trod_int1 Tryz.underlying3 e8
 exact ⟨⟨z0, z1, z2, z3, z4, z5, z6, z7, z8⟩, rfl, wf_lo64 w0, wf_lo64 w1, wf_lo64 w2, wf_lo64 w3, wf_lo64 w4, wf_lo64 w5, wf_lo64 w6, wf_lo64 w7, wf_lo64 w8⟩
end
end Go.Proofs.YtnpdhidliaahbaaGreat
