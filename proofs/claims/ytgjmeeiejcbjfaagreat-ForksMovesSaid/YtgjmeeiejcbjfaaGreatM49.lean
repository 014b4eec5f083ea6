/- A struct of five ints that a law is handed. -/
import Derived.Test.YtgjmeeiejcbjfaaGreatM39
set_option linter.unusedSimpArgs false
set_option linter.unusedVariables false
namespace Go.Proofs.YtgjmeeiejcbjfaaGreat
open Go Go.ChangeShapes Go.WideShapes Go.ChangeAt Go.RowKit
section
variable {H : Type} {enc : TypeId × Value → H} {w : World} {base : Nat} {spare : Nat → Bool} {held : Bool}
def In64 (x : Int) : Prop := -9223372036854775808 ≤ x ∧ x ≤ 9223372036854775807
set_option maxRecDepth 100000 in
theorem read_slide {v : Value} {d : DataW H} {p : List MemPlace} {r : Reach} {b0 : Nat} (hv : Value.okWide Tryz.prog w r b0 56 v) (h : DataW.Trod enc Tryz.prog w base spare held 56 v d p) :
  ∃ sl sn st sf sd, v = .agg #[.int .i64 sl, .int .i64 sn, .int .i64 st, .int .i64 sf, .int .i64 sd] ∧ In64 sl ∧ In64 sn ∧ In64 st ∧ In64 sf ∧ In64 sd := by
 obtain ⟨cs, rfl, hsz⟩ := okWide_struct Tryz.underlying56 hv
 have hC : Tryz.prog.cellsOf 56 = 5 := by kernel_rfl
 rw [hC] at hsz
 obtain ⟨c0, c1, c2, c3, c4, rfl⟩ : ∃ c0 c1 c2 c3 c4, cs = #[c0, c1, c2, c3, c4] := by
  obtain ⟨l⟩ := cs
  match l, hsz with
  | [a, b, c, d, e], _ => exact ⟨a, b, c, d, e, rfl⟩
 obtain ⟨fuel, hf⟩ := h
 obtain ⟨xs, n, _, hx, hl, hlen, hfs⟩ := DataW.trod_struct Tryz.underlying56 hf
 have h1 : Tryz.prog.cellsOf 3 = 1 := by kernel_rfl
 obtain ⟨y0, y1, y2, y3, y4, rfl⟩ : ∃ y0 y1 y2 y3 y4, xs = [y0, y1, y2, y3, y4] := by
  match xs, hlen with
  | [a, b, c, d, e], _ => exact ⟨a, b, c, d, e, rfl⟩
 have e0 : DataW.trod enc Tryz.prog w base spare held n 3 ((([c0, c1, c2, c3, c4] : List Value).drop 0).take (Tryz.prog.cellsOf 3)) = some y0 := hfs 0 _ rfl
 have e1 : DataW.trod enc Tryz.prog w base spare held n 3 ((([c0, c1, c2, c3, c4] : List Value).drop 1).take (Tryz.prog.cellsOf 3)) = some y1 := hfs 1 _ rfl
 have e2 : DataW.trod enc Tryz.prog w base spare held n 3 ((([c0, c1, c2, c3, c4] : List Value).drop 2).take (Tryz.prog.cellsOf 3)) = some y2 := hfs 2 _ rfl
 have e3 : DataW.trod enc Tryz.prog w base spare held n 3 ((([c0, c1, c2, c3, c4] : List Value).drop 3).take (Tryz.prog.cellsOf 3)) = some y3 := hfs 3 _ rfl
 have e4 : DataW.trod enc Tryz.prog w base spare held n 3 ((([c0, c1, c2, c3, c4] : List Value).drop 4).take (Tryz.prog.cellsOf 3)) = some y4 := hfs 4 _ rfl
 rw [h1] at e0 e1 e2 e3 e4
 simp only [List.drop, List.take] at e0 e1 e2 e3 e4
 obtain ⟨z0, rfl, w0⟩ := trod_int1 Tryz.underlying3 e0
 obtain ⟨z1, rfl, w1⟩ := trod_int1 Tryz.underlying3 e1
 obtain ⟨z2, rfl, w2⟩ := trod_int1 Tryz.underlying3 e2
 obtain ⟨z3, rfl, w3⟩ := trod_int1 Tryz.underlying3 e3
 obtain ⟨z4, rfl, w4⟩ := trod_int1 Tryz.underlying3 e4
 exact ⟨z0, z1, z2, z3, z4, rfl, wf_lo64 w0, wf_lo64 w1, wf_lo64 w2, wf_lo64 w3, wf_lo64 w4⟩
end
end Go.Proofs.YtgjmeeiejcbjfaaGreat
