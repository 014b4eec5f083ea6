/- A layout that came in; changes that came in. -/
import Derived.Test.YtnpdhidliaahbaaGreatG28
import Derived.Test.YtnpdhidliaahbaaGreatG23
set_option linter.unusedSimpArgs false
set_option linter.unusedVariables false
namespace Go.Proofs.YtnpdhidliaahbaaGreat
set_option linter.unusedVariables false
open Go Go.ChangeShapes Go.WideShapes Go.ChangeAt Go.RowKit
theorem slice_spotE {w : World} {P : Program} {r : Reach} {b0 : Nat} {t e : TypeId} {ad : Option Addr} {len cap : Nat} (ht : P.underlying t = some (.slice e)) (h : Value.okWide P w r b0 t (.slice ad len cap)) : (ad = none ∧ len = 0 ∧ cap = 0) ∨ ∃ b off, ad = some ⟨b, off, none⟩ := by
  simp only [Value.okWide, ht, Cell.okWide] at h
  cases ad with
  | none =>
    cases len with
    | zero =>
      cases cap with
      | zero => exact .inl ⟨rfl, rfl, rfl⟩
      | succ n => simp [Cell.ok, ht] at h
    | succ n => simp [Cell.ok, ht] at h
  | some a =>
    simp only [Cell.ok, ht] at h
    obtain ⟨_, _, _, hs, _⟩ := h
    obtain ⟨b, off, sp⟩ := a
    simp only at hs
    subst hs
    exact .inr ⟨b, off, rfl⟩
section
variable {H : Type} {enc : TypeId × Value → H} {w : World} {base : Nat} {spare : Nat → Bool} {held : Bool}
def GeoIn (g : Geo.G) : Prop := In64 g.blocks ∧ In64 g.log ∧ In64 g.inodes ∧ In64 g.logAt ∧ In64 g.mapAt ∧ In64 g.mapLen ∧ In64 g.tableAt ∧ In64 g.tableLen ∧ In64 g.dataAt
set_option maxRecDepth 100000 in
set_option maxHeartbeats 2000000 in
theorem read_geometry {v : Value} {d : DataW H} {p : List MemPlace} {r : Reach} {b0 : Nat} (hv : Value.okWide Tryz.prog w r b0 30 v) (h : DataW.Trod enc Tryz.prog w base spare held 30 v d p) :
    ∃ g : Geo.G, v = .agg (Geo.cells g) ∧ GeoIn g := by
  obtain ⟨cs, rfl, hsz⟩ := okWide_struct Tryz.underlying30 hv
  have hC : Tryz.prog.cellsOf 30 = 9 := by kernel_rfl
  rw [hC] at hsz
  obtain ⟨c0, c1, c2, c3, c4, c5, c6, c7, c8, rfl⟩ : ∃ c0 c1 c2 c3 c4 c5 c6 c7 c8, cs = #[c0, c1, c2, c3, c4, c5, c6, c7, c8] := by
    obtain ⟨l⟩ := cs
    match l, hsz with
    | [a, b, c, d, e, f, g, h, i], _ => exact ⟨a, b, c, d, e, f, g, h, i, rfl⟩
  obtain ⟨fuel, hf⟩ := h
  obtain ⟨xs, n, _, hx, hl, hlen, hfs⟩ := DataW.trod_struct Tryz.underlying30 hf
  have h1 : Tryz.prog.cellsOf 3 = 1 := by kernel_rfl
  obtain ⟨y0, y1, y2, y3, y4, y5, y6, y7, y8, rfl⟩ : ∃ y0 y1 y2 y3 y4 y5 y6 y7 y8, xs = [y0, y1, y2, y3, y4, y5, y6, y7, y8] := by
    match xs, hlen with
    | [a, b, c, d, e, f, g, h, i], _ => exact ⟨a, b, c, d, e, f, g, h, i, rfl⟩
  have e0 : DataW.trod enc Tryz.prog w base spare held n 3 ((([c0, c1, c2, c3, c4, c5, c6, c7, c8] : List Value).drop 0).take (Tryz.prog.cellsOf 3)) = some y0 := hfs 0 _ rfl
  have e1 : DataW.trod enc Tryz.prog w base spare held n 3 ((([c0, c1, c2, c3, c4, c5, c6, c7, c8] : List Value).drop 1).take (Tryz.prog.cellsOf 3)) = some y1 := hfs 1 _ rfl
  have e2 : DataW.trod enc Tryz.prog w base spare held n 3 ((([c0, c1, c2, c3, c4, c5, c6, c7, c8] : List Value).drop 2).take (Tryz.prog.cellsOf 3)) = some y2 := hfs 2 _ rfl
  have e3 : DataW.trod enc Tryz.prog w base spare held n 3 ((([c0, c1, c2, c3, c4, c5, c6, c7, c8] : List Value).drop 3).take (Tryz.prog.cellsOf 3)) = some y3 := hfs 3 _ rfl
  have e4 : DataW.trod enc Tryz.prog w base spare held n 3 ((([c0, c1, c2, c3, c4, c5, c6, c7, c8] : List Value).drop 4).take (Tryz.prog.cellsOf 3)) = some y4 := hfs 4 _ rfl
  have e5 : DataW.trod enc Tryz.prog w base spare held n 3 ((([c0, c1, c2, c3, c4, c5, c6, c7, c8] : List Value).drop 5).take (Tryz.prog.cellsOf 3)) = some y5 := hfs 5 _ rfl
  have e6 : DataW.trod enc Tryz.prog w base spare held n 3 ((([c0, c1, c2, c3, c4, c5, c6, c7, c8] : List Value).drop 6).take (Tryz.prog.cellsOf 3)) = some y6 := hfs 6 _ rfl
  have e7 : DataW.trod enc Tryz.prog w base spare held n 3 ((([c0, c1, c2, c3, c4, c5, c6, c7, c8] : List Value).drop 7).take (Tryz.prog.cellsOf 3)) = some y7 := hfs 7 _ rfl
  have e8 : DataW.trod enc Tryz.prog w base spare held n 3 ((([c0, c1, c2, c3, c4, c5, c6, c7, c8] : List Value).drop 8).take (Tryz.prog.cellsOf 3)) = some y8 := hfs 8 _ rfl
  rw [h1] at e0 e1 e2 e3 e4 e5 e6 e7 e8
  simp only [List.drop, List.take] at e0 e1 e2 e3 e4 e5 e6 e7 e8
  obtain ⟨z0, rfl, w0⟩ := trod_int1 Tryz.underlying3 e0
  obtain ⟨z1, rfl, w1⟩ := trod_int1 Tryz.underlying3 e1
  obtain ⟨z2, rfl, w2⟩ := trod_int1 Tryz.underlying3 e2
  obtain ⟨z3, rfl, w3⟩ := trod_int1 Tryz.underlying3 e3
  obtain ⟨z4, rfl, w4⟩ := trod_int1 Tryz.underlying3 e4
  obtain ⟨z5, rfl, w5⟩ := trod_int1 Tryz.underlying3 e5
  obtain ⟨z6, rfl, w6⟩ := trod_int1 Tryz.underlying3 e6
  obtain ⟨z7, rfl, w7⟩ := trod_int1 Tryz.underlying3 e7
  obtain ⟨z8, rfl, w8⟩ := trod_int1 Tryz.underlying3 e8
  exact ⟨⟨z0, z1, z2, z3, z4, z5, z6, z7, z8⟩, rfl, wf_lo64 w0, wf_lo64 w1, wf_lo64 w2, wf_lo64 w3, wf_lo64 w4, wf_lo64 w5, wf_lo64 w6, wf_lo64 w7, wf_lo64 w8⟩
/-- Changes that came in. -/
structure ChgsIn (w : World) (v : Value) (l : List Jr.Chg) : Prop where
  at_ : ChgsAt w v l
  small : ∀ x ∈ l, In64 x.1 ∧ x.2.size ≤ 9223372036854775807
  len : l.length ≤ 9223372036854775807
theorem read_change {fuel : Nat} {cs : List Value} {x : DataW H × List MemPlace} (hl : cs.length = 2) (h : DataW.trod enc Tryz.prog w base spare held fuel 68 cs = some x) : ∃ a : Int × ByteArray, cs = [.int .i64 a.1, .string a.2] ∧ In64 a.1 ∧ a.2.size ≤ 9223372036854775807 := by
  match cs, hl with
  | [c0, c1], _ =>
    obtain ⟨n0, y0, h0⟩ := read_field Tryz.underlying68 h 0 _ rfl 0 1 rfl (by kernel_rfl)
    obtain ⟨n1, y1, h1⟩ := read_field Tryz.underlying68 h 1 _ rfl 1 1 rfl (by kernel_rfl)
    obtain ⟨z0, rfl, w0⟩ := trod_int1 Tryz.underlying3 h0
    obtain ⟨s1, rfl, w1⟩ := trod_string1 Tryz.underlying9 h1
    exact ⟨(z0, s1), rfl, wf_lo64 w0, strLen w1⟩
theorem chgC_at : ∀ (l : List Jr.Chg) (i : Nat), i < l.length → (chgC l)[i * 2]? = some (.int .i64 (l.getD i (0, ⟨#[]⟩)).1) ∧ (chgC l)[i * 2 + 1]? = some (.string (l.getD i (0, ⟨#[]⟩)).2)
  | c :: l, 0, _ => ⟨rfl, rfl⟩
  | c :: l, i + 1, h => by
    have := chgC_at l i (by simpa using h)
    rw [show (i + 1) * 2 = i * 2 + 2 by omega]
    exact this
set_option maxRecDepth 100000 in
theorem read_changes {fuel : Nat} {v : Value} {x : DataW H × List MemPlace} {r : Reach} {b0 : Nat} (hv : Value.okWide Tryz.prog w r b0 22 v) (h : DataW.trod enc Tryz.prog w base spare held fuel 22 [v] = some x) :
    ∃ ad cap l, v = .slice ad (List.length l) cap ∧ ChgsIn w (.slice ad (List.length l) cap) l := by
  obtain ⟨ad, len, cap, E, rfl, h1, h2, h3⟩ := read_slice (c := 2) Tryz.underlying22 (by kernel_rfl) (by decide) h
  obtain ⟨R, hR⟩ := Deep.choose_lt (α := Int × ByteArray) (p := fun i a => E i = [.int .i64 a.1, .string a.2] ∧ In64 a.1 ∧ a.2.size ≤ 9223372036854775807) (fun i hi => by
    obtain ⟨h4, _, n, y, h5⟩ := h3 i hi
    exact read_change h4 h5)
  have hlen : ((List.range len).map R).length = len := by simp
  refine ⟨ad, cap, (List.range len).map R, by rw [hlen], ?_, ?_, ?_⟩
  · rw [hlen]
    rcases slice_spotE Tryz.underlying22 hv with ⟨rfl, rfl, rfl⟩ | ⟨b, off, rfl⟩
    · exact .inl ⟨rfl, rfl⟩
    · refine .inr ⟨b, off, cap, by rw [hlen], fun j u hjl hj => ?_⟩
      rw [hlen] at hjl
      have hi : j / 2 < len := by omega
      have hc := chgC_at ((List.range len).map R) (j / 2) (by rw [hlen]; exact hi)
      have hg : ((List.range len).map R).getD (j / 2) (0, ⟨#[]⟩) = R (j / 2) := by simp [List.getD, hi]
      rw [hg] at hc
      obtain ⟨_, h4, _⟩ := h3 (j / 2) hi
      rcases (show j % 2 = 0 ∨ j % 2 = 1 by omega) with h5 | h5
      · have e : j / 2 * 2 = j := by omega
        rw [e, hj] at hc
        obtain ⟨g, o, e1, h6⟩ := h4 0 u (by rw [(hR _ hi).1, hc.1]; rfl)
        cases e1
        rwa [show j / 2 * 2 + 0 = j by omega] at h6
      · have e : j / 2 * 2 + 1 = j := by omega
        rw [e, hj] at hc
        obtain ⟨g, o, e1, h6⟩ := h4 1 u (by rw [(hR _ hi).1, hc.2]; rfl)
        cases e1
        rwa [show j / 2 * 2 + 1 = j by omega] at h6
  · intro y hy
    obtain ⟨i, hi, rfl⟩ := List.mem_map.1 hy
    exact (hR i (by simpa using hi)).2
  · rw [hlen]
    unfold maxLen at h2
    omega
end
end Go.Proofs.YtnpdhidliaahbaaGreat
