/- Steps, and failures, that a law is handed. -/
import Derived.Test.YtnpdhidliaahbaaGreatG28
import Derived.Test.YtnpdhidliaahbaaGreatG31
import Derived.Test.YtnpdhidliaahbaaGreatG37
set_option linter.unusedSimpArgs false
set_option linter.unusedVariables false
namespace Go.Proofs.YtnpdhidliaahbaaGreat
set_option linter.unusedVariables false
open Go Go.ChangeShapes Go.WideShapes Go.ChangeAt Go.RowKit
def step0 : Sys.Step := ⟨0, [], [], 0, false⟩
instance : Inhabited Sys.Step := ⟨step0⟩
/-- The value v leads to the steps l. -/
structure StepsIn (w : World) (v : Value) (l : List Sys.Step) : Prop where
  form : ∃ ad cap, v = .slice ad l.length cap ∧ ∀ i, i < l.length → ∃ g off vc vr, ad = some ⟨g, off, none⟩ ∧ w.cell? ⟨g, off + i * 5, none⟩ = some (bval (l.getD i step0).kind) ∧ w.cell? ⟨g, off + i * 5 + 1, none⟩ = some vc ∧ w.cell? ⟨g, off + i * 5 + 2, none⟩ = some vr ∧ w.cell? ⟨g, off + i * 5 + 3, none⟩ = some (bval (l.getD i step0).fill) ∧ w.cell? ⟨g, off + i * 5 + 4, none⟩ = some (.bool (l.getD i step0).data) ∧ StepAt w (.agg #[bval (l.getD i step0).kind, vc, vr, bval (l.getD i step0).fill, .bool (l.getD i step0).data]) (l.getD i step0)
  len : l.length ≤ 9223372036854775807
theorem StepsIn.below {w w' : World} {v : Value} {l : List Sys.Step} (h : StepsIn w v l) (hb : Below w.heap.size w w') : StepsIn w' v l := by
  obtain ⟨⟨ad, cap, e, h1⟩, h2⟩ := h
  refine ⟨⟨ad, cap, e, fun i hi => ?_⟩, h2⟩
  obtain ⟨g, off, vc, vr, e1, c0, c1, c2, c3, c4, hs⟩ := h1 i hi
  have gen : ∀ (p : Addr) (u : Value), w.cell? p = some u → w'.cell? p = some u := fun p u hc => (hb.cell (World.block_lt_of_cell? w _ hc)).trans hc
  exact ⟨g, off, vc, vr, e1, gen _ _ c0, gen _ _ c1, gen _ _ c2, gen _ _ c3, gen _ _ c4, hs.below hb⟩
theorem StepsIn.at {w : World} {ad : Option Addr} {n cap : Nat} {l : List Sys.Step} (h : StepsIn w (.slice ad n cap) l) (i : Nat) (hi : i < l.length) : ∃ g off vc vr, ad = some ⟨g, off, none⟩ ∧ w.cell? ⟨g, off + i * 5, none⟩ = some (bval (l.getD i step0).kind) ∧ w.cell? ⟨g, off + i * 5 + 1, none⟩ = some vc ∧ w.cell? ⟨g, off + i * 5 + 2, none⟩ = some vr ∧ w.cell? ⟨g, off + i * 5 + 3, none⟩ = some (bval (l.getD i step0).fill) ∧ w.cell? ⟨g, off + i * 5 + 4, none⟩ = some (.bool (l.getD i step0).data) ∧ StepAt w (.agg #[bval (l.getD i step0).kind, vc, vr, bval (l.getD i step0).fill, .bool (l.getD i step0).data]) (l.getD i step0) := by
  obtain ⟨⟨ad', cap', e, h1⟩, _⟩ := h
  cases e
  exact h1 i hi
/-- A failure. -/
structure FailV where
  at_ : Nat
  keep : List Bool
def fail0 : FailV := ⟨0, []⟩
instance : Inhabited FailV := ⟨fail0⟩
/-- The value v is the failure x. -/
structure FailAt (w : World) (v : Value) (x : FailV) : Prop where
  is : ∃ ad cap, v = .agg #[.int .u16 (x.at_ : Int), .slice ad x.keep.length cap] ∧ BoolsAt w ad x.keep
  len : x.keep.length ≤ 9223372036854775807 ∧ x.at_ < 65536
theorem FailAt.below {w w' : World} {v : Value} {x : FailV} (h : FailAt w v x) (hb : Below w.heap.size w w') : FailAt w' v x := by
  obtain ⟨⟨ad, cap, e, h1⟩, h2⟩ := h
  exact ⟨⟨ad, cap, e, h1.below hb⟩, h2⟩
/-- The value v leads to the failures l. -/
structure FailsIn (w : World) (v : Value) (l : List FailV) : Prop where
  form : ∃ ad cap, v = .slice ad l.length cap ∧ ∀ i, i < l.length → ∃ g off a c, ad = some ⟨g, off, none⟩ ∧ w.cell? ⟨g, off + i * 2, none⟩ = some (.int .u16 ((l.getD i fail0).at_ : Int)) ∧ w.cell? ⟨g, off + i * 2 + 1, none⟩ = some (.slice a (l.getD i fail0).keep.length c) ∧ BoolsAt w a (l.getD i fail0).keep ∧ (l.getD i fail0).keep.length ≤ 9223372036854775807 ∧ (l.getD i fail0).at_ < 65536
  len : l.length ≤ 9223372036854775807
theorem FailsIn.below {w w' : World} {v : Value} {l : List FailV} (h : FailsIn w v l) (hb : Below w.heap.size w w') : FailsIn w' v l := by
  obtain ⟨⟨ad, cap, e, h1⟩, h2⟩ := h
  refine ⟨⟨ad, cap, e, fun i hi => ?_⟩, h2⟩
  obtain ⟨g, off, a, c, e1, c0, c1, hs, hl⟩ := h1 i hi
  have gen : ∀ (p : Addr) (u : Value), w.cell? p = some u → w'.cell? p = some u := fun p u hc => (hb.cell (World.block_lt_of_cell? w _ hc)).trans hc
  exact ⟨g, off, a, c, e1, gen _ _ c0, gen _ _ c1, hs.below hb, hl⟩
theorem FailsIn.at {w : World} {ad : Option Addr} {n cap : Nat} {l : List FailV} (h : FailsIn w (.slice ad n cap) l) (i : Nat) (hi : i < l.length) : ∃ g off a c, ad = some ⟨g, off, none⟩ ∧ w.cell? ⟨g, off + i * 2, none⟩ = some (.int .u16 ((l.getD i fail0).at_ : Int)) ∧ w.cell? ⟨g, off + i * 2 + 1, none⟩ = some (.slice a (l.getD i fail0).keep.length c) ∧ BoolsAt w a (l.getD i fail0).keep ∧ (l.getD i fail0).keep.length ≤ 9223372036854775807 ∧ (l.getD i fail0).at_ < 65536 := by
  obtain ⟨⟨ad', cap', e, h1⟩, _⟩ := h
  cases e
  exact h1 i hi
section
variable {H : Type} {enc : TypeId × Value → H} {w : World} {base : Nat} {spare : Nat → Bool} {held : Bool}
theorem wf_n16 {n : Int} (h : (Lit.int .u16 n).wf = true) : ∃ b : Nat, n = (b : Int) ∧ b < 65536 := by
  simp [Lit.wf, IntKind.min, IntKind.max, IntKind.signed, IntKind.bits] at h
  exact ⟨n.toNat, by omega, by omega⟩
/-- A slice of bytes inside something. -/
theorem read_by {fuel : Nat} {v : Value} {x : DataW H × List MemPlace} (h : DataW.trod enc Tryz.prog w base spare held fuel 94 [v] = some x) : ∃ l : List UInt8, ByAt w v l ∧ l.length ≤ 9223372036854775807 := by
  obtain ⟨ad, len, cap, E, rfl, h1, h2, h3⟩ := read_slice (c := 1) Tryz.underlying94 (by kernel_rfl) (by decide) h
  obtain ⟨R, hR⟩ := Deep.choose_lt (α := UInt8) (p := fun i b => E i = [bval b]) (fun i hi => by
    obtain ⟨hE, _, n, y, h4⟩ := h3 i hi
    match hEi : E i, hE with
    | [u], _ =>
      rw [hEi] at h4
      obtain ⟨z, rfl, w0⟩ := trod_int1 Tryz.underlying5 h4
      obtain ⟨b, rfl⟩ := wf_u8 w0
      exact ⟨b, rfl⟩)
  have hlen : ((List.range len).map R).length = len := by simp
  refine ⟨(List.range len).map R, ⟨ad, cap, by rw [hlen], fun i hi => ?_⟩, by rw [hlen]; unfold maxLen at h2; omega⟩
  rw [hlen] at hi
  have hg : ((List.range len).map R).getD i 0 = R i := by simp [List.getD, hi]
  rw [hg]
  obtain ⟨_, h4, _⟩ := h3 i hi
  obtain ⟨g, o, e1, h6⟩ := h4 0 _ (by rw [hR _ hi]; rfl)
  exact ⟨g, o, e1, by simpa [bval] using h6⟩
theorem read_step {fuel : Nat} {cs : List Value} {x : DataW H × List MemPlace} (hl : cs.length = 5) (h : DataW.trod enc Tryz.prog w base spare held fuel 96 cs = some x) : ∃ q : Sys.Step × Value × Value, cs = [bval q.1.kind, q.2.1, q.2.2, bval q.1.fill, .bool q.1.data] ∧ StepAt w (.agg #[bval q.1.kind, q.2.1, q.2.2, bval q.1.fill, .bool q.1.data]) q.1 := by
  match cs, hl with
  | [c0, c1, c2, c3, c4], _ =>
    obtain ⟨n0, y0, h0⟩ := read_field Tryz.underlying96 h 0 _ rfl 0 1 rfl (by kernel_rfl)
    obtain ⟨n1, y1, h1⟩ := read_field Tryz.underlying96 h 1 _ rfl 1 1 rfl (by kernel_rfl)
    obtain ⟨n2, y2, h2⟩ := read_field Tryz.underlying96 h 2 _ rfl 2 1 rfl (by kernel_rfl)
    obtain ⟨n3, y3, h3⟩ := read_field Tryz.underlying96 h 3 _ rfl 3 1 rfl (by kernel_rfl)
    obtain ⟨n4, y4, h4⟩ := read_field Tryz.underlying96 h 4 _ rfl 4 1 rfl (by kernel_rfl)
    obtain ⟨z0, rfl, w0⟩ := trod_int1 Tryz.underlying5 h0
    obtain ⟨z3, rfl, w3⟩ := trod_int1 Tryz.underlying5 h3
    obtain ⟨p, rfl⟩ := trod_bool1 Tryz.underlying4 h4
    obtain ⟨k0, rfl⟩ := wf_u8 w0
    obtain ⟨k3, rfl⟩ := wf_u8 w3
    obtain ⟨lc, b1, l1⟩ := read_by h1
    obtain ⟨lr, b2, l2⟩ := read_by h2
    exact ⟨(⟨k0, lc, lr, k3, p⟩, c1, c2), rfl, ⟨⟨c1, c2, rfl, b1, b2⟩, l1, l2⟩⟩
set_option maxRecDepth 100000 in
theorem read_steps {fuel : Nat} {v : Value} {x : DataW H × List MemPlace} {r : Reach} {b0 : Nat} (_hv : Value.okWide Tryz.prog w r b0 90 v) (h : DataW.trod enc Tryz.prog w base spare held fuel 90 [v] = some x) :
    ∃ ad cap l, v = .slice ad (List.length l) cap ∧ StepsIn w (.slice ad (List.length l) cap) l := by
  obtain ⟨ad, len, cap, E, rfl, h1, h2, h3⟩ := read_slice (c := 5) Tryz.underlying90 (by kernel_rfl) (by decide) h
  obtain ⟨R, hR⟩ := Deep.choose_lt (α := Sys.Step × Value × Value) (p := fun i q => E i = [bval q.1.kind, q.2.1, q.2.2, bval q.1.fill, .bool q.1.data] ∧ StepAt w (.agg #[bval q.1.kind, q.2.1, q.2.2, bval q.1.fill, .bool q.1.data]) q.1) (fun i hi => by
    obtain ⟨h4, _, n, y, h5⟩ := h3 i hi
    exact read_step h4 h5)
  have hlen : ((List.range len).map fun i => (R i).1).length = len := by simp
  refine ⟨ad, cap, (List.range len).map fun i => (R i).1, by rw [hlen], ⟨ad, cap, rfl, fun i hi => ?_⟩, by rw [hlen]; unfold maxLen at h2; omega⟩
  rw [hlen] at hi
  have hg : ((List.range len).map fun i => (R i).1).getD i step0 = (R i).1 := by simp [List.getD, hi]
  rw [hg]
  obtain ⟨_, h4, _⟩ := h3 i hi
  obtain ⟨e, hs⟩ := hR i hi
  rw [e] at h4
  obtain ⟨g, o, rfl, c0⟩ := h4 0 _ rfl
  obtain ⟨g1, o1, e1, c1⟩ := h4 1 _ rfl
  obtain ⟨g2, o2, e2, c2⟩ := h4 2 _ rfl
  obtain ⟨g3, o3, e3, c3⟩ := h4 3 _ rfl
  obtain ⟨g4, o4, e4, c4⟩ := h4 4 _ rfl
  cases e1; cases e2; cases e3; cases e4
  simp only [← Nat.add_assoc, Nat.add_zero] at c0 c1 c2 c3 c4
  exact ⟨g, o, _, _, rfl, c0, c1, c2, c3, c4, hs⟩
/-- A slice of truths inside something. -/
theorem read_bl {fuel : Nat} {v : Value} {x : DataW H × List MemPlace} (h : DataW.trod enc Tryz.prog w base spare held fuel 40 [v] = some x) : ∃ (l : List Bool) (ad : Option Addr) (cap : Nat), v = .slice ad l.length cap ∧ BoolsAt w ad l ∧ l.length ≤ 9223372036854775807 := by
  obtain ⟨ad, cap, l, rfl, hc, h1, h2⟩ := read_bools Tryz.underlying40 Tryz.underlying4 (by kernel_rfl) h
  refine ⟨l, ad, cap, rfl, fun i hi => ?_, by omega⟩
  obtain ⟨g, off, e, h3⟩ := hc i (.bool (l.getD i false)) (by simp [List.getD, hi])
  exact ⟨g, off, e, h3⟩
theorem read_fail {fuel : Nat} {cs : List Value} {x : DataW H × List MemPlace} (hl : cs.length = 2) (h : DataW.trod enc Tryz.prog w base spare held fuel 101 cs = some x) : ∃ q : FailV × Option Addr × Nat, cs = [.int .u16 (q.1.at_ : Int), .slice q.2.1 q.1.keep.length q.2.2] ∧ BoolsAt w q.2.1 q.1.keep ∧ q.1.keep.length ≤ 9223372036854775807 ∧ q.1.at_ < 65536 := by
  match cs, hl with
  | [c0, c1], _ =>
    obtain ⟨n0, y0, h0⟩ := read_field Tryz.underlying101 h 0 _ rfl 0 1 rfl (by kernel_rfl)
    obtain ⟨n1, y1, h1⟩ := read_field Tryz.underlying101 h 1 _ rfl 1 1 rfl (by kernel_rfl)
    obtain ⟨z0, rfl, w0⟩ := trod_int1 Tryz.underlying99 h0
    obtain ⟨n, rfl, hn⟩ := wf_n16 w0
    obtain ⟨l, ad, cap, rfl, hb, hl⟩ := read_bl h1
    exact ⟨(⟨n, l⟩, ad, cap), rfl, hb, hl, hn⟩
set_option maxRecDepth 100000 in
theorem read_failss {fuel : Nat} {v : Value} {x : DataW H × List MemPlace} {r : Reach} {b0 : Nat} (_hv : Value.okWide Tryz.prog w r b0 108 v) (h : DataW.trod enc Tryz.prog w base spare held fuel 108 [v] = some x) :
    ∃ ad cap l, v = .slice ad (List.length l) cap ∧ FailsIn w (.slice ad (List.length l) cap) l := by
  obtain ⟨ad, len, cap, E, rfl, h1, h2, h3⟩ := read_slice (c := 2) Tryz.underlying108 (by kernel_rfl) (by decide) h
  obtain ⟨R, hR⟩ := Deep.choose_lt (α := FailV × Option Addr × Nat) (p := fun i q => E i = [.int .u16 (q.1.at_ : Int), .slice q.2.1 q.1.keep.length q.2.2] ∧ BoolsAt w q.2.1 q.1.keep ∧ q.1.keep.length ≤ 9223372036854775807 ∧ q.1.at_ < 65536) (fun i hi => by
    obtain ⟨h4, _, n, y, h5⟩ := h3 i hi
    exact read_fail h4 h5)
  have hlen : ((List.range len).map fun i => (R i).1).length = len := by simp
  refine ⟨ad, cap, (List.range len).map fun i => (R i).1, by rw [hlen], ⟨ad, cap, rfl, fun i hi => ?_⟩, by rw [hlen]; unfold maxLen at h2; omega⟩
  rw [hlen] at hi
  have hg : ((List.range len).map fun i => (R i).1).getD i fail0 = (R i).1 := by simp [List.getD, hi]
  rw [hg]
  obtain ⟨_, h4, _⟩ := h3 i hi
  obtain ⟨e, hs⟩ := hR i hi
  rw [e] at h4
  obtain ⟨g, o, rfl, c0⟩ := h4 0 _ rfl
  obtain ⟨g1, o1, e1, c1⟩ := h4 1 _ rfl
  cases e1
  simp only [← Nat.add_assoc, Nat.add_zero] at c0 c1
  exact ⟨g, o, _, _, rfl, c0, c1, hs⟩
set_option maxRecDepth 100000 in
theorem read_fails {v : Value} {d : DataW H} {p : List MemPlace} {r : Reach} {b0 : Nat} (hv : Value.okWide Tryz.prog w r b0 101 v) (h : DataW.Trod enc Tryz.prog w base spare held 101 v d p) :
    ∃ (x : FailV) (ad : Option Addr) (cap : Nat), v = .agg #[.int .u16 (x.at_ : Int), .slice ad x.keep.length cap] ∧ (BoolsAt w ad x.keep ∧ x.keep.length ≤ 9223372036854775807 ∧ x.at_ < 65536) := by
  obtain ⟨v0, v1, y0, y1, n, rfl, -, -, e0, e1⟩ := Joins.open_agg2 Tryz.underlying101 (by kernel_rfl) (by kernel_rfl) hv h
  obtain ⟨z0, rfl, w0⟩ := trod_int1 Tryz.underlying99 e0
  obtain ⟨n, rfl, hn⟩ := wf_n16 w0
  obtain ⟨l, ad, cap, rfl, hb, hl⟩ := read_bl e1
  exact ⟨⟨n, l⟩, ad, cap, rfl, hb, hl, hn⟩
end
end Go.Proofs.YtnpdhidliaahbaaGreat
