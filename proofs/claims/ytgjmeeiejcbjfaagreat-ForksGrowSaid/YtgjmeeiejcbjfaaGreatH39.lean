/- Lists of steps that a law is handed. -/
import Derived.Test.YtgjmeeiejcbjfaaGreatH06
import Derived.Test.YtgjmeeiejcbjfaaGreatH38
set_option linter.unusedSimpArgs false
set_option linter.unusedVariables false
namespace Go.Proofs.YtgjmeeiejcbjfaaGreat
open Go Go.ChangeShapes Go.WideShapes Go.ChangeAt Go.RowKit
def step0 : Forks.StepV := ⟨0, 0, 0, 0, 0, 0, 0⟩
instance : Inhabited Forks.StepV := ⟨step0⟩
def StepsAt (w : World) (v : Value) (l : List Forks.StepV) : Prop :=
 (v = .slice none 0 0 ∧ l = []) ∨ ∃ b off cap, v = .slice (some ⟨b, off, none⟩) l.length cap ∧ ∀ i, i < l.length → ∀ j u, (stepC (l.getD i step0))[j]? = some u → w.cell? ⟨b, off + (i * 7 + j), none⟩ = some u
structure StepsIn (w : World) (v : Value) (l : List Forks.StepV) : Prop where
 at_ : StepsAt w v l
 ok : ∀ x ∈ l, StepIn x
 len : l.length ≤ 9223372036854775807
section
variable {H : Type} {enc : TypeId × Value → H} {w : World} {base : Nat} {spare : Nat → Bool} {held : Bool}
theorem wf_n8 {n : Int} (h : (Lit.int .u8 n).wf = true) : ∃ b : Nat, n = (b : Int) ∧ b < 256 := by
 simp [Lit.wf, IntKind.min, IntKind.max, IntKind.signed, IntKind.bits] at h
 exact ⟨n.toNat, by omega, by omega⟩
theorem wf_n16 {n : Int} (h : (Lit.int .u16 n).wf = true) : ∃ b : Nat, n = (b : Int) ∧ b < 65536 := by
 simp [Lit.wf, IntKind.min, IntKind.max, IntKind.signed, IntKind.bits] at h
 exact ⟨n.toNat, by omega, by omega⟩
theorem read_step {fuel : Nat} {cs : List Value} {x : DataW H × List MemPlace} (hl : cs.length = 7) (h : DataW.trod enc Tryz.prog w base spare held fuel 86 cs = some x) : ∃ a : Forks.StepV, cs = (stepC a).toList ∧ StepIn a := by
 match cs, hl with
 | [c0, c1, c2, c3, c4, c5, c6], _ =>
  obtain ⟨n0, y0, h0⟩ := read_field Tryz.underlying86 h 0 _ rfl 0 1 rfl (by kernel_rfl)
  obtain ⟨n1, y1, h1⟩ := read_field Tryz.underlying86 h 1 _ rfl 1 1 rfl (by kernel_rfl)
  obtain ⟨n2, y2, h2⟩ := read_field Tryz.underlying86 h 2 _ rfl 2 1 rfl (by kernel_rfl)
  obtain ⟨n3, y3, h3⟩ := read_field Tryz.underlying86 h 3 _ rfl 3 1 rfl (by kernel_rfl)
  obtain ⟨n4, y4, h4⟩ := read_field Tryz.underlying86 h 4 _ rfl 4 1 rfl (by kernel_rfl)
  obtain ⟨n5, y5, h5⟩ := read_field Tryz.underlying86 h 5 _ rfl 5 1 rfl (by kernel_rfl)
  obtain ⟨n6, y6, h6⟩ := read_field Tryz.underlying86 h 6 _ rfl 6 1 rfl (by kernel_rfl)
  obtain ⟨z0, rfl, w0⟩ := trod_int1 Tryz.underlying5 h0
  obtain ⟨z1, rfl, w1⟩ := trod_int1 Tryz.underlying84 h1
  obtain ⟨z2, rfl, w2⟩ := trod_int1 Tryz.underlying84 h2
  obtain ⟨z3, rfl, w3⟩ := trod_int1 Tryz.underlying5 h3
  obtain ⟨z4, rfl, w4⟩ := trod_int1 Tryz.underlying5 h4
  obtain ⟨z5, rfl, w5⟩ := trod_int1 Tryz.underlying5 h5
  obtain ⟨z6, rfl, w6⟩ := trod_int1 Tryz.underlying84 h6
  obtain ⟨m0, rfl, b0⟩ := wf_n8 w0
  obtain ⟨m1, rfl, b1⟩ := wf_n16 w1
  obtain ⟨m2, rfl, b2⟩ := wf_n16 w2
  obtain ⟨m3, rfl, b3⟩ := wf_n8 w3
  obtain ⟨m4, rfl, b4⟩ := wf_n8 w4
  obtain ⟨m5, rfl, b5⟩ := wf_n8 w5
  obtain ⟨m6, rfl, b6⟩ := wf_n16 w6
  exact ⟨⟨m0, m1, m2, m3, m4, m5, m6⟩, rfl, b0, b1, b2, b3, b4, b5, b6⟩
set_option maxRecDepth 100000 in
theorem read_steps {fuel : Nat} {v : Value} {x : DataW H × List MemPlace} {r : Reach} {b0 : Nat} (hv : Value.okWide Tryz.prog w r b0 82 v) (h : DataW.trod enc Tryz.prog w base spare held fuel 82 [v] = some x) :
  ∃ ad cap l, v = .slice ad (List.length l) cap ∧ StepsIn w (.slice ad (List.length l) cap) l := by
 obtain ⟨ad, len, cap, E, rfl, h1, h2, h3⟩ := read_slice (c := 7) Tryz.underlying82 (by kernel_rfl) (by decide) h
 obtain ⟨R, hR⟩ := Deep.choose_lt (α := Forks.StepV) (p := fun i a => E i = (stepC a).toList ∧ StepIn a) (fun i hi => by
  obtain ⟨h4, _, n, y, h5⟩ := h3 i hi
  exact read_step h4 h5)
 have hlen : ((List.range len).map R).length = len := by simp
 refine ⟨ad, cap, (List.range len).map R, by rw [hlen], ?_, ?_, ?_⟩
 ·rw [hlen]
  rcases slice_spotE Tryz.underlying82 hv with ⟨rfl, rfl, rfl⟩ | ⟨b, off, rfl⟩
  ·exact .inl ⟨rfl, rfl⟩
  ·refine .inr ⟨b, off, cap, by rw [hlen], fun i hi j u hj => ?_⟩
   rw [hlen] at hi
   have hg : ((List.range len).map R).getD i step0 = R i := by simp [List.getD, hi]
   rw [hg] at hj
   obtain ⟨_, h4, _⟩ := h3 i hi
   obtain ⟨g, o, e1, h6⟩ := h4 j u (by rw [(hR _ hi).1, Array.getElem?_toList]; exact hj)
   cases e1
   exact h6
 ·intro y hy
  obtain ⟨i, hi, rfl⟩ := List.mem_map.1 hy
  exact (hR i (by simpa using hi)).2
 ·rw [hlen]
  unfold maxLen at h2
  omega
end
end Go.Proofs.YtgjmeeiejcbjfaaGreat
