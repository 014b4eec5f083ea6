/- Rows of exts that a law is handed. -/
import Derived.Test.YtgjmeeiejcbjfaaGreatM33
import Derived.Test.YtgjmeeiejcbjfaaGreatM05
import Derived.Test.YtgjmeeiejcbjfaaGreatM07
set_option linter.unusedSimpArgs false
set_option linter.unusedVariables false
namespace Go.Proofs.YtgjmeeiejcbjfaaGreat
open Go Go.ChangeShapes Go.WideShapes Go.ChangeAt Go.RowKit
structure ExtsIn (w : World) (v : Value) (l : EL) : Prop where
 at_ : ExtsAt w v l
 small : SmallsE l
 len : l.length ≤ 9223372036854775807
section
variable {H : Type} {enc : TypeId × Value → H} {w : World} {base : Nat} {spare : Nat → Bool} {held : Bool}
theorem slice_spotE {P : Program} {r : Reach} {b0 : Nat} {t e : TypeId} {ad : Option Addr} {len cap : Nat} (ht : P.underlying t = some (.slice e)) (h : Value.okWide P w r b0 t (.slice ad len cap)) : (ad = none ∧ len = 0 ∧ cap = 0) ∨ ∃ b off, ad = some ⟨b, off, none⟩ := by
 simp only [Value.okWide, ht, Cell.okWide] at h
 cases ad with
 | none =>
  cases len with
  | zero =>
   cases cap with
   | zero => exact .inl ⟨rfl, rfl, rfl⟩
   | succ n => simp [Cell.ok, ht] at h
  | succ n => simp [Cell.ok, ht] at h
 | some a =>
  simp only [Cell.ok, ht] at h
  obtain ⟨_, _, _, hs, _⟩ := h
  obtain ⟨b, off, sp⟩ := a
  simp only at hs
  subst hs
  exact .inr ⟨b, off, rfl⟩
end
end Go.Proofs.YtgjmeeiejcbjfaaGreat
namespace Go.Proofs.YtgjmeeiejcbjfaaGreat
open Go Go.ChangeShapes Go.WideShapes Go.ChangeAt Go.RowKit
section
variable {H : Type} {enc : TypeId × Value → H} {w : World} {base : Nat} {spare : Nat → Bool} {held : Bool}
theorem read_entry {fuel : Nat} {cs : List Value} {x : DataW H × List MemPlace} (hl : cs.length = 3) (h : DataW.trod enc Tryz.prog w base spare held fuel 31 cs = some x) : ∃ a : Exts.E, cs = [.int .i64 a.1, .int .i64 a.2.1, .int .i64 a.2.2] ∧ SmallE a := by
 match cs, hl with
 | [c0, c1, c2], _ =>
  obtain ⟨n0, y0, h0⟩ := read_field Tryz.underlying31 h 0 _ rfl 0 1 rfl (by kernel_rfl)
  obtain ⟨n1, y1, h1⟩ := read_field Tryz.underlying31 h 1 _ rfl 1 1 rfl (by kernel_rfl)
  obtain ⟨n2, y2, h2⟩ := read_field Tryz.underlying31 h 2 _ rfl 2 1 rfl (by kernel_rfl)
  obtain ⟨z0, rfl, w0⟩ := trod_int1 Tryz.underlying3 h0
  obtain ⟨z1, rfl, w1⟩ := trod_int1 Tryz.underlying3 h1
  obtain ⟨z2, rfl, w2⟩ := trod_int1 Tryz.underlying3 h2
  exact ⟨(z0, z1, z2), rfl, wf_lo64 w0, wf_lo64 w1, wf_lo64 w2⟩
set_option maxRecDepth 100000 in
theorem read_entrys {fuel : Nat} {v : Value} {x : DataW H × List MemPlace} {r : Reach} {b0 : Nat} (hv : Value.okWide Tryz.prog w r b0 22 v) (h : DataW.trod enc Tryz.prog w base spare held fuel 22 [v] = some x) :
  ∃ ad cap l, v = .slice ad (List.length l) cap ∧ ExtsIn w (.slice ad (List.length l) cap) l := by
 obtain ⟨ad, len, cap, E, rfl, h1, h2, h3⟩ := read_slice (c := 3) Tryz.underlying22 (by kernel_rfl) (by decide) h
 obtain ⟨R, hR⟩ := Deep.choose_lt (α := Exts.E) (p := fun i a => E i = [.int .i64 a.1, .int .i64 a.2.1, .int .i64 a.2.2] ∧ SmallE a) (fun i hi => by
  obtain ⟨h4, _, n, y, h5⟩ := h3 i hi
  exact read_entry h4 h5)
 have hlen : ((List.range len).map R).length = len := by simp
 refine ⟨ad, cap, (List.range len).map R, by rw [hlen], ?_, ?_, ?_⟩
 ·rw [hlen]
  rcases slice_spotE Tryz.underlying22 hv with ⟨rfl, rfl, rfl⟩ | ⟨b, off, rfl⟩
  ·exact .inl ⟨rfl, rfl⟩
  ·refine .inr ⟨b, off, cap, by rw [hlen], fun j u hj => ?_⟩
   have hjl : j < len * 3 := by
    have := (List.getElem?_eq_some_iff.1 hj).1
    rw [ecells_length, hlen] at this
    exact this
   have hi : j / 3 < len := by omega
   have hc := ecells_at ((List.range len).map R) (j / 3) (by rw [hlen]; exact hi)
   have hg : ((List.range len).map R).getD (j / 3) (0, 0, 0) = R (j / 3) := by simp [List.getD, hi]
   rw [hg] at hc
   obtain ⟨_, h4, _⟩ := h3 (j / 3) hi
   rcases (show j % 3 = 0 ∨ j % 3 = 1 ∨ j % 3 = 2 by omega) with h5 | h5 | h5
   ·have e : j / 3 * 3 = j := by omega
    rw [e, hj] at hc
    obtain ⟨g, o, e1, h6⟩ := h4 0 u (by rw [(hR _ hi).1, hc.1]; rfl)
    cases e1
    rwa [show j / 3 * 3 + 0 = j by omega] at h6
   ·have e : j / 3 * 3 + 1 = j := by omega
    rw [e, hj] at hc
    obtain ⟨g, o, e1, h6⟩ := h4 1 u (by rw [(hR _ hi).1, hc.2.1]; rfl)
    cases e1
    rwa [show j / 3 * 3 + 1 = j by omega] at h6
   ·have e : j / 3 * 3 + 2 = j := by omega
    rw [e, hj] at hc
    obtain ⟨g, o, e1, h6⟩ := h4 2 u (by rw [(hR _ hi).1, hc.2.2]; rfl)
    cases e1
    rwa [show j / 3 * 3 + 2 = j by omega] at h6
 ·intro y hy
  obtain ⟨i, hi, rfl⟩ := List.mem_map.1 hy
  exact (hR i (by simpa using hi)).2
 ·rw [hlen]
  unfold maxLen at h2
  omega
end
end Go.Proofs.YtgjmeeiejcbjfaaGreat
