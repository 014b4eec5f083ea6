/- Trees, disks, what is asked: structs that a law is handed, with slices in them. -/
import Derived.Test.YtgjmeeiejcbjfaaGreatM34
import Derived.Test.YtgjmeeiejcbjfaaGreatM22
set_option linter.unusedSimpArgs false
set_option linter.unusedVariables false
namespace Go.Proofs.YtgjmeeiejcbjfaaGreat
open Go Go.ChangeShapes Go.WideShapes Go.ChangeAt Go.RowKit
section
variable {H : Type} {enc : TypeId × Value → H} {w : World} {base : Nat} {spare : Nat → Bool} {held : Bool}
theorem field_wide {P : Program} {r : Reach} {b0 : Nat} {t u : TypeId} {fs : Array Field} {cs : Array Value} {ts : List TypeId} (hs : P.underlying t = some (.struct fs)) (hts : P.cellTypes P.depth t = some ts) (hv : Value.okWide P w r b0 t (.agg cs)) {i : Nat} {v : Value} (hi : cs[i]? = some v) (hu : ts[i % ts.length]? = some u) (hnot : ∀ fs, P.underlying u ≠ some (.struct fs)) (hnot2 : ∀ n e, P.underlying u ≠ some (.array n e)) : Value.okWide P w r b0 u v := by
 have h : ∃ cs', Value.agg cs = .agg cs' ∧ cs'.size = P.cellsOf t ∧ Row.okWide P w r b0 t cs' := by
  simpa only [Value.okWide, hs] using hv
 obtain ⟨cs', h1, -, ts', h2, -, h3⟩ := h
 cases h1
 rw [hts] at h2
 cases h2
 obtain ⟨u', h4, h5⟩ := h3 i v hi
 rw [hu] at h4
 cases h4
 unfold Value.okWide
 split
 ·rename_i fs' h; exact absurd h (hnot _)
 ·rename_i n e h; exact absurd h (hnot2 _ _)
 ·exact h5
structure ChgsIn (w : World) (v : Value) (l : CL) : Prop where
 at_ : ChgsAt w v l
 small : ∀ x ∈ l, (-9223372036854775808 ≤ x.1 ∧ x.1 ≤ 9223372036854775807) ∧ x.2.size ≤ 9223372036854775807
 len : l.length ≤ 9223372036854775807
theorem read_change {fuel : Nat} {cs : List Value} {x : DataW H × List MemPlace} (hl : cs.length = 2) (h : DataW.trod enc Tryz.prog w base spare held fuel 72 cs = some x) : ∃ a : Int × ByteArray, cs = [.int .i64 a.1, .string a.2] ∧ (-9223372036854775808 ≤ a.1 ∧ a.1 ≤ 9223372036854775807) ∧ a.2.size ≤ 9223372036854775807 := by
 match cs, hl with
 | [c0, c1], _ =>
  obtain ⟨n0, y0, h0⟩ := read_field Tryz.underlying72 h 0 _ rfl 0 1 rfl (by kernel_rfl)
  obtain ⟨n1, y1, h1⟩ := read_field Tryz.underlying72 h 1 _ rfl 1 1 rfl (by kernel_rfl)
  obtain ⟨z0, rfl, w0⟩ := trod_int1 Tryz.underlying3 h0
  obtain ⟨s1, rfl, w1⟩ := trod_string1 Tryz.underlying9 h1
  exact ⟨(z0, s1), rfl, wf_lo64 w0, strLen w1⟩
set_option maxRecDepth 100000 in
theorem read_changes {fuel : Nat} {v : Value} {x : DataW H × List MemPlace} {r : Reach} {b0 : Nat} (hv : Value.okWide Tryz.prog w r b0 36 v) (h : DataW.trod enc Tryz.prog w base spare held fuel 36 [v] = some x) :
  ∃ ad cap l, v = .slice ad (List.length l) cap ∧ ChgsIn w (.slice ad (List.length l) cap) l := by
 obtain ⟨ad, len, cap, E, rfl, h1, h2, h3⟩ := read_slice (c := 2) Tryz.underlying36 (by kernel_rfl) (by decide) h
 obtain ⟨R, hR⟩ := Deep.choose_lt (α := Int × ByteArray) (p := fun i a => E i = [.int .i64 a.1, .string a.2] ∧ (-9223372036854775808 ≤ a.1 ∧ a.1 ≤ 9223372036854775807) ∧ a.2.size ≤ 9223372036854775807) (fun i hi => by
  obtain ⟨h4, _, n, y, h5⟩ := h3 i hi
  exact read_change h4 h5)
 have hlen : ((List.range len).map R).length = len := by simp
 refine ⟨ad, cap, (List.range len).map R, by rw [hlen], ?_, ?_, ?_⟩
 ·rw [hlen]
  rcases slice_spotE Tryz.underlying36 hv with ⟨rfl, rfl, rfl⟩ | ⟨b, off, rfl⟩
  ·exact .inl ⟨rfl, rfl⟩
  ·refine .inr ⟨b, off, cap, by rw [hlen], fun j u hj => ?_⟩
   have hjl : j < len * 2 := by
    have := (List.getElem?_eq_some_iff.1 hj).1
    rw [ccells_length, hlen] at this
    exact this
   have hi : j / 2 < len := by omega
   have hc := ccells_at ((List.range len).map R) (j / 2) (by rw [hlen]; exact hi)
   have hg : ((List.range len).map R).getD (j / 2) (0, ⟨#[]⟩) = R (j / 2) := by simp [List.getD, hi]
   rw [hg] at hc
   obtain ⟨_, h4, _⟩ := h3 (j / 2) hi
   rcases (show j % 2 = 0 ∨ j % 2 = 1 by omega) with h5 | h5
   ·have e : j / 2 * 2 = j := by omega
    rw [e, hj] at hc
    obtain ⟨g, o, e1, h6⟩ := h4 0 u (by rw [(hR _ hi).1, hc.1]; rfl)
    cases e1
    rwa [show j / 2 * 2 + 0 = j by omega] at h6
   ·have e : j / 2 * 2 + 1 = j := by omega
    rw [e, hj] at hc
    obtain ⟨g, o, e1, h6⟩ := h4 1 u (by rw [(hR _ hi).1, hc.2]; rfl)
    cases e1
    rwa [show j / 2 * 2 + 1 = j by omega] at h6
 ·intro y hy
  obtain ⟨i, hi, rfl⟩ := List.mem_map.1 hy
  exact (hR i (by simpa using hi)).2
 ·rw [hlen]
  unfold maxLen at h2
  omega
structure TreeIn (w : World) (depth : Int) (v : Value) (root : EL) : Prop where
 depth : -9223372036854775808 ≤ depth ∧ depth ≤ 9223372036854775807
 root : ExtsIn w v root
set_option maxRecDepth 100000 in
theorem read_tree {v : Value} {d : DataW H} {p : List MemPlace} {r : Reach} {b0 : Nat} (hv : Value.okWide Tryz.prog w r b0 35 v) (h : DataW.Trod enc Tryz.prog w base spare held 35 v d p) :
  ∃ depth ar cr root, v = .agg #[.int .i64 depth, .slice ar (List.length root) cr] ∧ TreeIn w depth (.slice ar (List.length root) cr) root := by
 obtain ⟨c0, c1, y0, y1, n, rfl, -, -, e0, e1⟩ := Joins.open_agg2 Tryz.underlying35 (by kernel_rfl) (by kernel_rfl) hv h
 obtain ⟨z, rfl, w0⟩ := trod_int1 Tryz.underlying3 e0
 obtain ⟨ar, cr, root, rfl, h1⟩ := read_entrys (r := r) (b0 := b0) (field_wide Tryz.underlying35 (ts := [3, 22]) (by kernel_rfl) hv (i := 1) rfl rfl (fun fs h => by rw [Tryz.underlying22] at h; cases h) (fun n e h => by rw [Tryz.underlying22] at h; cases h)) e1
 exact ⟨z, ar, cr, root, rfl, wf_lo64 w0, h1⟩
structure DiskIn (w : World) (v : Value) (cl : CL) (bad : Int) : Prop where
 chgs : ChgsIn w v cl
 bad : -9223372036854775808 ≤ bad ∧ bad ≤ 9223372036854775807
set_option maxRecDepth 100000 in
theorem read_disk {v : Value} {d : DataW H} {p : List MemPlace} {r : Reach} {b0 : Nat} (hv : Value.okWide Tryz.prog w r b0 38 v) (h : DataW.Trod enc Tryz.prog w base spare held 38 v d p) :
  ∃ ad cap cl bad, v = .agg #[.slice ad (List.length cl) cap, .int .i64 bad] ∧ DiskIn w (.slice ad (List.length cl) cap) cl bad := by
 obtain ⟨c0, c1, y0, y1, n, rfl, -, -, e0, e1⟩ := Joins.open_agg2 Tryz.underlying38 (by kernel_rfl) (by kernel_rfl) hv h
 obtain ⟨z, rfl, w0⟩ := trod_int1 Tryz.underlying3 e1
 obtain ⟨ar, cr, cl, rfl, h1⟩ := read_changes (r := r) (b0 := b0) (field_wide Tryz.underlying38 (ts := [36, 3]) (by kernel_rfl) hv (i := 0) rfl rfl (fun fs h => by rw [Tryz.underlying36] at h; cases h) (fun n e h => by rw [Tryz.underlying36] at h; cases h)) e0
 exact ⟨ar, cr, cl, z, rfl, h1, wf_lo64 w0⟩
end
end Go.Proofs.YtgjmeeiejcbjfaaGreat
