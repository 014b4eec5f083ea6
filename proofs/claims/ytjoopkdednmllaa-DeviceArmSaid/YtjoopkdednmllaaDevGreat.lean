/- Laws of devices: great, SameInts, read. -/
import Derived.Test.YtjoopkdednmllaaDevActs
namespace Go.Proofs.Ytjoopkdednmllaa
open Go Go.ChangeShapes Go.WideShapes Go.ChangeAt Go.RowKit
variable {B b : Nat} {w : World} {y : Lay} {D : Dev}

theorem ActsIn.at {w : World} {ad : Option Addr} {cap : Nat} {l : List ActV} (h : ActsIn w ad cap l) (i : Nat) (hi : i < l.length) : ∃ g off, ad = some ⟨g, off, none⟩ ∧
    w.cell? ⟨g, off + i * 6, none⟩ = some (bval (l.getD i default).kind) ∧ w.cell? ⟨g, off + i * 6 + 1, none⟩ = some (.int .i64 (l.getD i default).b) ∧ w.cell? ⟨g, off + i * 6 + 2, none⟩ = some (.int .i64 (l.getD i default).n) ∧
    w.cell? ⟨g, off + i * 6 + 3, none⟩ = some (bval (l.getD i default).fill) ∧ w.cell? ⟨g, off + i * 6 + 4, none⟩ = some (.string (l.getD i default).data) ∧ w.cell? ⟨g, off + i * 6 + 5, none⟩ = some (.slice (l.getD i default).kad (l.getD i default).keep.length (l.getD i default).kcap) := by
  have e : l.getD i default = l[i] := by simp [List.getD, hi]
  rw [e]
  obtain ⟨g, off, rfl, c0⟩ := h.cells i hi 0 _ rfl
  obtain ⟨g1, o1, e1, c1⟩ := h.cells i hi 1 _ rfl
  obtain ⟨g2, o2, e2, c2⟩ := h.cells i hi 2 _ rfl
  obtain ⟨g3, o3, e3, c3⟩ := h.cells i hi 3 _ rfl
  obtain ⟨g4, o4, e4, c4⟩ := h.cells i hi 4 _ rfl
  obtain ⟨g5, o5, e5, c5⟩ := h.cells i hi 5 _ rfl
  cases e1; cases e2; cases e3; cases e4; cases e5
  simp only [← Nat.add_assoc, Nat.add_zero] at c0 c1 c2 c3 c4 c5
  exact ⟨g, off, rfl, c0, c1, c2, c3, c4, c5⟩
theorem ActsIn.okAt {w : World} {ad : Option Addr} {cap : Nat} {l : List ActV} (h : ActsIn w ad cap l) (i : Nat) (hi : i < l.length) : ActOk w (l.getD i default) := by
  have e : l.getD i default = l[i] := by simp [List.getD, hi]
  rw [e]; exact h.ok i hi

theorem wrap64_in (n : Int) : -9223372036854775808 ≤ wrap64 n ∧ wrap64 n ≤ 9223372036854775807 := by unfold wrap64; omega

/-- What a 'no' tells. -/
structure Told (b : Bool) (p : Prop) : Prop where
  out : b = false → p

set_option maxHeartbeats 1000000 in
theorem great_any (ad : Option Addr) (cap : Nat) (l : List ActV) (h : ActsIn w ad cap l) : Calls Try.prog 10 #[.slice ad l.length cap] w fun e w' => ∃ b : Bool, e = .returned (.bool b) ∧ Below w.heap.size w w' ∧ Told b (l.length ≤ 120) := by
  have hlen := h.len
  have H := Lib.hid h
  clear h
  go_enter Try.func10, Try.ntmps10
  go_wp2_with fail
  go_loopw [3, 4] (fun u q wr => ∃ (j : Nat) (n : Int), j ≤ l.length ∧ (-9223372036854775808 ≤ n ∧ n ≤ 9223372036854775807) ∧ u = .int .i64 n ∧ q = .int .i64 j ∧ Hid (Below w.heap.size w wr)) (fun _ q _ => l.length - (intOf q).toNat)
  case atStart => exact ⟨0, 0, by omega, by omega, rfl, rfl, Lib.hid (Below.refl _ _)⟩
  case round =>
    obtain ⟨j, n, hj, hn, rfl, rfl, hb⟩ := hrel
    by_cases hlt : j < l.length
    · have i1 : (j : Int) < (l.length : Int) := by omega
      obtain ⟨g, off, rfl, c0, c1, c2, c3, c4, c5⟩ := (H.out.below hb.out).at j hlt
      clear c0 c1 c2 c3
      generalize (l.getD j default).data = t at *
      generalize (l.getD j default).keep.length = kl at *
      generalize (l.getD j default).kad = ka at *
      generalize (l.getD j default).kcap = kc at *
      obtain ⟨m1, hm1⟩ : ∃ m1, IntKind.i64.wrap (n + 1) = m1 := ⟨_, rfl⟩
      obtain ⟨m2, hm2⟩ : ∃ m2, wrap64 (wrap64 (m1 + wrap64 ((t.size : Int) / 100)) + (kl : Int)) = m2 := ⟨_, rfl⟩
      have hm3 : -9223372036854775808 ≤ m2 ∧ m2 ≤ 9223372036854775807 := by rw [← hm2]; exact wrap64_in _
      have HB := fun k => Lib.hid (below_drewN hb.out k)
      by_cases hg : 2000 < m2
      · go_wp2_with fail
        go_quiet (fail)
        go_wp2_with fail
        go_ret
        exact ⟨true, rfl, (HB _).out, ⟨by simp⟩⟩
      · go_wp2_with fail
        go_quiet (fail)
        go_wp2_with fail
        go_roundw
        case rel => exact ⟨j + 1, m2, by omega, hm3, by first | rfl | (go_num), by go_num, HB _⟩
        case measure => simp [intOf]; omega
    · obtain rfl : j = l.length := by omega
      by_cases hg : 120 < (l.length : Int)
      · go_wp2_with fail
        go_ret
        exact ⟨true, rfl, hb.out, ⟨by simp⟩⟩
      · go_wp2_with fail
        go_ret
        exact .inl ⟨rfl, hb.out, ⟨fun _ => by omega⟩⟩

/-- Numbers lie in memory from an address on. -/
def IntsIn (w : World) (ad : Option Addr) (l : List Int) : Prop := ∀ i, i < l.length → ∃ g off, ad = some ⟨g, off, none⟩ ∧ w.cell? ⟨g, off + i, none⟩ = some (.int .i64 (l.getD i 0))
theorem IntsIn.below {w w' : World} {ad : Option Addr} {l : List Int} (h : IntsIn w ad l) (hb : Below w.heap.size w w') : IntsIn w' ad l := by
  intro i hi
  obtain ⟨g, off, e, hc⟩ := h i hi
  exact ⟨g, off, e, (hb.cell (p := ⟨g, off + i, none⟩) (World.block_lt_of_cell? w _ hc)).trans hc⟩

def sameTo (a b : List Int) (j : Nat) : Prop := ∀ i, i < j → a.getD i 0 = b.getD i 0

theorem ext_getD (a b : List Int) (hl : a.length = b.length) (h : sameTo a b a.length) : a = b := by
  apply List.ext_getElem hl
  intro i h1 h2
  have := h i h1
  simpa [List.getD, h1, h2] using this

set_option maxHeartbeats 1000000 in
theorem sameInts_any (a1 a2 : Option Addr) (c1 c2 : Nat) (x y : List Int) (h1 : IntsIn w a1 x) (h2 : IntsIn w a2 y) (hl1 : x.length ≤ 9223372036854775807) (hl2 : y.length ≤ 9223372036854775807) :
    Calls Try.prog 24 #[.slice a1 x.length c1, .slice a2 y.length c2] w fun e w' => e = .returned (.bool (decide (x = y))) ∧ Below w.heap.size w w' := by
  obtain ⟨r, hr⟩ : ∃ r, decide (x = y) = r := ⟨_, rfl⟩
  rw [hr]
  have HR := Lib.hid hr
  clear hr
  by_cases hl : x.length = y.length
  · have H1 := Lib.hid h1
    have H2 := Lib.hid h2
    have HE := Lib.hid (ext_getD x y hl)
    clear h1 h2
    rw [← hl]
    have HL := Lib.hid hl
    clear hl hl2
    go_enter Try.func24, Try.ntmps24
    go_wp2_with fail
    go_loopw [5] (fun q wr => ∃ (j : Nat), j ≤ x.length ∧ q = .int .i64 j ∧ Hid (sameTo x y j) ∧ Hid (Below w.heap.size w wr)) (fun q _ => x.length - (intOf q).toNat)
    case atStart => exact ⟨0, by omega, rfl, fun i hi => absurd hi (Nat.not_lt_zero _), Lib.hid (Below.refl _ _)⟩
    case round =>
      obtain ⟨j, hj, rfl, hs, hb⟩ := hrel
      by_cases hlt : j < x.length
      · have i1 : (j : Int) < (x.length : Int) := by omega
        have i0 : (0 : Int) ≤ (j : Int) := by omega
        obtain ⟨g, off, rfl, k1⟩ := (H1.out.below hb.out) j hlt
        obtain ⟨g2, off2, rfl, k2⟩ := (H2.out.below hb.out) j (by rw [← HL.out]; exact hlt)
        by_cases he : x.getD j 0 = y.getD j 0
        · have hs' : Hid (sameTo x y (j + 1)) := Lib.hid (fun i hi => by
            rcases Nat.lt_or_ge i j with h | h
            · exact hs.out i h
            · obtain rfl : i = j := by omega
              exact he)
          rw [he] at k1
          generalize y.getD j 0 = v at *
          clear he
          go_wp2_with fail
          go_quiet (fail)
          go_wp2_with fail
          go_roundw
          case rel => exact ⟨j + 1, by omega, by go_num, hs', Lib.hid (below_drewN hb.out _)⟩
          case measure => simp [intOf]; omega
        · have hne : ¬ (x = y) := fun h => he (by rw [h])
          obtain rfl : r = false := HR.out.symm.trans (decide_eq_false hne)
          have HB := fun k => Lib.hid (below_drewN hb.out k)
          generalize x.getD j 0 = v1 at *
          generalize y.getD j 0 = v2 at *
          clear hne
          go_wp2_with fail
          go_quiet (fail)
          go_wp2_with fail
          go_ret
          exact ⟨rfl, (HB _).out⟩
      · obtain rfl : j = x.length := by omega
        obtain rfl : r = true := HR.out.symm.trans (decide_eq_true (HE.out hs.out))
        go_wp2_with fail
        go_ret
        exact ⟨rfl, hb.out⟩
  · obtain rfl : r = false := HR.out.symm.trans (decide_eq_false (fun h => hl (by rw [h])))
    have hl' : ¬ ((x.length : Int) = (y.length : Int)) := by omega
    clear h1 h2 HR
    generalize x.length = n1 at *
    generalize y.length = n2 at *
    go_enter Try.func24, Try.ntmps24
    go_wp2_with fail
    go_ret
    exact ⟨rfl, Below.refl _ _⟩

end Go.Proofs.Ytjoopkdednmllaa
