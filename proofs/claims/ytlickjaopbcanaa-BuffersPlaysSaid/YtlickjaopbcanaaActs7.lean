/- The acts that a law of caches is handed; what they put; great. -/
import Derived.Test.YtlickjaopbcanaaRead
import Derived.Test.YtlickjaopbcanaaCacheD
namespace Go.Proofs.Ytlickjaopbcanaa
open Go Go.ChangeShapes Go.WideShapes Go.ChangeAt Go.RowKit

structure ActC where
  kind : UInt8
  b : Int
  n : Int
  fill : UInt8
  pin : Bool
  data : ByteArray

def actCells (x : ActC) : List Value := [bval x.kind, .int .i64 x.b, .int .i64 x.n, bval x.fill, .bool x.pin, .string x.data]
structure ActOk (x : ActC) : Prop where
  b : -9223372036854775808 ≤ x.b ∧ x.b ≤ 9223372036854775807
  n : -9223372036854775808 ≤ x.n ∧ x.n ≤ 9223372036854775807
  data : x.data.size ≤ 9223372036854775807
/-- The acts lie in memory. -/
structure ActsIn (w : World) (ad : Option Addr) (cap : Nat) (l : List ActC) : Prop where
  cells : ∀ i, (h : i < l.length) → ∀ k u, (actCells l[i])[k]? = some u → ∃ g off, ad = some ⟨g, off, none⟩ ∧ w.cell? ⟨g, off + (i * 6 + k), none⟩ = some u
  ok : ∀ i, (h : i < l.length) → ActOk l[i]
  len : l.length ≤ cap ∧ cap ≤ 9223372036854775807
theorem ActsIn.below {w w' : World} {ad : Option Addr} {cap : Nat} {l : List ActC} (h : ActsIn w ad cap l) (hb : Below w.heap.size w w') : ActsIn w' ad cap l := by
  refine ⟨fun i hi k u hk => ?_, h.ok, h.len⟩
  obtain ⟨g, off, e, hc⟩ := h.cells i hi k u hk
  exact ⟨g, off, e, (hb.cell (p := ⟨g, _, none⟩) (World.block_lt_of_cell? w _ hc)).trans hc⟩

section
variable {H : Type} {enc : TypeId × Value → H} {w : World} {base : Nat} {spare : Nat → Bool} {held : Bool}

theorem read_act {fuel : Nat} {cs : List Value} {x : DataW H × List MemPlace} (hl : cs.length = 6) (h : DataW.trod enc Try.prog w base spare held fuel 57 cs = some x) : ∃ a : ActC, cs = actCells a ∧ ActOk a := by
  match cs, hl with
  | [c0, c1, c2, c3, c4, c5], _ =>
    obtain ⟨n0, y0, h0⟩ := read_field Try.underlying57 h 0 _ rfl 0 1 rfl (by kernel_rfl)
    obtain ⟨n1, y1, h1⟩ := read_field Try.underlying57 h 1 _ rfl 1 1 rfl (by kernel_rfl)
    obtain ⟨n2, y2, h2⟩ := read_field Try.underlying57 h 2 _ rfl 2 1 rfl (by kernel_rfl)
    obtain ⟨n3, y3, h3⟩ := read_field Try.underlying57 h 3 _ rfl 3 1 rfl (by kernel_rfl)
    obtain ⟨n4, y4, h4⟩ := read_field Try.underlying57 h 4 _ rfl 4 1 rfl (by kernel_rfl)
    obtain ⟨n5, y5, h5⟩ := read_field Try.underlying57 h 5 _ rfl 5 1 rfl (by kernel_rfl)
    obtain ⟨z0, rfl, w0⟩ := trod_int1 Try.underlying5 h0
    obtain ⟨z1, rfl, w1⟩ := trod_int1 Try.underlying3 h1
    obtain ⟨z2, rfl, w2⟩ := trod_int1 Try.underlying3 h2
    obtain ⟨z3, rfl, w3⟩ := trod_int1 Try.underlying5 h3
    obtain ⟨p, rfl⟩ := trod_bool1 Try.underlying4 h4
    obtain ⟨s, rfl, w4⟩ := trod_string1 Try.underlying9 h5
    obtain ⟨k0, rfl⟩ := wf_u8 w0
    obtain ⟨k3, rfl⟩ := wf_u8 w3
    exact ⟨⟨k0, z1, z2, k3, p, s⟩, rfl, wf_lo64 w1, wf_lo64 w2, strLen w4⟩

instance : Inhabited ActC := ⟨⟨0, 0, 0, 0, false, ⟨#[]⟩⟩⟩

theorem read_acts {fuel : Nat} {v : Value} {x : DataW H × List MemPlace} (h : DataW.trod enc Try.prog w base spare held fuel 54 [v] = some x) :
    ∃ ad cap l, v = .slice ad (List.length l) cap ∧ ActsIn w ad cap l := by
  obtain ⟨ad, len, cap, E, rfl, h1, h2, h3⟩ := read_slice (c := 6) Try.underlying54 (by kernel_rfl) (by decide) h
  obtain ⟨A, hA⟩ := Deep.choose_lt (α := ActC) (p := fun i a => E i = actCells a ∧ ActOk a) (fun i hi => by
    obtain ⟨h4, _, n, y, h5⟩ := h3 i hi
    exact read_act h4 h5)
  refine ⟨ad, cap, (List.range len).map A, by simp, ⟨fun i hi k u hk => ?_, fun i hi => ?_, by simpa using h1, h2⟩⟩
  · have hil : i < len := by simpa using hi
    obtain ⟨_, h4, _⟩ := h3 i hil
    refine h4 k u ?_
    rw [(hA i hil).1]
    simpa using hk
  · have hil : i < len := by simpa using hi
    simpa using (hA i hil).2
end

/-- What an act puts. -/
def ActC.what (x : ActC) : ByteArray := if x.data.size = 0 then blk x.fill else x.data
theorem what_any (x : ActC) (w : World) : Calls Try.prog 27 #[.agg (actCells x).toArray] w fun e w' => e = .returned (.string x.what) ∧ Below w.heap.size w w' := by
  have HB := Lib.hid (fun w => fill_any x.fill w)
  unfold ActC.what
  obtain ⟨kind, b, n, fill, pin, data⟩ := x
  dsimp only [actCells] at HB ⊢
  generalize blk fill = T at *
  have hbf : ∃ f : Int, bval fill = .int .u8 f := ⟨_, rfl⟩
  have hbk : ∃ f : Int, bval kind = .int .u8 f := ⟨_, rfl⟩
  generalize bval fill = vf at *
  generalize bval kind = vk at *
  obtain ⟨f, rfl⟩ := hbf
  obtain ⟨k, rfl⟩ := hbk
  by_cases h0 : data.size = 0
  · rw [if_pos h0]
    have hem : data.toList.isEmpty = true := by
      obtain ⟨⟨l⟩⟩ := data
      have : (⟨⟨l⟩⟩ : ByteArray).toList = l := by simp
      rw [this]; cases l with
      | nil => rfl
      | cons a r => simp [ByteArray.size] at h0
    clear h0
    go_enter Try.func27, Try.ntmps27
    go_wp2_with fail
    refine (HB.out _).mono ?_
    rintro e w1 ⟨rfl, hb1⟩
    have hb2 : Below w.heap.size w w1 := ((Below.refl _ _).alloc (Nat.le_refl _) _).trans (hb1.mono (by simp))
    go_wp2_with fail
    go_ret
    exact ⟨rfl, hb2⟩
  · rw [if_neg h0]
    have hem : data.toList.isEmpty = false := by
      obtain ⟨⟨l⟩⟩ := data
      have : (⟨⟨l⟩⟩ : ByteArray).toList = l := by simp
      rw [this]; cases l with
      | nil => simp [ByteArray.size] at h0
      | cons a r => rfl
    clear h0
    go_enter Try.func27, Try.ntmps27
    go_wp2_with fail
    go_ret
    exact ⟨rfl, (Below.refl _ _).alloc (Nat.le_refl _) _⟩

theorem ActsIn.at {w : World} {ad : Option Addr} {cap : Nat} {l : List ActC} (h : ActsIn w ad cap l) (i : Nat) (hi : i < l.length) : ∃ g off, ad = some ⟨g, off, none⟩ ∧
    w.cell? ⟨g, off + i * 6, none⟩ = some (bval (l.getD i default).kind) ∧ w.cell? ⟨g, off + i * 6 + 1, none⟩ = some (.int .i64 (l.getD i default).b) ∧ w.cell? ⟨g, off + i * 6 + 2, none⟩ = some (.int .i64 (l.getD i default).n) ∧
    w.cell? ⟨g, off + i * 6 + 3, none⟩ = some (bval (l.getD i default).fill) ∧ w.cell? ⟨g, off + i * 6 + 4, none⟩ = some (.bool (l.getD i default).pin) ∧ w.cell? ⟨g, off + i * 6 + 5, none⟩ = some (.string (l.getD i default).data) := by
  have e : l.getD i default = l[i] := by simp [List.getD, hi]
  rw [e]
  obtain ⟨g, off, rfl, c0⟩ := h.cells i hi 0 _ rfl
  obtain ⟨g1, o1, e1, c1⟩ := h.cells i hi 1 _ rfl
  obtain ⟨g2, o2, e2, c2⟩ := h.cells i hi 2 _ rfl
  obtain ⟨g3, o3, e3, c3⟩ := h.cells i hi 3 _ rfl
  obtain ⟨g4, o4, e4, c4⟩ := h.cells i hi 4 _ rfl
  obtain ⟨g5, o5, e5, c5⟩ := h.cells i hi 5 _ rfl
  cases e1; cases e2; cases e3; cases e4; cases e5
  simp only [← Nat.add_assoc, Nat.add_zero] at c0 c1 c2 c3 c4 c5
  exact ⟨g, off, rfl, c0, c1, c2, c3, c4, c5⟩
theorem ActsIn.okAt {w : World} {ad : Option Addr} {cap : Nat} {l : List ActC} (h : ActsIn w ad cap l) (i : Nat) (hi : i < l.length) : ActOk (l.getD i default) := by
  have e : l.getD i default = l[i] := by simp [List.getD, hi]
  rw [e]; exact h.ok i hi

theorem wrap64_in (n : Int) : -9223372036854775808 ≤ wrap64 n ∧ wrap64 n ≤ 9223372036854775807 := by unfold wrap64; omega

/-- What a 'no' tells. -/
structure Told (b : Bool) (p : Prop) : Prop where
  out : b = false → p

set_option maxHeartbeats 1000000 in
theorem great_any {w : World} (ad : Option Addr) (cap : Nat) (l : List ActC) (h : ActsIn w ad cap l) : Calls Try.prog 25 #[.slice ad l.length cap] w fun e w' => ∃ b : Bool, e = .returned (.bool b) ∧ Below w.heap.size w w' ∧ Told b (l.length ≤ 150) := by
  have hlen := h.len
  have H := Lib.hid h
  clear h
  go_enter Try.func25, Try.ntmps25
  go_wp2_with fail
  go_loopw [3, 4] (fun u q wr => ∃ (j : Nat) (n : Int), j ≤ l.length ∧ (-9223372036854775808 ≤ n ∧ n ≤ 9223372036854775807) ∧ u = .int .i64 n ∧ q = .int .i64 j ∧ Hid (Below w.heap.size w wr)) (fun _ q _ => l.length - (intOf q).toNat)
  case atStart => exact ⟨0, 0, by omega, by omega, rfl, rfl, Lib.hid (Below.refl _ _)⟩
  case round =>
    obtain ⟨j, n, hj, hn, rfl, rfl, hb⟩ := hrel
    by_cases hlt : j < l.length
    · have i1 : (j : Int) < (l.length : Int) := by omega
      obtain ⟨g, off, rfl, c0, c1, c2, c3, c4, c5⟩ := (H.out.below hb.out).at j hlt
      clear c0 c1 c2 c3 c4
      generalize (l.getD j default).data = t at *
      obtain ⟨m1, hm1⟩ : ∃ m1, IntKind.i64.wrap (n + 1) = m1 := ⟨_, rfl⟩
      obtain ⟨m2, hm2⟩ : ∃ m2, wrap64 (m1 + wrap64 ((t.size : Int) / 100)) = m2 := ⟨_, rfl⟩
      have hm3 : -9223372036854775808 ≤ m2 ∧ m2 ≤ 9223372036854775807 := by rw [← hm2]; exact wrap64_in _
      by_cases hg : 2000 < m2
      · go_wp2_with fail
        go_ret
        exact ⟨true, rfl, hb.out, ⟨by simp⟩⟩
      · go_wp2_with fail
        go_roundw
        case rel => exact ⟨j + 1, m2, by omega, hm3, by first | rfl | (go_num), by go_num, hb⟩
        case measure => simp [intOf]; omega
    · obtain rfl : j = l.length := by omega
      by_cases hg : 150 < (l.length : Int)
      · go_wp2_with fail
        go_ret
        exact ⟨true, rfl, hb.out, ⟨by simp⟩⟩
      · go_wp2_with fail
        go_ret
        exact .inl ⟨rfl, hb.out, ⟨fun _ => by omega⟩⟩


end Go.Proofs.Ytlickjaopbcanaa
