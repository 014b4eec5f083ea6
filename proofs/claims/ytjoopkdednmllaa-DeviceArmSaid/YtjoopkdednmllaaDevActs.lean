/- The acts that a law of devices is handed; what they write. -/
import Derived.Test.YtjoopkdednmllaaRead
import Derived.Test.YtjoopkdednmllaaDevOpen
namespace Go.Proofs.Ytjoopkdednmllaa
open Go Go.ChangeShapes Go.WideShapes Go.ChangeAt Go.RowKit

structure ActV where
  kind : UInt8
  b : Int
  n : Int
  fill : UInt8
  data : ByteArray
  kad : Option Addr
  kcap : Nat
  keep : List Bool

def actCells (x : ActV) : List Value := [bval x.kind, .int .i64 x.b, .int .i64 x.n, bval x.fill, .string x.data, .slice x.kad x.keep.length x.kcap]
def ActOk (w : World) (x : ActV) : Prop := BoolsIn w x.kad x.kcap x.keep ∧ (-9223372036854775808 ≤ x.b ∧ x.b ≤ 9223372036854775807) ∧ (-9223372036854775808 ≤ x.n ∧ x.n ≤ 9223372036854775807) ∧ x.data.size ≤ 9223372036854775807
/-- The acts lie in memory. -/
structure ActsIn (w : World) (ad : Option Addr) (cap : Nat) (l : List ActV) : Prop where
  cells : ∀ i, (h : i < l.length) → ∀ k u, (actCells l[i])[k]? = some u → ∃ g off, ad = some ⟨g, off, none⟩ ∧ w.cell? ⟨g, off + (i * 6 + k), none⟩ = some u
  ok : ∀ i, (h : i < l.length) → ActOk w l[i]
  len : l.length ≤ cap ∧ cap ≤ 9223372036854775807

theorem BoolsIn.below {w w' : World} {ad : Option Addr} {cap : Nat} {l : List Bool} (h : BoolsIn w ad cap l) (hb : Below w.heap.size w w') : BoolsIn w' ad cap l := ⟨h.1.below hb, h.2⟩
theorem ActsIn.below {w w' : World} {ad : Option Addr} {cap : Nat} {l : List ActV} (h : ActsIn w ad cap l) (hb : Below w.heap.size w w') : ActsIn w' ad cap l := by
  refine ⟨fun i hi k u hk => ?_, fun i hi => ⟨(h.ok i hi).1.below hb, (h.ok i hi).2⟩, h.len⟩
  obtain ⟨g, off, e, hc⟩ := h.cells i hi k u hk
  exact ⟨g, off, e, (hb.cell (p := ⟨g, _, none⟩) (World.block_lt_of_cell? w _ hc)).trans hc⟩

section
variable {H : Type} {enc : TypeId × Value → H} {w : World} {base : Nat} {spare : Nat → Bool} {held : Bool}

theorem read_act {fuel : Nat} {cs : List Value} {x : DataW H × List MemPlace} (hl : cs.length = 6) (h : DataW.trod enc Try.prog w base spare held fuel 34 cs = some x) : ∃ a : ActV, cs = actCells a ∧ ActOk w a := by
  match cs, hl with
  | [c0, c1, c2, c3, c4, c5], _ =>
    obtain ⟨n0, y0, h0⟩ := read_field Try.underlying34 h 0 _ rfl 0 1 rfl (by kernel_rfl)
    obtain ⟨n1, y1, h1⟩ := read_field Try.underlying34 h 1 _ rfl 1 1 rfl (by kernel_rfl)
    obtain ⟨n2, y2, h2⟩ := read_field Try.underlying34 h 2 _ rfl 2 1 rfl (by kernel_rfl)
    obtain ⟨n3, y3, h3⟩ := read_field Try.underlying34 h 3 _ rfl 3 1 rfl (by kernel_rfl)
    obtain ⟨n4, y4, h4⟩ := read_field Try.underlying34 h 4 _ rfl 4 1 rfl (by kernel_rfl)
    obtain ⟨n5, y5, h5⟩ := read_field Try.underlying34 h 5 _ rfl 5 1 rfl (by kernel_rfl)
    obtain ⟨z0, rfl, w0⟩ := trod_int1 Try.underlying5 h0
    obtain ⟨z1, rfl, w1⟩ := trod_int1 Try.underlying3 h1
    obtain ⟨z2, rfl, w2⟩ := trod_int1 Try.underlying3 h2
    obtain ⟨z3, rfl, w3⟩ := trod_int1 Try.underlying5 h3
    obtain ⟨s, rfl, w4⟩ := trod_string1 Try.underlying9 h4
    obtain ⟨ad, cap, l, rfl, w5⟩ := read_bools Try.underlying32 Try.underlying4 (by kernel_rfl) h5
    obtain ⟨k0, rfl⟩ := wf_u8 w0
    obtain ⟨k3, rfl⟩ := wf_u8 w3
    exact ⟨⟨k0, z1, z2, k3, s, ad, cap, l⟩, rfl, w5, wf_lo64 w1, wf_lo64 w2, strLen w4⟩

instance : Inhabited ActV := ⟨⟨0, 0, 0, 0, ⟨#[]⟩, none, 0, []⟩⟩

theorem read_acts {fuel : Nat} {v : Value} {x : DataW H × List MemPlace} (h : DataW.trod enc Try.prog w base spare held fuel 22 [v] = some x) :
    ∃ ad cap l, v = .slice ad (List.length l) cap ∧ ActsIn w ad cap l := by
  obtain ⟨ad, len, cap, E, rfl, h1, h2, h3⟩ := read_slice (c := 6) Try.underlying22 (by kernel_rfl) (by decide) h
  obtain ⟨A, hA⟩ := Deep.choose_lt (α := ActV) (p := fun i a => E i = actCells a ∧ ActOk w a) (fun i hi => by
    obtain ⟨h4, _, n, y, h5⟩ := h3 i hi
    exact read_act h4 h5)
  refine ⟨ad, cap, (List.range len).map A, by simp, ⟨fun i hi k u hk => ?_, fun i hi => ?_, by simpa using h1, h2⟩⟩
  · have hil : i < len := by simpa using hi
    obtain ⟨_, h4, _⟩ := h3 i hil
    refine h4 k u ?_
    rw [(hA i hil).1]
    simpa using hk
  · have hil : i < len := by simpa using hi
    simpa using (hA i hil).2
end

/-- What an act writes. -/
def ActV.what (x : ActV) : ByteArray := if x.data.size = 0 then txt (List.replicate 128 x.fill) else x.data

theorem info_byte : (Try.prog.info? 5).map (fun i => (i.zero, i.size, i.bytes)) = some (some (.int .u8 0), 1, 1) := by kernel_rfl

def fillTo (x : UInt8) (j : Nat) : List UInt8 := List.replicate j x ++ List.replicate (128 - j) 0
theorem fillTo_length (x : UInt8) (j : Nat) (h : j ≤ 128) : (fillTo x j).length = 128 := by simp [fillTo]; omega
theorem fillTo_set (x : UInt8) (j : Nat) (h : j < 128) : (fillTo x j).set j x = fillTo x (j + 1) := by
  unfold fillTo
  rw [List.set_append_right _ _ (by simp), List.length_replicate, Nat.sub_self, show 128 - j = (128 - (j + 1)) + 1 by omega, List.replicate_succ, List.set_cons_zero, List.replicate_succ']
  simp
theorem fillTo_zero (x : UInt8) : fillTo x 0 = List.replicate 128 0 := by simp [fillTo]
theorem fillTo_all (x : UInt8) : fillTo x 128 = List.replicate 128 x := by simp [fillTo]

set_option maxHeartbeats 1000000 in
theorem block_any (x : UInt8) (w : World) : Calls Try.prog 35 #[bval x] w fun e w' => e = .returned (.string (txt (List.replicate 128 x))) ∧ Below w.heap.size w w' := by
  obtain ⟨ib, hib, hzb, hsb, hbb⟩ := info_parts info_byte
  have hmk : ∀ wx : World, (Instr.makeSlice 66 (.int .i64 128) (.int .i64 128)).run Try.prog wx = .ok (.slice (some ⟨wx.heap.size, 0, none⟩) 128 128) (wx.alloc (.cells (bcells (fillTo x 0)).toArray 5)) := fun wx => by
    have hr := run_make (P := Try.prog) wx 66 5 ib (.int .u8 0) Try.underlying66 hib hzb .i64 .i64 128 128 (by omega) (by omega) (by rw [hbb]; omega) (by omega)
    rw [fillTo_zero, ← bcells_zero]
    simpa [hsb, Value.cells, madeCells_one] using hr
  have hr0 : Hid (Row (w.alloc (.cells (bcells (fillTo x 0)).toArray 5)) w.heap.size 5 (bcells (fillTo x 0))) := Lib.hid (Row.new w _ _ rfl)
  have hb0 : Hid (Below w.heap.size w (w.alloc (.cells (bcells (fillTo x 0)).toArray 5))) := Lib.hid ((Below.refl _ _).alloc (Nat.le_refl _) _)
  have hend : Hid (txt (fillTo x 128) = txt (List.replicate 128 x)) := Lib.hid (by rw [fillTo_all])
  generalize hT : txt (List.replicate 128 x) = T at *
  clear hT
  obtain ⟨X, hX⟩ : ∃ X, bval x = X := ⟨_, rfl⟩
  have HX := Lib.hid hX
  rw [hX]
  have hXw : ∃ n : Int, X = .int .u8 n := ⟨_, hX.symm⟩
  clear hX
  obtain ⟨n, rfl⟩ := hXw
  go_enter Try.func35, Try.ntmps35
  go_wp2_with fail
  clear hmk
  go_loopw [4] (fun q wr => ∃ j : Nat, j ≤ 128 ∧ q = .int .i64 j ∧ Hid (Row wr w.heap.size 5 (bcells (fillTo x j))) ∧ Hid (Below w.heap.size w wr)) (fun q _ => 128 - (intOf q).toNat)
  case atStart => exact ⟨0, by omega, rfl, hr0, hb0⟩
  case round =>
    obtain ⟨j, hj, rfl, hr, hb⟩ := hrel
    by_cases hlt : j < 128
    · have i1 : (j : Int) < 128 := by omega
      have hl : (bcells (fillTo x j)).length = 128 := by rw [bcells_length, fillTo_length _ _ hj]
      have hc := hr.out.cellAt j (List.getElem?_eq_getElem (by rw [hl]; exact hlt))
      have hf := hr.out.free j (by rw [hl]; exact hlt)
      generalize (bcells (fillTo x j))[j]'(by rw [hl]; exact hlt) = old at hc
      clear hl
      go_wp2_with fail
      go_roundw
      case rel =>
        refine ⟨j + 1, by omega, by go_num, Lib.hid ?_, Lib.hid (hb.out.setCell (by dsimp only; omega) _)⟩
        have := hr.out.set j (bval x)
        rw [bcells_set, fillTo_set x j hlt, HX.out] at this
        exact this
      case measure => simp [intOf]; omega
    · obtain rfl : j = 128 := by omega
      have hcv : ∀ c : Nat, (convert 66 9 (.slice (some ⟨w.heap.size, 0, none⟩) 128 c)).run Try.prog wr = .ok (.string (txt (fillTo x 128))) wr := fun c =>
        run_string_of_row _ _ 5 128 c (by rw [fillTo_length _ _ (Nat.le_refl _)]) Try.underlying66 Try.underlying5 Try.underlying9 hr.out
      go_wp2_with fail
      go_ret
      exact ⟨by rw [hend.out]; rfl, hb.out⟩

theorem what_any (x : ActV) (w : World) : Calls Try.prog 15 #[.agg (actCells x).toArray] w fun e w' => e = .returned (.string x.what) ∧ Below w.heap.size w w' := by
  have HB := Lib.hid (fun w => block_any x.fill w)
  unfold ActV.what
  obtain ⟨kind, b, n, fill, data, kad, kcap, keep⟩ := x
  dsimp only [actCells] at HB ⊢
  generalize txt (List.replicate 128 fill) = T at *
  generalize keep.length = kl at *
  have hbf : ∃ f : Int, bval fill = .int .u8 f := ⟨_, rfl⟩
  have hbk : ∃ f : Int, bval kind = .int .u8 f := ⟨_, rfl⟩
  generalize bval fill = vf at *
  generalize bval kind = vk at *
  obtain ⟨f, rfl⟩ := hbf
  obtain ⟨k, rfl⟩ := hbk
  by_cases h0 : data.size = 0
  · rw [if_pos h0]
    have hem : data.toList.isEmpty = true := by
      obtain ⟨⟨l⟩⟩ := data
      have : (⟨⟨l⟩⟩ : ByteArray).toList = l := by simp
      rw [this]; cases l with
      | nil => rfl
      | cons a r => simp [ByteArray.size] at h0
    clear h0
    go_enter Try.func15, Try.ntmps15
    go_wp2_with fail
    refine (HB.out _).mono ?_
    rintro e w1 ⟨rfl, hb1⟩
    have hb2 : Below w.heap.size w w1 := ((Below.refl _ _).alloc (Nat.le_refl _) _).trans (hb1.mono (by simp))
    go_wp2_with fail
    go_ret
    exact ⟨rfl, hb2⟩
  · rw [if_neg h0]
    have hem : data.toList.isEmpty = false := by
      obtain ⟨⟨l⟩⟩ := data
      have : (⟨⟨l⟩⟩ : ByteArray).toList = l := by simp
      rw [this]; cases l with
      | nil => simp [ByteArray.size] at h0
      | cons a r => rfl
    clear h0
    go_enter Try.func15, Try.ntmps15
    go_wp2_with fail
    go_ret
    exact ⟨rfl, (Below.refl _ _).alloc (Nat.le_refl _) _⟩

end Go.Proofs.Ytjoopkdednmllaa
