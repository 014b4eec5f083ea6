/- Blocks of one byte; lists of numbers in memory, and whether two are the same. Laws of caches: alive, what it comes to. No walk. Laws of caches: alive, the walk. Laws of caches: made, without, in. -/
import Derived.Test.YtlickjaopbcanaaDevB
import Derived.Test.YtlickjaopbcanaaDevA
import Derived.Test.YtlickjaopbcanaaCacheC
import Derived.Test.YtlickjaopbcanaaRead
namespace Go.Proofs.Ytlickjaopbcanaa
open Go Go.RowKit
variable {B b : Nat} {w : World} {y : Lay} {D : Dev}

theorem info_byte : (Try.prog.info? 5).map (fun i => (i.zero, i.size, i.bytes)) = some (some (.int .u8 0), 1, 1) := by kernel_rfl

def fillTo (x : UInt8) (j : Nat) : List UInt8 := List.replicate j x ++ List.replicate (128 - j) 0
theorem fillTo_length (x : UInt8) (j : Nat) (h : j ≤ 128) : (fillTo x j).length = 128 := by simp [fillTo]; omega
theorem fillTo_set (x : UInt8) (j : Nat) (h : j < 128) : (fillTo x j).set j x = fillTo x (j + 1) := by
  unfold fillTo
  rw [List.set_append_right _ _ (by simp), List.length_replicate, Nat.sub_self, show 128 - j = (128 - (j + 1)) + 1 by omega, List.replicate_succ, List.set_cons_zero, List.replicate_succ']
  simp
theorem fillTo_zero (x : UInt8) : fillTo x 0 = List.replicate 128 0 := by simp [fillTo]
theorem fillTo_all (x : UInt8) : fillTo x 128 = List.replicate 128 x := by simp [fillTo]

set_option maxHeartbeats 1000000 in
theorem block_any (x : UInt8) (w : World) : Calls Try.prog 54 #[bval x] w fun e w' => e = .returned (.string (txt (List.replicate 128 x))) ∧ Below w.heap.size w w' := by
  obtain ⟨ib, hib, hzb, hsb, hbb⟩ := info_parts info_byte
  have hmk : ∀ wx : World, (Instr.makeSlice 23 (.int .i64 128) (.int .i64 128)).run Try.prog wx = .ok (.slice (some ⟨wx.heap.size, 0, none⟩) 128 128) (wx.alloc (.cells (bcells (fillTo x 0)).toArray 5)) := fun wx => by
    have hr := run_make (P := Try.prog) wx 23 5 ib (.int .u8 0) Try.underlying23 hib hzb .i64 .i64 128 128 (by omega) (by omega) (by rw [hbb]; omega) (by omega)
    rw [fillTo_zero, ← bcells_zero]
    simpa [hsb, Value.cells, madeCells_one] using hr
  have hr0 : Hid (Row (w.alloc (.cells (bcells (fillTo x 0)).toArray 5)) w.heap.size 5 (bcells (fillTo x 0))) := Lib.hid (Row.new w _ _ rfl)
  have hb0 : Hid (Below w.heap.size w (w.alloc (.cells (bcells (fillTo x 0)).toArray 5))) := Lib.hid ((Below.refl _ _).alloc (Nat.le_refl _) _)
  have hend : Hid (txt (fillTo x 128) = txt (List.replicate 128 x)) := Lib.hid (by rw [fillTo_all])
  generalize hT : txt (List.replicate 128 x) = T at *
  clear hT
  obtain ⟨X, hX⟩ : ∃ X, bval x = X := ⟨_, rfl⟩
  have HX := Lib.hid hX
  rw [hX]
  have hXw : ∃ n : Int, X = .int .u8 n := ⟨_, hX.symm⟩
  clear hX
  obtain ⟨n, rfl⟩ := hXw
  go_enter Try.func54, Try.ntmps54
  go_wp2_with fail
  clear hmk
  go_loopw [4] (fun q wr => ∃ j : Nat, j ≤ 128 ∧ q = .int .i64 j ∧ Hid (Row wr w.heap.size 5 (bcells (fillTo x j))) ∧ Hid (Below w.heap.size w wr)) (fun q _ => 128 - (intOf q).toNat)
  case atStart => exact ⟨0, by omega, rfl, hr0, hb0⟩
  case round =>
    obtain ⟨j, hj, rfl, hr, hb⟩ := hrel
    by_cases hlt : j < 128
    · have i1 : (j : Int) < 128 := by omega
      have hl : (bcells (fillTo x j)).length = 128 := by rw [bcells_length, fillTo_length _ _ hj]
      have hc := hr.out.cellAt j (List.getElem?_eq_getElem (by rw [hl]; exact hlt))
      have hf := hr.out.free j (by rw [hl]; exact hlt)
      generalize (bcells (fillTo x j))[j]'(by rw [hl]; exact hlt) = old at hc
      clear hl
      go_wp2_with fail
      go_roundw
      case rel =>
        refine ⟨j + 1, by omega, by go_num, Lib.hid ?_, Lib.hid (hb.out.setCell (by dsimp only; omega) _)⟩
        have := hr.out.set j (bval x)
        rw [bcells_set, fillTo_set x j hlt, HX.out] at this
        exact this
      case measure => simp [intOf]; omega
    · obtain rfl : j = 128 := by omega
      have hcv : ∀ c : Nat, (convert 23 9 (.slice (some ⟨w.heap.size, 0, none⟩) 128 c)).run Try.prog wr = .ok (.string (txt (fillTo x 128))) wr := fun c =>
        run_string_of_row _ _ 5 128 c (by rw [fillTo_length _ _ (Nat.le_refl _)]) Try.underlying23 Try.underlying5 Try.underlying9 hr.out
      go_wp2_with fail
      go_ret
      exact ⟨by rw [hend.out]; rfl, hb.out⟩

/-- Numbers lie in memory from an address on. -/
def IntsIn (w : World) (ad : Option Addr) (l : List Int) : Prop := ∀ i, i < l.length → ∃ g off, ad = some ⟨g, off, none⟩ ∧ w.cell? ⟨g, off + i, none⟩ = some (.int .i64 (l.getD i 0))
theorem IntsIn.below {w w' : World} {ad : Option Addr} {l : List Int} (h : IntsIn w ad l) (hb : Below w.heap.size w w') : IntsIn w' ad l := by
  intro i hi
  obtain ⟨g, off, e, hc⟩ := h i hi
  exact ⟨g, off, e, (hb.cell (p := ⟨g, off + i, none⟩) (World.block_lt_of_cell? w _ hc)).trans hc⟩

def sameTo (a b : List Int) (j : Nat) : Prop := ∀ i, i < j → a.getD i 0 = b.getD i 0

theorem ext_getD (a b : List Int) (hl : a.length = b.length) (h : sameTo a b a.length) : a = b := by
  apply List.ext_getElem hl
  intro i h1 h2
  have := h i h1
  simpa [List.getD, h1, h2] using this

set_option maxHeartbeats 1000000 in
theorem sameInts_any (a1 a2 : Option Addr) (c1 c2 : Nat) (x y : List Int) (h1 : IntsIn w a1 x) (h2 : IntsIn w a2 y) (hl1 : x.length ≤ 9223372036854775807) (_hl2 : y.length ≤ 9223372036854775807) :
    Calls Try.prog 31 #[.slice a1 x.length c1, .slice a2 y.length c2] w fun e w' => e = .returned (.bool (decide (x = y))) ∧ Below w.heap.size w w' := by
  obtain ⟨r, hr⟩ : ∃ r, decide (x = y) = r := ⟨_, rfl⟩
  rw [hr]
  have HR := Lib.hid hr
  clear hr
  by_cases hl : x.length = y.length
  · have H1 := Lib.hid h1
    have H2 := Lib.hid h2
    have HE := Lib.hid (ext_getD x y hl)
    clear h1 h2
    rw [← hl]
    have HL := Lib.hid hl
    clear hl
    go_enter Try.func31, Try.ntmps31
    go_wp2_with fail
    go_loopw [5] (fun q wr => ∃ (j : Nat), j ≤ x.length ∧ q = .int .i64 j ∧ Hid (sameTo x y j) ∧ Hid (Below w.heap.size w wr)) (fun q _ => x.length - (intOf q).toNat)
    case atStart => exact ⟨0, by omega, rfl, fun i hi => absurd hi (Nat.not_lt_zero _), Lib.hid (Below.refl _ _)⟩
    case round =>
      obtain ⟨j, hj, rfl, hs, hb⟩ := hrel
      by_cases hlt : j < x.length
      · have i1 : (j : Int) < (x.length : Int) := by omega
        have i0 : (0 : Int) ≤ (j : Int) := by omega
        obtain ⟨g, off, rfl, k1⟩ := (H1.out.below hb.out) j hlt
        obtain ⟨g2, off2, rfl, k2⟩ := (H2.out.below hb.out) j (by rw [← HL.out]; exact hlt)
        by_cases he : x.getD j 0 = y.getD j 0
        · have hs' : Hid (sameTo x y (j + 1)) := Lib.hid (fun i hi => by
            rcases Nat.lt_or_ge i j with h | h
            · exact hs.out i h
            · obtain rfl : i = j := by omega
              exact he)
          rw [he] at k1
          generalize y.getD j 0 = v at *
          clear he
          go_wp2_with fail
          go_quiet (fail)
          go_wp2_with fail
          go_roundw
          case rel => exact ⟨j + 1, by omega, by go_num, hs', Lib.hid (below_drewN hb.out _)⟩
          case measure => simp [intOf]; omega
        · have hne : ¬ (x = y) := fun h => he (by rw [h])
          obtain rfl : r = false := HR.out.symm.trans (decide_eq_false hne)
          have HB := fun k => Lib.hid (below_drewN hb.out k)
          generalize x.getD j 0 = v1 at *
          generalize y.getD j 0 = v2 at *
          clear hne
          go_wp2_with fail
          go_quiet (fail)
          go_wp2_with fail
          go_ret
          exact ⟨rfl, (HB _).out⟩
      · obtain rfl : j = x.length := by omega
        obtain rfl : r = true := HR.out.symm.trans (decide_eq_true (HE.out hs.out))
        go_wp2_with fail
        go_ret
        exact ⟨rfl, hb.out⟩
  · obtain rfl : r = false := HR.out.symm.trans (decide_eq_false (fun h => hl (by rw [h])))
    have hl' : ¬ ((x.length : Int) = (y.length : Int)) := by omega
    clear h1 h2 HR
    generalize x.length = n1 at *
    generalize y.length = n2 at *
    go_enter Try.func31, Try.ntmps31
    go_wp2_with fail
    go_ret
    exact ⟨rfl, Below.refl _ _⟩

def blk (x : UInt8) : ByteArray := txt (List.replicate 128 x)
theorem blk_size (x : UInt8) : (blk x).size = 128 := by show (List.toArray _).size = _; simp
theorem blk_any (x : UInt8) (w : World) : Calls Try.prog 54 #[bval x] w fun e w' => e = .returned (.string (blk x)) ∧ Below w.heap.size w w' := block_any x w
theorem zblock_blk : zblock = blk 0 := rfl

/-- A device that is not armed. -/
def plain (kept now : List ByteArray) (pend : List Bool) (left acts : Int) : Dev := ⟨kept, now, pend, false, left, acts⟩

theorem plain_write (kept now : List ByteArray) (pend : List Bool) (left acts : Int) (ii : Int) (i : Nat) (t : ByteArray) (hii : ii = (i : Int)) (hi : i < kept.length) (ht : t.size = 128) :
    (plain kept now pend left acts).writeE ii t = 0 ∧ (plain kept now pend left acts).write ii t = plain kept (now.set i t) (pend.set i true) (wrap64 (left - 1)) (acts + 1) := by
  subst hii
  have h1 : (plain kept now pend left acts).writeE i t = 0 := by
    unfold Dev.writeE Dev.ask
    have : ¬ ((i : Int) < 0 ∨ ((plain kept now pend left acts).kept.length : Int) ≤ (i : Int)) := by show ¬ (_ ∨ (kept.length : Int) ≤ _); omega
    rw [if_neg this]
    simp [ht, Dev.dead, plain]
  refine ⟨h1, ?_⟩
  unfold Dev.write
  rw [if_pos h1]
  rfl
theorem plain_flush (kept now : List ByteArray) (pend : List Bool) (left acts : Int) :
    (plain kept now pend left acts).flushE = 0 ∧ (plain kept now pend left acts).flush = plain now now (List.replicate kept.length false) (wrap64 (left - 1)) (acts + 1) := ⟨rfl, rfl⟩

theorem intsIn_own {n : Nat} {T : TypeId} {ad : Option Addr} {cap : Nat} {l : List Nat} (h : w.ownsRow B T 1 (.slice ad n cap) n (natVs l)) : IntsIn w ad (l.map fun (n : Nat) => (n : Int)) := by
  intro i hi
  rw [List.length_map] at hi
  have hn : l.length = n := by have := h.1; simpa [natVs] using this
  obtain ⟨g, c, e⟩ := own_some h (by omega)
  cases e
  refine ⟨g, 0, rfl, ?_⟩
  rw [Nat.zero_add]
  refine own_cellAt h ?_
  simp [natVs, List.getD, hi]

theorem natInts_at (l : List Nat) (i : Nat) (h : i < l.length) : (l.map fun (n : Nat) => (n : Int)).getD i 0 = (l.getD i 0 : Nat) := by simp [List.getD, h]
theorem HeadAt.form {v : Value} {l : List Nat} (h : HeadAt w B v l) : ∃ ad c, v = .slice ad l.length c ∧ IntsIn w ad (l.map fun (n : Nat) => (n : Int)) := by
  rcases h with ⟨rfl, rfl⟩ | ⟨g, c, cur, rfl, hg, hh, hl, ht⟩
  · exact ⟨none, 0, rfl, fun i hi => by simp at hi⟩
  · refine ⟨_, _, rfl, fun i hi => ?_⟩
    rw [List.length_map] at hi
    refine ⟨g, 0, rfl, ?_⟩
    rw [Nat.zero_add, cell_of_row _ _ _ _ _ _ hh, natInts_at _ _ hi]
    have := congrArg (fun m : List Value => m[i]?) ht
    simp only [natVs, List.getElem?_take, List.getElem?_map, hi, if_true] at this
    rw [← Array.getElem?_toList, this]
    simp [List.getD, hi]
theorem HeadAt.below {w' : World} {v : Value} {l : List Nat} (h : HeadAt w B v l) (hb : Below w.heap.size w w') : HeadAt w' B v l := by
  rcases h with h | ⟨g, c, cur, rfl, hg, hh, hl, ht⟩
  · exact .inl h
  · exact .inr ⟨g, c, cur, rfl, hg, by rw [hb.block g (lt_of_block hh)]; exact hh, hl, ht⟩
theorem intsIn_lit (w : World) (vs : List Int) : IntsIn (w.alloc (.cells (vs.map (Value.int .i64)).toArray 3)) (some ⟨w.heap.size, 0, none⟩) vs := fun i hi => by
  refine ⟨_, _, rfl, ?_⟩
  rw [cell_of_row _ _ _ _ _ _ (heap_alloc_new w _)]
  simp [List.getD, hi]

end Go.Proofs.Ytlickjaopbcanaa

namespace Go.Proofs.Ytlickjaopbcanaa
open Go Go.RowKit Bufs

def q0 (b : Nat) (x : UInt8) : PB := ⟨b, blk x, false, false, 0, 0⟩
def q1 (b : Nat) (x : UInt8) (p : Bool) : PB := ⟨b, blk x, true, p, 0, 0⟩
def A0 : Dev := plain [blk 0, blk 0, blk 0, blk 0] [blk 0, blk 0, blk 0, blk 0] [false, false, false, false] 0 0
def A1 : Dev := plain [blk 0, blk 0, blk 0, blk 0] [blk 97, blk 0, blk 0, blk 0] [true, false, false, false] (wrap64 (0 - 1)) 1
def a1 : PL := [q1 0 97 false]
def a2 : PL := [q1 0 97 false, q0 1 0]
def a3 : PL := [q0 1 0, q1 0 97 false]
def a4 : PL := [q1 0 97 false, q0 2 0]
def a5 : PL := [q0 2 0, q0 3 0]
def a6 : PL := [q0 3 0, q1 1 98 true]
def a7 : PL := [q1 1 98 true, q1 2 97 true]
theorem blk_ne (x : UInt8) : (blk x).size = 128 := blk_size x
theorem A0_eq : zeros 4 = A0 := rfl
theorem put_in {Dv : Dev} {l : PL} {most j : Nat} {data : ByteArray} {pin : Bool} (hj : j < Dv.kept.length) (hd : data.size = 128) (hg : get l j = none) (hr : (roomOf Dv l most).1 = 0) : putS Dv l most (j : Int) data pin = (0, (roomOf Dv l most).2.1, (roomOf Dv l most).2.2 ++ [⟨j, data, true, pin, 0, 0⟩]) := by
  unfold putS
  rw [if_pos (by omega), if_neg (by simp [hd]), Int.toNat_natCast, hg]
  dsimp only
  rw [if_pos hr]
theorem get_in {Dv : Dev} {l : PL} {most j : Nat} (hj : j < Dv.kept.length) (hg : get l j = none) (hr : (roomOf Dv l most).1 = 0) : getS Dv l most (j : Int) = (((roomOf Dv l most).2.1.readS j, 0), (roomOf Dv l most).2.1, (roomOf Dv l most).2.2 ++ [⟨j, (roomOf Dv l most).2.1.readS j, false, false, 0, 0⟩]) := by
  unfold getS
  rw [if_pos (by omega), Int.toNat_natCast, hg]
  dsimp only
  rw [if_pos hr]
theorem e1 : putS A0 [] 2 0 (blk 97) false = (0, A0, a1) := put_in (l := []) (j := 0) (by decide) (blk_size _) rfl rfl
def aAt : Nat → PL
  | 0 => a1
  | 1 => a2
  | 2 => a3
  | _ => a4
def aB : List Int := [1, 0, 2]
theorem eAt (j : Nat) (hj : j < 3) : getS A0 (aAt j) 2 (aB.getD j 0) = (((getS A0 (aAt j) 2 (aB.getD j 0)).1.1, 0), A0, aAt (j + 1)) := by
  rcases (show j = 0 ∨ j = 1 ∨ j = 2 by omega) with rfl | rfl | rfl
  · have := get_in (Dv := A0) (l := a1) (most := 2) (j := 1) (by decide) rfl rfl
    show getS A0 a1 2 ((1 : Nat) : Int) = (((getS A0 a1 2 ((1 : Nat) : Int)).1.1, 0), A0, a2)
    rw [this]; rfl
  · rfl
  · have := get_in (Dv := A0) (l := a3) (most := 2) (j := 2) (by decide) rfl rfl
    show getS A0 a3 2 ((2 : Nat) : Int) = (((getS A0 a3 2 ((2 : Nat) : Int)).1.1, 0), A0, a4)
    rw [this]; rfl
theorem w1 : A0.writeE 0 (blk 97) = 0 ∧ A0.write 0 (blk 97) = A1 := plain_write [blk 0, blk 0, blk 0, blk 0] [blk 0, blk 0, blk 0, blk 0] [false, false, false, false] 0 0 0 0 (blk 97) rfl (Nat.lt_of_sub_eq_succ rfl) (blk_size _)
theorem o1 : outE A0 (q1 0 97 false) = 0 ∧ outD A0 (q1 0 97 false) = A1 := by
  have h : ((q1 0 97 false).dirty && !(q1 0 97 false).pinned) = true := rfl
  unfold outE outD
  rw [if_pos h, if_pos h]
  exact w1
theorem r4 : roomOf A0 a4 2 = (0, A1, [q0 2 0]) := by
  have h1 := o1
  have hf : a4.find? (fun x => !x.pinned) = some (q1 0 97 false) := rfl
  unfold roomOf
  rw [if_neg (show ¬ a4.length < 2 from Nat.lt_irrefl 2), hf]
  dsimp only
  rw [if_pos h1.1, h1.2]
  rfl
theorem e5 : getS A0 a4 2 3 = ((blk 0, 0), A1, a5) := by
  have := get_in (Dv := A0) (l := a4) (most := 2) (j := 3) (by decide) rfl (congrArg Prod.fst r4)
  rw [r4] at this
  exact this
theorem e6 : putS A1 a5 2 1 (blk 98) true = (0, A1, a6) := put_in (Dv := A1) (l := a5) (most := 2) (j := 1) (by decide) (blk_size _) rfl rfl
theorem e7 : putS A1 a6 2 2 (blk 97) true = (0, A1, a7) := put_in (Dv := A1) (l := a6) (most := 2) (j := 2) (by decide) (blk_size _) rfl rfl
theorem e8 : getS A1 a7 2 0 = ((⟨#[]⟩, 70), A1, a7) := rfl
theorem h40 : hasOf a4 4 0 = true ∧ hasOf a4 4 1 = false ∧ hasOf a4 4 2 = true := ⟨rfl, rfl, rfl⟩
theorem rd0 : A0.readS 0 = blk 0 ∧ A0.ask 0 = 0 := ⟨rfl, rfl⟩
theorem rd1 : A1.readS 0 = blk 97 ∧ A1.ask 0 = 0 := ⟨rfl, rfl⟩
theorem d7 : blocksOf a7 PB.dirty 4 = [1, 2] ∧ blocksOf a7 PB.pinned 4 = [1, 2] := ⟨rfl, rfl⟩

/-- The contracts that alive uses. -/
structure Lives (B cb db : Nat) (y : Lay) (E : List Nat) : Prop where
  p1 : ∀ w, CS B w cb db y A0 2 [] E 0 → Calls Try.prog 20 #[.pointer (some ⟨cb, 0, none⟩), .int .i64 0, .string (blk 97), .bool false] w fun e w' => e = .returned (.int .i64 0) ∧ CS B w' cb db y A0 2 (aAt 0) E 10 ∧ Fr B E w w'
  gj : ∀ j, j < 3 → ∀ w, CS B w cb db y A0 2 (aAt j) E (10 + j) → Calls Try.prog 11 #[.pointer (some ⟨cb, 0, none⟩), .int .i64 (aB.getD j 0)] w fun e w' => (∃ s, e = .returned (.tuple #[.string s, .int .i64 0])) ∧ CS B w' cb db y A0 2 (aAt (j + 1)) E (10 + (j + 1)) ∧ Fr B E w w'
  rd0 : ∀ w, CS B w cb db y A0 2 a4 E 20 → Calls Try.prog 28 #[.pointer (some ⟨db, 0, none⟩), .int .i64 0] w fun e w' => e = .returned (.tuple #[.string (blk 0), .int .i64 0]) ∧ w = w'
  h0 : ∀ w, CS B w cb db y A0 2 a4 E 20 → Calls Try.prog 13 #[.pointer (some ⟨cb, 0, none⟩), .int .i64 0] w fun e w' => e = .returned (.bool true) ∧ w = w'
  h1 : ∀ w, CS B w cb db y A0 2 a4 E 20 → Calls Try.prog 13 #[.pointer (some ⟨cb, 0, none⟩), .int .i64 1] w fun e w' => e = .returned (.bool false) ∧ w = w'
  h2 : ∀ w, CS B w cb db y A0 2 a4 E 20 → Calls Try.prog 13 #[.pointer (some ⟨cb, 0, none⟩), .int .i64 2] w fun e w' => e = .returned (.bool true) ∧ w = w'
  g5 : ∀ w, CS B w cb db y A0 2 a4 E 20 → Calls Try.prog 11 #[.pointer (some ⟨cb, 0, none⟩), .int .i64 3] w fun e w' => e = .returned (.tuple #[.string (blk 0), .int .i64 0]) ∧ CS B w' cb db y A1 2 a5 E 21 ∧ Fr B E w w'
  rd1 : ∀ w, CS B w cb db y A1 2 a5 E 21 → Calls Try.prog 28 #[.pointer (some ⟨db, 0, none⟩), .int .i64 0] w fun e w' => e = .returned (.tuple #[.string (blk 97), .int .i64 0]) ∧ w = w'
  p6 : ∀ w, CS B w cb db y A1 2 a5 E 21 → Calls Try.prog 20 #[.pointer (some ⟨cb, 0, none⟩), .int .i64 1, .string (blk 98), .bool true] w fun e w' => e = .returned (.int .i64 0) ∧ CS B w' cb db y A1 2 a6 E 22 ∧ Fr B E w w'
  p7 : ∀ w, CS B w cb db y A1 2 a6 E 22 → Calls Try.prog 20 #[.pointer (some ⟨cb, 0, none⟩), .int .i64 2, .string (blk 97), .bool true] w fun e w' => e = .returned (.int .i64 0) ∧ CS B w' cb db y A1 2 a7 E 23 ∧ Fr B E w w'
  g8 : ∀ w, CS B w cb db y A1 2 a7 E 23 → Calls Try.prog 11 #[.pointer (some ⟨cb, 0, none⟩), .int .i64 0] w fun e w' => e = .returned (.tuple #[.string ⟨#[]⟩, .int .i64 70]) ∧ CS B w' cb db y A1 2 a7 E 24 ∧ Fr B E w w'
  dd : ∀ w, CS B w cb db y A1 2 a7 E 24 → Calls Try.prog 15 #[.pointer (some ⟨cb, 0, none⟩)] w fun e w' => ∃ ad c, e = .returned (.slice ad 2 c) ∧ IntsIn w' ad [1, 2] ∧ Below w.heap.size w w'
  dp : ∀ w, CS B w cb db y A1 2 a7 E 24 → Calls Try.prog 24 #[.pointer (some ⟨cb, 0, none⟩)] w fun e w' => ∃ ad c, e = .returned (.slice ad 2 c) ∧ IntsIn w' ad [1, 2] ∧ Below w.heap.size w w'

theorem lives (B cb db : Nat) (y : Lay) (E : List Nat) : Lives B cb db y E where
  p1 := fun w h => by
    have := cs_put h (by omega) 0 (blk 97) false
    rw [e1] at this
    exact this.mono (fun e w' ⟨h1, h2, h3⟩ => ⟨h1, h2.mono (by omega), h3⟩)
  gj := fun j hj w h => by
    have := cs_get h (by omega) (aB.getD j 0)
    rw [eAt j hj] at this
    exact this.mono (fun e w' ⟨h1, h2, h3⟩ => ⟨⟨_, h1⟩, h2.mono (by omega), h3⟩)
  rd0 := fun w h => by
    have := read_any h.dev 0
    rw [rd0.1, rd0.2] at this
    exact this
  h0 := fun w h => by
    have := cs_has h 0
    rw [show hasOf a4 A0.kept.length 0 = true from rfl] at this
    exact this
  h1 := fun w h => by
    have := cs_has h 1
    rw [show hasOf a4 A0.kept.length 1 = false from rfl] at this
    exact this
  h2 := fun w h => by
    have := cs_has h 2
    rw [show hasOf a4 A0.kept.length 2 = true from rfl] at this
    exact this
  g5 := fun w h => by
    have := cs_get h (by omega) 3
    rw [e5] at this
    exact this
  rd1 := fun w h => by
    have := read_any h.dev 0
    rw [rd1.1, rd1.2] at this
    exact this
  p6 := fun w h => by
    have := cs_put h (by omega) 1 (blk 98) true
    rw [e6] at this
    exact this
  p7 := fun w h => by
    have := cs_put h (by omega) 2 (blk 97) true
    rw [e7] at this
    exact this
  g8 := fun w h => by
    have := cs_get h (by omega) 0
    rw [e8] at this
    exact this
  dd := fun w h => by
    have := cs_dirty h
    rw [show blocksOf a7 PB.dirty A1.kept.length = [1, 2] from rfl] at this
    refine this.mono ?_
    rintro e w' ⟨⟨v, rfl, h1⟩, h2⟩
    obtain ⟨ad, c, rfl, h3⟩ := h1.form
    exact ⟨ad, c, rfl, h3, h2⟩
  dp := fun w h => by
    have := cs_pinned h
    rw [show blocksOf a7 PB.pinned A1.kept.length = [1, 2] from rfl] at this
    refine this.mono ?_
    rintro e w' ⟨⟨v, rfl, h1⟩, h2⟩
    obtain ⟨ad, c, rfl, h3⟩ := h1.form
    exact ⟨ad, c, rfl, h3, h2⟩

end Go.Proofs.Ytlickjaopbcanaa

namespace Go.Proofs.Ytlickjaopbcanaa
open Go Go.RowKit Bufs
variable {B : Nat} {w : World}

theorem fill_any (x : UInt8) (w : World) : Calls Try.prog 21 #[bval x] w fun e w' => e = .returned (.string (blk x)) ∧ Below w.heap.size w w' := by
  have q := Lib.hid (fun w => blk_any x w)
  obtain ⟨X, hX⟩ : ∃ X, bval x = X := ⟨_, rfl⟩
  have hXw : ∃ n : Int, X = .int .u8 n := ⟨_, hX.symm⟩
  rw [hX] at q ⊢
  clear hX
  obtain ⟨n, rfl⟩ := hXw
  go_enter Try.func21, Try.ntmps21
  go_wp2_with fail
  refine (q.out _).mono ?_
  rintro e w' ⟨rfl, hb⟩
  go_wp2_with fail
  go_ret
  exact ⟨rfl, hb⟩
theorem fr_below {E2 : List Nat} {w0 w w' : World} (hb : Below B w0 w) (hB : B ≤ w0.heap.size) (hf : Fr B E2 w w') : Below B w0 w' := hb.trans (hf.below (Nat.le_trans hB hb.size))

set_option maxRecDepth 100000 in
set_option maxHeartbeats 4000000 in
theorem alive_any (w : World) : Calls Try.prog 16 #[] w fun e w' => e = .returned (.bool true) ∧ Below w.heap.size w w' := by
  have hnew := Lib.hid (newdev_any (w := w) 4 (by decide))
  have hB0 : Hid (∀ w, Calls Try.prog 21 #[.int .u8 0] w fun e w' => e = .returned (.string (blk 0)) ∧ Below w.heap.size w w') := Lib.hid (fun w => fill_any 0 w)
  have hB97 : Hid (∀ w, Calls Try.prog 21 #[.int .u8 97] w fun e w' => e = .returned (.string (blk 97)) ∧ Below w.heap.size w w') := Lib.hid (fun w => fill_any 97 w)
  have hB98 : Hid (∀ w, Calls Try.prog 21 #[.int .u8 98] w fun e w' => e = .returned (.string (blk 98)) ∧ Below w.heap.size w w') := Lib.hid (fun w => fill_any 98 w)
  have HL := Lib.hid (lives w.heap.size)
  have hnc := Lib.hid (fun (w1 : World) db y (h : DevAt w.heap.size w1 db y A0) => newcache_any (most := 2) (E := []) h (by omega) (fun _ hk => nomatch hk))
  have hok := Lib.hid (zeros_ok 4)
  have hsame : Hid (∀ (w : World) (a1 : Option Addr) (c1 : Nat) (a2 : Option Addr) (c2 : Nat), IntsIn w a1 [1, 2] → IntsIn w a2 [1, 2] → Calls Try.prog 31 #[.slice a1 2 c1, .slice a2 2 c2] w fun e w' => e = .returned (.bool true) ∧ Below w.heap.size w w') :=
    Lib.hid (fun w a1 c1 a2 c2 h1 h2 => by have := sameInts_any (w := w) a1 a2 c1 c2 [1, 2] [1, 2] h1 h2 (by decide) (by decide); rwa [decide_eq_true rfl] at this)
  go_enter Try.func16, Try.ntmps16
  go_wp2_with fail
  refine hnew.out.mono ?_
  rintro e w1 ⟨b, rfl, ⟨y, d1⟩, b1⟩
  have bs : w.heap.size ≤ b ∧ w.heap.size ≤ y.gk ∧ w.heap.size ≤ y.gn ∧ w.heap.size ≤ y.gp := by have := d1.bounds; omega
  have D1 : Hid (DevAt w.heap.size w1 b y A0) := Lib.hid d1
  have B1 := Lib.hid b1
  clear d1 b1 hnew
  have hnc2 := Lib.hid (hnc.out w1 b y D1.out)
  unfold ptr at hnc2
  clear hnc
  go_wp2_with fail
  refine hnc2.out.mono ?_
  rintro e w2 ⟨cb, rfl, c2, _, b2⟩
  have L0 := Lib.hid (HL.out cb b y [])
  have L := Lib.hid (fun g => HL.out cb b y [g])
  have C2 : Hid (CS w.heap.size w2 cb b y A0 2 [] [] 0) := Lib.hid ⟨0, [], c2, rfl, by omega, hok.out, fun _ h => nomatch h⟩
  have B2 := Lib.hid (B1.out.trans (b2.mono B1.out.size))
  clear c2 b2 B1 D1 HL hnc2 hok
  go_wp2_with fail
  refine (hB97.out _).mono ?_
  rintro e w3 ⟨rfl, b3⟩
  have B3 := Lib.hid (B2.out.trans (b3.mono B2.out.size))
  have C3 := Lib.hid (C2.out.below b3)
  clear b3 B2 C2
  go_wp2_with fail
  refine (L0.out.p1 _ C3.out).mono ?_
  rintro e w4 ⟨rfl, c4, f4⟩
  have C4 := Lib.hid c4
  have B4 := Lib.hid (fr_below B3.out (Nat.le_refl _) f4)
  clear c4 f4 B3 C3
  go_wp2_with fail
  clear L0
  have hg0 : Hid (∀ j, j < 3 → (w4.alloc (.cells #[.int .i64 1, .int .i64 0, .int .i64 2] 3)).cell? ⟨w4.heap.size, j, none⟩ = some (.int .i64 (aB.getD j 0))) := Lib.hid (fun j hj => by
    rw [cell_of_row _ _ _ _ _ _ (heap_alloc_new w4 _)]
    rcases (show j = 0 ∨ j = 1 ∨ j = 2 by omega) with rfl | rfl | rfl <;> rfl)
  have hbl : Below w4.heap.size w4 (w4.alloc (.cells #[.int .i64 1, .int .i64 0, .int .i64 2] 3)) := (Below.refl _ _).alloc (Nat.le_refl _) _
  have C5 : Hid (CS w.heap.size (w4.alloc (.cells #[.int .i64 1, .int .i64 0, .int .i64 2] 3)) cb b y A0 2 (aAt 0) [w4.heap.size] (10 + 0)) := Lib.hid (C4.out.more (S := []) (Only.ofBelow hbl) (fun _ hk => nomatch hk) _ (fun j hj => by rw [List.mem_singleton.1 hj]; exact ⟨by simp, .inr (Nat.le_refl _)⟩))
  have B5 := Lib.hid (B4.out.trans (hbl.mono B4.out.size))
  have lg0 : w4.heap.size < (w4.alloc (.cells #[.int .i64 1, .int .i64 0, .int .i64 2] 3)).heap.size := by simp
  clear C4 B4 hbl
  have L := Lib.hid (L.out w4.heap.size)
  generalize hG : w4.heap.size = g at *
  generalize w4.alloc (.cells #[.int .i64 1, .int .i64 0, .int .i64 2] 3) = w5 at *
  clear hG
  go_loopw [44] (fun q wr => ∃ j : Nat, j ≤ 3 ∧ q = .int .i64 j ∧ Hid (CS w.heap.size wr cb b y A0 2 (aAt j) [g] (10 + j)) ∧ Hid (Below w.heap.size w wr) ∧ Hid (∀ j, j < 3 → wr.cell? ⟨g, j, none⟩ = some (.int .i64 (aB.getD j 0)))) (fun q _ => 3 - (intOf q).toNat)
  case atStart => exact ⟨0, by omega, rfl, C5, B5, hg0⟩
  case round =>
    obtain ⟨j, hj, rfl, hC, hB, hG⟩ := hrel
    by_cases hlt : j < 3
    · have i1 : (j : Int) < 3 := by omega
      have i0 : (0 : Int) ≤ (j : Int) := by omega
      have k1 := hG.out j hlt
      have q := Lib.hid (L.out.gj j hlt _ hC.out)
      clear hC
      generalize aB.getD j 0 = bj at *
      go_wp2_with fail
      refine q.out.mono ?_
      rintro e w6 ⟨⟨s, rfl⟩, c6, f6⟩
      have C6 := Lib.hid c6
      have B6 := Lib.hid (fr_below hB.out (Nat.le_refl _) f6)
      have G6 : Hid (∀ j, j < 3 → w6.cell? ⟨g, j, none⟩ = some (.int .i64 (aB.getD j 0))) := Lib.hid (fun j hj => by
        have h := hG.out j hj
        rw [← h]
        simp only [World.cell?, f6.block g (World.block_lt_of_cell? _ _ h) (.inr (List.mem_singleton.2 rfl))])
      clear c6 f6 q hG hB
      go_wp2_with fail
      go_roundw
      case rel => exact ⟨j + 1, by omega, by go_num, C6, B6, G6⟩
      case measure => simp [intOf]; omega
    · obtain rfl : j = 3 := by omega
      have C : Hid (CS w.heap.size wr cb b y A0 2 a4 [g] 20) := Lib.hid (hC.out.mono (by omega))
      clear hC hG
      go_wp2_with fail
      refine (L.out.rd0 _ C.out).mono ?_
      rintro e w6 ⟨rfl, rfl⟩
      go_wp2_with fail
      refine (L.out.h0 _ C.out).mono ?_
      rintro e w6 ⟨rfl, rfl⟩
      go_wp2_with fail
      refine (L.out.h1 _ C.out).mono ?_
      rintro e w6 ⟨rfl, rfl⟩
      go_wp2_with fail
      refine (L.out.h2 _ C.out).mono ?_
      rintro e w6 ⟨rfl, rfl⟩
      go_wp2_with fail
      refine (hB0.out _).mono ?_
      rintro e w7 ⟨rfl, b7⟩
      have C7 := Lib.hid (C.out.below b7)
      have B7 := Lib.hid (hB.out.trans (b7.mono hB.out.size))
      clear C hB b7
      go_wp2_with fail
      refine (L.out.g5 _ C7.out).mono ?_
      rintro e w8 ⟨rfl, c8, f8⟩
      have C8 := Lib.hid c8
      have B8 := Lib.hid (fr_below B7.out (Nat.le_refl _) f8)
      clear C7 B7 c8 f8
      go_wp2_with fail
      refine (L.out.rd1 _ C8.out).mono ?_
      rintro e w6 ⟨rfl, rfl⟩
      go_wp2_with fail
      refine (hB98.out _).mono ?_
      rintro e w9 ⟨rfl, b9⟩
      have C9 := Lib.hid (C8.out.below b9)
      have B9 := Lib.hid (B8.out.trans (b9.mono B8.out.size))
      clear C8 B8 b9
      go_wp2_with fail
      refine (L.out.p6 _ C9.out).mono ?_
      rintro e w10 ⟨rfl, c10, f10⟩
      have C10 := Lib.hid c10
      have B10 := Lib.hid (fr_below B9.out (Nat.le_refl _) f10)
      clear C9 B9 c10 f10
      go_wp2_with fail
      refine (hB97.out _).mono ?_
      rintro e w11 ⟨rfl, b11⟩
      have C11 := Lib.hid (C10.out.below b11)
      have B11 := Lib.hid (B10.out.trans (b11.mono B10.out.size))
      clear C10 B10 b11
      go_wp2_with fail
      refine (L.out.p7 _ C11.out).mono ?_
      rintro e w12 ⟨rfl, c12, f12⟩
      have C12 := Lib.hid c12
      have B12 := Lib.hid (fr_below B11.out (Nat.le_refl _) f12)
      clear C11 B11 c12 f12
      go_wp2_with fail
      refine (L.out.g8 _ C12.out).mono ?_
      rintro e w13 ⟨rfl, c13, f13⟩
      have C13 := Lib.hid c13
      have B13 := Lib.hid (fr_below B12.out (Nat.le_refl _) f13)
      clear C12 B12 c13 f13
      go_wp2_with fail
      refine (hB97.out _).mono ?_
      rintro e w14 ⟨rfl, b14⟩
      have C14 := Lib.hid (C13.out.below b14)
      have B14 := Lib.hid (B13.out.trans (b14.mono B13.out.size))
      clear C13 B13 b14
      go_wp2_with fail
      refine (L.out.dd _ C14.out).mono ?_
      rintro e w15 ⟨ad, c, rfl, i15, b15⟩
      have C15 := Lib.hid (C14.out.below b15)
      have B15 := Lib.hid (B14.out.trans (b15.mono B14.out.size))
      have I15 := Lib.hid i15
      clear C14 B14 b15 i15
      go_wp2_with fail
      have i2 : IntsIn (w15.alloc (.cells #[.int .i64 1, .int .i64 2] 3)) (some ⟨w15.heap.size, 0, none⟩) [1, 2] := intsIn_lit w15 [1, 2]
      have b16 : Below w15.heap.size w15 (w15.alloc (.cells #[.int .i64 1, .int .i64 2] 3)) := (Below.refl _ _).alloc (Nat.le_refl _) _
      refine (hsame.out _ _ _ _ _ (I15.out.below b16) i2).mono ?_
      rintro e w17 ⟨rfl, b17⟩
      have b18 := b16.trans (b17.mono b16.size)
      have C17 := Lib.hid (C15.out.below b18)
      have B17 := Lib.hid (B15.out.trans (b18.mono B15.out.size))
      clear C15 B15 b16 b17 b18 I15 i2
      go_wp2_with fail
      refine (L.out.dp _ C17.out).mono ?_
      rintro e w18 ⟨ad, c, rfl, i15, b15⟩
      have B18 := Lib.hid (B17.out.trans (b15.mono B17.out.size))
      have I15 := Lib.hid i15
      clear C17 B17 b15 i15
      go_wp2_with fail
      have i2 : IntsIn (w18.alloc (.cells #[.int .i64 1, .int .i64 2] 3)) (some ⟨w18.heap.size, 0, none⟩) [1, 2] := intsIn_lit w18 [1, 2]
      have b16 : Below w18.heap.size w18 (w18.alloc (.cells #[.int .i64 1, .int .i64 2] 3)) := (Below.refl _ _).alloc (Nat.le_refl _) _
      refine (hsame.out _ _ _ _ _ (I15.out.below b16) i2).mono ?_
      rintro e w19 ⟨rfl, b17⟩
      have b18 := b16.trans (b17.mono b16.size)
      have B19 := Lib.hid (B18.out.trans (b18.mono B18.out.size))
      clear B18 b16 b17 b18 I15 i2
      go_wp2_with fail
      go_ret
      exact ⟨rfl, B19.out⟩

end Go.Proofs.Ytlickjaopbcanaa

namespace Go.Proofs.Ytlickjaopbcanaa
open Go Go.RowKit Bufs
variable {B : Nat} {w : World}

theorem DevAt.mono {b B' : Nat} {y : Lay} {D : Dev} (h : DevAt B w b y D) (hb : B' ≤ B) : DevAt B' w b y D := ⟨Nat.le_trans hb h.own, h.cells, own_mono h.kept hb, own_mono h.now hb, own_mono h.pend hb, h.ne, h.pos, h.left, h.acts⟩
def sizeOf0 (a : UInt8) : Nat := 1 + a.toNat % 16
def sizeOf1 (c : UInt8) : Nat := 1 + c.toNat % 8
set_option maxRecDepth 100000 in
theorem made_cache (a c : UInt8) (w : World) : Calls Try.prog 9 #[.agg #[bval a, bval c]] w fun e w' => ∃ db cb y, e = .returned (.tuple #[.pointer (some ⟨db, 0, none⟩), .pointer (some ⟨cb, 0, none⟩)]) ∧ CS w.heap.size w' cb db y (zeros (sizeOf0 a)) (sizeOf1 c) [] [] 0 ∧ Below w.heap.size w w' := by
  have ha := a.toNat_lt
  have hc := c.toNat_lt
  have q1 := Lib.hid (fun w1 : World => newdev_any (w := w1) (sizeOf0 a) (by unfold sizeOf0; omega))
  have q2 := Lib.hid (fun (w1 : World) db y D (h : DevAt w.heap.size w1 db y D) => newcache_any (most := sizeOf1 c) (E := []) h (by unfold sizeOf1; omega) (fun _ hk => nomatch hk))
  have hok := Lib.hid (zeros_ok (sizeOf0 a))
  have e1 : wrap64 (1 + wrap64 (Int.tmod (a.toNat : Int) 16)) = (sizeOf0 a : Nat) := by
    rw [Int.tmod_eq_emod_of_nonneg (by omega)]; unfold wrap64 sizeOf0; omega
  have e2 : wrap64 (1 + wrap64 (Int.tmod (c.toNat : Int) 8)) = (sizeOf1 c : Nat) := by
    rw [Int.tmod_eq_emod_of_nonneg (by omega)]; unfold wrap64 sizeOf1; omega
  unfold bval
  generalize (a.toNat : Int) = ai at *
  generalize (c.toNat : Int) = ci at *
  generalize sizeOf0 a = n at *
  generalize sizeOf1 c = m at *
  go_enter Try.func9, Try.ntmps9
  go_wp2_with fail
  rw [e1]
  refine (q1.out _).mono ?_
  rintro e w1 ⟨db, rfl, ⟨y, d1⟩, b1⟩
  have hb0 : Below w.heap.size w w1 := ((Below.refl _ _).alloc (Nat.le_refl _) _).trans (b1.mono (by simp))
  have kc : w1.cell? ⟨w.heap.size, 1, none⟩ = some (.int .u8 ci) := by
    rw [b1.cell (p := ⟨w.heap.size, 1, none⟩) (by simp)]
    rw [cell_of_row _ _ _ _ _ _ (heap_alloc_new w _)]
    rfl
  have D1 : Hid (DevAt w.heap.size w1 db y (zeros n)) := Lib.hid (d1.mono (by simp))
  have q3 := Lib.hid (q2.out w1 db y _ D1.out)
  have B1 := Lib.hid hb0
  clear d1 b1 hb0 q1 q2
  unfold ptr at q3
  go_wp2_with fail
  rw [e2]
  refine q3.out.mono ?_
  rintro e w2 ⟨cb, rfl, c2, _, b2⟩
  have C2 : Hid (CS w.heap.size w2 cb db y (zeros n) m [] [] 0) := Lib.hid ⟨0, [], c2, rfl, by omega, hok.out, fun _ h => nomatch h⟩
  have B2 := Lib.hid (B1.out.trans (b2.mono B1.out.size))
  clear c2 b2 B1 D1 q3
  go_wp2_with fail
  exact bodyPost_ret (v := .tuple #[.pointer (some ⟨db, 0, none⟩), .pointer (some ⟨cb, 0, none⟩)]) (by simp [results, Try.results9, go_sem]) rfl ⟨db, cb, y, rfl, C2.out, B2.out⟩

def intVs (l : List Int) : List Value := l.map fun n => Value.int .i64 n
def outOfI (l : List Int) (n : Int) (k : Nat) : List Int := (l.take k).filter fun x => x != n
theorem outOfI_le (l : List Int) (n : Int) (k : Nat) : (outOfI l n k).length ≤ k := by
  have h1 := List.length_filter_le (fun x => x != n) (l.take k)
  have h2 := List.length_take_le k l
  unfold outOfI
  omega
theorem outOfI_succ (l : List Int) (n : Int) (k : Nat) (h : k < l.length) : outOfI l n (k + 1) = if l.getD k 0 = n then outOfI l n k else outOfI l n k ++ [l.getD k 0] := by
  have e : l.getD k 0 = l[k] := by simp [List.getD, h]
  unfold outOfI
  rw [List.take_succ_eq_append_getElem h, List.filter_append, e]
  by_cases hn : l[k] = n
  · rw [if_pos hn]; simp [hn]
  · rw [if_neg hn]; simp [hn]
set_option maxRecDepth 100000 in
set_option maxHeartbeats 1000000 in
theorem without_any (ad : Option Addr) (cap : Nat) (l : List Int) (n : Int) (h : IntsIn w ad l) (hl : l.length ≤ 1000000) : Calls Try.prog 12 #[.slice ad l.length cap, .int .i64 n] w fun e w' => ∃ v, e = .returned v ∧ w'.ownsRow w.heap.size 3 1 v (l.filter fun x => x != n).length (intVs (l.filter fun x => x != n)) ∧ Below w.heap.size w w' := by
  obtain ⟨i0, hi0, hz0, hz1, hz2⟩ := info_parts info_int
  have H := Lib.hid h
  have hE : Hid (outOfI l n l.length = l.filter fun x => x != n) := Lib.hid (by unfold outOfI; rw [List.take_length])
  rw [← hE.out]
  clear h
  go_enter Try.func12, Try.ntmps12
  go_wp2_with fail
  go_loopw [5, 6] (fun v q wr => ∃ (j : Nat) (u : Value), j ≤ l.length ∧ u = v ∧ q = .int .i64 j ∧ Hid (wr.ownsRow w.heap.size 3 1 u (outOfI l n j).length (intVs (outOfI l n j))) ∧ Below w.heap.size w wr) (fun _ q _ => l.length - (intOf q).toNat)
  case atStart => exact ⟨0, _, by omega, rfl, rfl, Lib.hid (by unfold outOfI; rw [List.take_zero]; exact World.ownsRow_nil _ _ _ _), Below.refl _ _⟩
  case round =>
    obtain ⟨j, v, hj, rfl, rfl, hg, hbw⟩ := hrel
    by_cases hlt : j < l.length
    · obtain ⟨g, off, rfl, hc⟩ := (H.out.below hbw) j hlt
      have i0' : (0 : Int) ≤ (j : Int) := by omega
      have i1 : (j : Int) < (l.length : Int) := by omega
      have hll := outOfI_le l n j
      by_cases hn : l.getD j 0 = n
      · have hr : Hid (outOfI l n (j + 1) = outOfI l n j) := Lib.hid (by rw [outOfI_succ l n j hlt, if_pos hn])
        rw [hn] at hc
        clear hn
        go_wp2_with fail
        go_roundw
        case rel => exact ⟨j + 1, _, by omega, rfl, by go_num, by rw [hr.out]; exact hg, hbw⟩
        case measure => simp [intOf]; omega
      · have hr : Hid (outOfI l n (j + 1) = outOfI l n j ++ [l.getD j 0]) := Lib.hid (by rw [outOfI_succ l n j hlt, if_neg hn])
        have hn1 : (l.getD j 0 != n) = true := by simp only [bne_iff_ne, ne_eq]; exact hn
        have hn2 : ¬ (l.getD j 0 = n) := hn
        have hlj : l.length = l.length := rfl
        clear hn hlj
        generalize l.getD j 0 = x at *
        generalize outOfI l n j = P at *
        have hone : ∀ u ∈ ([.int .i64 x] : List Value), u.oneCell' = true := by simp [Value.oneCell']
        go_wp2_with (first
          | (at_builtin; refine wpList_append_own _ rfl _ _ 28 rfl w.heap.size 3 i0 (.int .i64 0) 1 8 Try.underlying28 hi0 hz0 hz1 hz2 rfl (by decide) _ P.length _ rfl (hg.out.alloc _) ⟨wr.heap.size, 0, none⟩ 1 1 [.int .i64 x] rfl rfl
              (World.news_of_block (heap_alloc_new _ _)) hone (by unfold maxLen; omega) (by omega) (by have := hbw.size; simp; omega) ?_))
        intro v' w1 hown hgrow _
        have hW : Below w.heap.size w w1 := (hbw.alloc hbw.size (.cells #[.int .i64 x] 3)).grown hgrow (by have := hbw.size; simp; omega) (fun k hk => (hg.out.lt k hk).1)
        have hG : Hid (w1.ownsRow w.heap.size 3 1 v' (P ++ [x]).length (intVs (P ++ [x]))) := Lib.hid (by
          have e : intVs (P ++ [x]) = intVs P ++ [.int .i64 x] := by simp [intVs]
          rw [e, List.length_append]; exact hown)
        clear hown hgrow
        go_wp2_with fail
        go_roundw
        case rel => exact ⟨j + 1, v', by omega, rfl, by go_num, by rw [hr.out]; exact hG, hW⟩
        case measure => simp [intOf]; omega
    · obtain rfl : j = l.length := by omega
      go_wp2_with fail
      go_ret
      exact ⟨_, rfl, hg.out, hbw⟩

end Go.Proofs.Ytlickjaopbcanaa
