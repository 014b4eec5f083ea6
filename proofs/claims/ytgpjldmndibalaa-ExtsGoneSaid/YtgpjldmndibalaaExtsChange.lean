/- Exts: change. -/
import Derived.Test.YtgpjldmndibalaaExtsPut
import Derived.Test.YtgpjldmndibalaaExtsBlocks
namespace Go.Proofs.Ytgpjldmndibalaa
open Go Go.RowKit

theorem parts_take (l : EL) (a b : Int) (j : Nat) (hj : j < l.length) : Exts.parts (l.take (j + 1)) a b = Exts.parts (l.take j) a b ++ Exts.part (l.getD j (0, 0, 0)) a b := by
  rw [List.take_succ_eq_append_getElem hj, Exts.parts_append]
  congr 1
  have e : l.getD j (0, 0, 0) = l[j] := by simp [List.getD, hj]
  rw [e, Exts.parts_cons]
  show _ ++ [] = _
  rw [List.append_nil]
theorem parts_len (l : EL) (a b : Int) : (Exts.parts l a b).length ≤ l.length := by
  induction l with
  | nil => exact Nat.le_refl _
  | cons x l ih =>
    rw [Exts.parts_cons, List.length_append, List.length_cons]
    have : (Exts.part x a b).length ≤ 1 := by unfold Exts.part; split <;> simp
    omega
theorem parts_take_len (l : EL) (a b : Int) (j : Nat) : (Exts.parts (l.take j) a b).length ≤ l.length := by
  have := parts_len (l.take j) a b
  rw [List.length_take] at this
  omega
theorem change_len (l : EL) (a b : Int) (m : EL) : (Exts.changeR l a b m).length ≤ 2 * l.length + m.length := by
  have h1 := parts_len l 0 a
  have h2 := parts_len l b 2048
  unfold Exts.changeR
  simp only [List.length_append]
  omega
/-- What is answered: a row, and, behind it, what is freed; and an error's number. -/
def Ans (w w' : World) (out : EL) (fr : RL) (k : Int) (e : Ending) : Prop := ∃ (v f : Value) (c : Nat), e = .returned (.tuple #[v, f, .int .i64 k]) ∧ OwnExts w.heap.size w' v out ∧ w.heap.size ≤ c ∧ (∀ k, v.ownBlock = some k → k < c) ∧ OwnRuns c w' f fr ∧ Below w.heap.size w w'
theorem Ans.none {w w' : World} (k : Int) (h : Below w.heap.size w w') : Ans w w' [] [] k (.returned (.tuple #[.slice none 0 0, .slice none 0 0, .int .i64 k])) :=
  ⟨_, _, w.heap.size, rfl, World.ownsRow_nil _ _ _ _, Nat.le_refl _, fun k hk => (by cases hk), World.ownsRow_nil _ _ _ _, h⟩
def freedR (l out : EL) : RL := Runs.minusR (Exts.blocksR l) (Exts.blocksR out)

theorem eblocks_len (l : EL) : (Exts.blocksR l).length ≤ l.length := by
  unfold Exts.blocksR
  split
  · have := norm_len (l.map fun x => (x.2.1, x.2.2))
    simpa using this
  · simp
theorem own_slice {B : Nat} {w : World} {v : Value} {l : RL} (h : OwnRuns B w v l) : ∃ ad n c, v = .slice ad n c := by
  rcases h.2 with ⟨rfl, _⟩ | ⟨g, cap, cur, rfl, _⟩
  · exact ⟨_, _, _, rfl⟩
  · exact ⟨_, _, _, rfl⟩
theorem OwnExts.mono {B B' : Nat} {w : World} {v : Value} {l : EL} (h : OwnExts B w v l) (hb : B' ≤ B) : OwnExts B' w v l := World.ownsRow.mono h hb
theorem RowBox.start (w : World) : RowBox w.heap.size w (w.alloc (.cells #[.slice none 0 0] 73)) [] :=
  ⟨Nat.le_refl _, ⟨_, heap_alloc_new w _, World.ownsRow_nil _ _ _ _⟩, (Below.refl _ _).alloc (Nat.le_refl _) _⟩

set_option maxRecDepth 100000 in
set_option maxHeartbeats 8000000 in
theorem echange_any (v u : Value) (l m : EL) (a b : Int) (w : World) (hr : Exts.Row l) (hm : ∀ y ∈ m, Exts.may y) (h : ExtsAt w v l) (h2 : ExtsAt w u m) (hl : l.length ≤ 10000000) (hml : m.length ≤ 10000000) (ha : 0 ≤ a) (ha2 : a ≤ 9223372036854775807) (hb : 0 ≤ b) (hb2 : b ≤ 9223372036854775807)
    (hout : Exts.Row (Exts.changeR l a b (Exts.parts m a b))) :
    Calls Try.prog 43 #[v, .int .i64 a, .int .i64 b, u] w fun e w' => Ans w w' (Exts.changeR l a b (Exts.parts m a b)) (freedR l (Exts.changeR l a b (Exts.parts m a b))) 0 e := by
  have H := Lib.hid h
  have H2 := Lib.hid h2
  have HR := Lib.hid hr
  have HO := Lib.hid hout
  have HM : Hid (∀ i, i < m.length → Exts.may (m.getD i (0, 0, 0))) := Lib.hid (fun i hi => hm _ (by simp [List.getD, hi]))
  obtain ⟨ad, cap, rfl⟩ : ∃ ad cap, v = .slice ad l.length cap := by
    rcases h with ⟨rfl, rfl⟩ | ⟨b, off, cap, rfl, _⟩
    · exact ⟨_, _, rfl⟩
    · exact ⟨_, _, rfl⟩
  obtain ⟨ad2, cap2, rfl⟩ : ∃ ad cap, u = .slice ad m.length cap := by
    rcases h2 with ⟨rfl, rfl⟩ | ⟨b, off, cap, rfl, _⟩
    · exact ⟨_, _, rfl⟩
    · exact ⟨_, _, rfl⟩
  have hLL := Lib.hid (change_len l a b (Exts.parts m a b))
  have hPL := Lib.hid (parts_len m a b)
  have R0 := Lib.hid (RowBox.start w)
  clear h h2 hr hm hout
  go_enter Try.func43, Try.ntmps43
  go_wp2_with fail
  generalize hX : w.heap.size = X at *
  go_loopw [20] (fun q wr => ∃ j : Nat, q = .int .i64 j ∧ j ≤ l.length ∧ Hid (RowBox X w wr (Exts.parts (l.take j) 0 a))) (fun q _ => l.length - (intOf q).toNat)
  case atStart => exact ⟨0, rfl, by omega, R0⟩
  case round =>
    obtain ⟨j, rfl, hj, hb0⟩ := hrel
    by_cases hlt : j < l.length
    · have i0 : (0 : Int) ≤ (j : Int) := by omega
      have i1 : (j : Int) < (l.length : Int) := by omega
      obtain ⟨hll, g, off, rfl, c0, c1, c2⟩ := (H.out.below (B := 0) (hX ▸ hb0.out.bel)).cells j hlt
      clear hll
      have hmy := (HR.out.may (l.getD j (0, 0, 0)) (by simp [List.getD, hlt]))
      have hnx := Lib.hid (parts_take l 0 a j hlt)
      have hln := Lib.hid (show (Exts.parts (l.take j) 0 a).length ≤ 1000000000 by have := parts_take_len l 0 a j; omega)
      have bA : Below wr.heap.size wr (wr.alloc (.cells #[.int .i64 (l.getD j (0, 0, 0)).1, .int .i64 (l.getD j (0, 0, 0)).2.1, .int .i64 (l.getD j (0, 0, 0)).2.2] 37)) := (Below.refl _ _).alloc (Nat.le_refl _) _
      have q := Lib.hid (eput_any X w _ (l.getD j (0, 0, 0)) 0 a _ (hb0.out.below bA) hmy (Int.le_refl _) (by omega) ⟨by omega, by omega⟩ hln.out)
      generalize l.getD j (0, 0, 0) = x at *
      obtain ⟨xa, xb, xc⟩ := x
      dsimp only at *
      clear hmy bA hb0
      go_wp2_with fail
      refine q.out.mono ?_
      rintro e w4 ⟨rfl, r4⟩
      have R4 : Hid (RowBox X w w4 (Exts.parts (l.take (j + 1)) 0 a)) := Lib.hid (by rw [hnx.out, show Exts.parts (l.take j) 0 a ++ Exts.part (xa, xb, xc) 0 a = Exts.parts (l.take j) 0 a ++ Exts.part (xa, xb, xc) 0 a from rfl]; exact r4)
      clear r4 q
      go_wp2_with fail
      go_roundw
      case rel => exact ⟨j + 1, by go_num, by omega, R4⟩
      case measure => simp [intOf]; omega
    · obtain rfl : j = l.length := by omega
      have R1 := Lib.hid hb0.out
      rw [List.take_length] at R1
      clear hb0
      go_wp2_with fail
      go_loopw [30] (fun q wr => ∃ j : Nat, q = .int .i64 j ∧ j ≤ m.length ∧ Hid (RowBox X w wr (Exts.parts l 0 a ++ Exts.parts (m.take j) a b))) (fun q _ => m.length - (intOf q).toNat)
      case atStart => exact ⟨0, rfl, by omega, Lib.hid (by have := R1.out; simpa [Exts.parts] using this)⟩
      case round =>
        obtain ⟨j, rfl, hj, hb0⟩ := hrel
        by_cases hlt : j < m.length
        · have i0 : (0 : Int) ≤ (j : Int) := by omega
          have i1 : (j : Int) < (m.length : Int) := by omega
          obtain ⟨hll, g, off, rfl, c0, c1, c2⟩ := (H2.out.below (B := 0) (hX ▸ hb0.out.bel)).cells j hlt
          clear hll
          have hmy := HM.out j hlt
          have hnx := Lib.hid (parts_take m a b j hlt)
          have hln := Lib.hid (show (Exts.parts l 0 a ++ Exts.parts (m.take j) a b).length ≤ 1000000000 by have := parts_take_len m a b j; have := parts_len l 0 a; rw [List.length_append]; omega)
          have bA : Below wr.heap.size wr (wr.alloc (.cells #[.int .i64 (m.getD j (0, 0, 0)).1, .int .i64 (m.getD j (0, 0, 0)).2.1, .int .i64 (m.getD j (0, 0, 0)).2.2] 37)) := (Below.refl _ _).alloc (Nat.le_refl _) _
          have q := Lib.hid (eput_any X w _ (m.getD j (0, 0, 0)) a b _ (hb0.out.below bA) hmy ha ha2 ⟨by omega, by omega⟩ hln.out)
          generalize m.getD j (0, 0, 0) = x at *
          obtain ⟨xa, xb, xc⟩ := x
          dsimp only at *
          clear hmy bA hb0
          go_wp2_with fail
          refine q.out.mono ?_
          rintro e w4 ⟨rfl, r4⟩
          have R4 : Hid (RowBox X w w4 (Exts.parts l 0 a ++ Exts.parts (m.take (j + 1)) a b)) := Lib.hid (by rw [hnx.out, ← List.append_assoc]; exact r4)
          clear r4 q
          go_wp2_with fail
          go_roundw
          case rel => exact ⟨j + 1, by go_num, by omega, R4⟩
          case measure => simp [intOf]; omega
        · obtain rfl : j = m.length := by omega
          have R2 := Lib.hid hb0.out
          rw [List.take_length] at R2
          clear hb0
          go_wp2_with fail
          go_loopw [41] (fun q wr => ∃ j : Nat, q = .int .i64 j ∧ j ≤ l.length ∧ Hid (RowBox X w wr ((Exts.parts l 0 a ++ Exts.parts m a b) ++ Exts.parts (l.take j) b 2048))) (fun q _ => l.length - (intOf q).toNat)
          case atStart => exact ⟨0, rfl, by omega, Lib.hid (by have := R2.out; simpa [Exts.parts] using this)⟩
          case round =>
            obtain ⟨j, rfl, hj, hb0⟩ := hrel
            by_cases hlt : j < l.length
            · have i0 : (0 : Int) ≤ (j : Int) := by omega
              have i1 : (j : Int) < (l.length : Int) := by omega
              obtain ⟨hll, g, off, rfl, c0, c1, c2⟩ := (H.out.below (B := 0) (hX ▸ hb0.out.bel)).cells j hlt
              clear hll
              have hmy := (HR.out.may (l.getD j (0, 0, 0)) (by simp [List.getD, hlt]))
              have hnx := Lib.hid (parts_take l b 2048 j hlt)
              have hln := Lib.hid (show ((Exts.parts l 0 a ++ Exts.parts m a b) ++ Exts.parts (l.take j) b 2048).length ≤ 1000000000 by have := parts_take_len l b 2048 j; have := parts_len l 0 a; have := parts_len m a b; rw [List.length_append, List.length_append]; omega)
              have bA : Below wr.heap.size wr (wr.alloc (.cells #[.int .i64 (l.getD j (0, 0, 0)).1, .int .i64 (l.getD j (0, 0, 0)).2.1, .int .i64 (l.getD j (0, 0, 0)).2.2] 37)) := (Below.refl _ _).alloc (Nat.le_refl _) _
              have q := Lib.hid (eput_any X w _ (l.getD j (0, 0, 0)) b 2048 _ (hb0.out.below bA) hmy hb hb2 ⟨by omega, by omega⟩ hln.out)
              generalize l.getD j (0, 0, 0) = x at *
              obtain ⟨xa, xb, xc⟩ := x
              dsimp only at *
              clear hmy bA hb0
              go_wp2_with fail
              refine q.out.mono ?_
              rintro e w4 ⟨rfl, r4⟩
              have R4 : Hid (RowBox X w w4 ((Exts.parts l 0 a ++ Exts.parts m a b) ++ Exts.parts (l.take (j + 1)) b 2048)) := Lib.hid (by rw [hnx.out, ← List.append_assoc]; exact r4)
              clear r4 q
              go_wp2_with fail
              go_roundw
              case rel => exact ⟨j + 1, by go_num, by omega, R4⟩
              case measure => simp [intOf]; omega
            · obtain rfl : j = l.length := by omega
              have R3 := Lib.hid hb0.out
              rw [List.take_length] at R3
              clear hb0
              go_wp2_with fail
              have R4 : Hid (RowBox X w wr (Exts.changeR l a b (Exts.parts m a b))) := R3
              clear R3
              have hLen : (Exts.changeR l a b (Exts.parts m a b)).length ≤ 100000000 := by have := hLL.out; have := hPL.out; omega
              generalize hEq0 : Exts.changeR l a b (Exts.parts m a b) = out at *
              have hEq := Lib.hid hEq0
              clear hEq0
              obtain ⟨vo, hX1, hO1⟩ := R4.out.ex
              have cX := cell_of_one hX1
              have hltX := lt_of_block hX1
              have hbw : Below X w wr := R4.out.bel
              have q1 := Lib.hid (fun w4 (hb : Below wr.heap.size wr w4) => eblocks_any _ l w4 (SmallsE.row HR.out) ((H.out.below (B := 0) (hX ▸ hbw)).below (B := 0) hb) (by omega))
              have q2 := Lib.hid (fun w4 (hb : Below wr.heap.size wr w4) => eblocks_any _ out w4 (SmallsE.row HO.out) ((OwnExts.at hO1).below (B := 0) hb) (by omega))
              obtain ⟨ao, co, rfl⟩ := hO1.slice
              have O1 := Lib.hid hO1
              have BW := Lib.hid hbw
              have lb1 := Lib.hid (Exts.blocks_row l)
              have lb2 := Lib.hid (Exts.blocks_row out)
              have ll1 := Lib.hid (eblocks_len l)
              have ll2 := Lib.hid (eblocks_len out)
              clear hX1 hO1 hbw R4
              go_upto_region 17 with fail
              generalize hBL0 : Exts.blocksR l = BL at *
              have hBL := Lib.hid hBL0
              generalize hBO0 : Exts.blocksR out = BO at *
              have hBO := Lib.hid hBO0
              clear hBL0 hBO0
              go_region_held3 (fun w' => w'.cell? ⟨X, 0, none⟩ = some (.slice ao out.length co))
                (first | exact cX | exact (s4.cell (p := ⟨X, 0, none⟩) hltX).trans cX | exact (s5.cell (p := ⟨X, 0, none⟩) hltX).trans cX | exact (s6.cell (p := ⟨X, 0, none⟩) hltX).trans cX)
                (first | (go_at_call 14; (first | ((with_reducible refine (q1.out _ ((Below.refl _ _).drew)).mono ?_); rintro e w4 ⟨v4, rfl, o4, b4⟩; have s4 : Below wr.heap.size wr w4 := ⟨b4.os, b4.tape, b4.output, b4.size, b4.block⟩; obtain ⟨a4, n4, c4, rfl⟩ := own_slice o4) | ((with_reducible refine (q2.out _ s4).mono ?_); rintro e w5 ⟨v5, rfl, o5, b5⟩; have s5 : Below wr.heap.size wr w5 := s4.trans (b5.mono s4.size); obtain ⟨a5, n5, c5, rfl⟩ := own_slice o5))) | (go_at_call 60; refine (minus_any _ _ BL BO _ (Smalls.row lb1.out) (Smalls.row lb2.out) (OwnRuns.at (own_belowR o4 b5)) (OwnRuns.at o5) (by have := ll1.out; omega) (by have := ll2.out; omega)).mono ?_; rintro e w6 ⟨v6, rfl, o6, b6⟩; have s6 : Below wr.heap.size wr w6 := s5.trans (b6.mono s5.size); obtain ⟨a6, n6, c6, rfl⟩ := own_slice o6))
              have B6 := Lib.hid (BW.out.trans (s6.mono (by have := BW.out.size; omega)))
              have O6 := Lib.hid ((OwnExts.below O1.out s6).mono (show w.heap.size ≤ X + 1 by omega))
              have F6 := Lib.hid o6
              have z5 := s5.size
              have hk : Hid (∀ k, (Value.slice ao out.length co).ownBlock = some k → k < w5.heap.size) := Lib.hid (fun k hk => by have := (World.ownsRow.lt O1.out k hk).2; omega)
              have hle : w.heap.size ≤ w5.heap.size := by have := BW.out.size; omega
              have FIN : Hid (Ans w w6 (Exts.changeR l a b (Exts.parts m a b)) (freedR l (Exts.changeR l a b (Exts.parts m a b))) 0 (.returned (.tuple #[.slice ao out.length co, .slice a6 n6 c6, .int .i64 0]))) := Lib.hid (by rw [hEq.out]; exact ⟨_, _, _, rfl, O6.out, hle, hk.out, by unfold freedR; rw [hBL.out, hBO.out]; exact F6.out, by rw [hX]; exact B6.out⟩)
              clear s4 s5 s6 b4 b5 b6 o4 o5 o6
              go_wp2_with fail
              exact bodyPost_ret (v := .tuple #[.slice ao out.length co, .slice a6 n6 c6, .int .i64 0]) (by simp [results, Try.results43, go_sem]) rfl FIN.out

end Go.Proofs.Ytgpjldmndibalaa
