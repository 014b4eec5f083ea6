/- The document's Minus, Meet, Complement, Union. -/
import Derived.Test.YtkpnimekhekpmaaRunsRefCut
namespace Go.Proofs.Ytkpnimekhekpmaa
open Go Go.RowKit

theorem minus_next (a b : RL) (j : Nat) (hj : j < b.length) : Runs.minusR a (b.take (j + 1)) = if Runs.may (b.getD j (0, 0)) then Runs.cutR (Runs.minusR a (b.take j)) (b.getD j (0, 0)) else Runs.minusR a (b.take j) := by
  unfold Runs.minusR
  rw [List.take_succ_eq_append_getElem hj, List.foldl_append]
  simp [List.getD, hj]

set_option maxRecDepth 100000 in
set_option maxHeartbeats 4000000 in
theorem minus2_any (va vb : Value) (a b : RL) (w : World) (ha : Smalls a) (hb : Smalls b) (h1 : RunsAt w va a) (h2 : RunsAt w vb b) (hla : a.length ≤ 10000000) (hlb : b.length ≤ 10000000) :
    Calls Try.prog 34 #[va, vb] w fun e w' => ∃ v', e = .returned v' ∧ OwnRuns w.heap.size w' v' (Runs.minusR a b) ∧ Below w.heap.size w w' := by
  have qn := Lib.hid (normal2_any va a w ha h1 (by omega))
  have H := Lib.hid h2
  have HS := Lib.hid hb
  obtain ⟨ad, cap, rfl⟩ : ∃ ad cap, vb = .slice ad b.length cap := by
    rcases h2 with ⟨rfl, rfl⟩ | ⟨b, off, cap, rfl, _⟩
    · exact ⟨_, _, rfl⟩
    · exact ⟨_, _, rfl⟩
  clear h1 h2 hb ha
  go_enter Try.func34, Try.ntmps34
  go_wp2_with fail
  refine qn.out.mono ?_
  rintro e w1 ⟨v1, rfl, o1, b1⟩
  have O1 : Hid (OwnRuns w.heap.size w1 v1 (Runs.minusR a (b.take 0))) := Lib.hid o1
  have B1 := Lib.hid b1
  clear o1 b1 qn
  go_wp2_with fail
  go_loopw [5, 6] (fun p q wr => ∃ (u : Value) (j : Nat), u = p ∧ q = .int .i64 j ∧ j ≤ b.length ∧ Hid (OwnRuns w.heap.size wr u (Runs.minusR a (b.take j))) ∧ Hid (Below w.heap.size w wr)) (fun _ q _ => b.length - (intOf q).toNat)
  case atStart => exact ⟨_, 0, rfl, rfl, by omega, O1, B1⟩
  case round =>
    obtain ⟨u, j, rfl, rfl, hj, ho, hbl⟩ := hrel
    by_cases hlt : j < b.length
    · have i0 : (0 : Int) ≤ (j : Int) := by omega
      have i1 : (j : Int) < (b.length : Int) := by omega
      have hsx := HS.out.at j hlt
      obtain ⟨hll, g, off, rfl, c0, c1⟩ := (H.out.below (B := 0) hbl.out).cells j hlt
      have hlen : (Runs.minusR a (b.take j)).length ≤ 20000001 := by have := minus_len a (b.take j); rw [List.length_take] at this; omega
      have hR := Lib.hid (Runs.minusR_spec a (b.take j)).1
      have hnx := Lib.hid (minus_next a b j hlt)
      have qm := Lib.hid (fun w => may2_b _ hsx w)
      have hgl := World.block_lt_of_cell? _ _ c0
      have hsz := hbl.out.size
      clear hll
      generalize Runs.minusR a (b.take j) = R at *
      generalize b.getD j (0, 0) = x at *
      obtain ⟨xa, xb⟩ := x
      dsimp only at *
      by_cases k : Runs.may (xa, xb)
      · rw [decide_eq_true k] at qm
        rw [if_pos k] at hnx
        have K := Lib.hid k
        clear k
        go_wp2_with fail
        refine (qm.out _).mono ?_
        rintro e w1 ⟨rfl, b1⟩
        have O1 := Lib.hid (own_belowR ho.out b1)
        have B1 := Lib.hid (hbl.out.trans (b1.mono hsz))
        have d0 := (b1.cell (p := ⟨g, off + j * 2, none⟩) hgl).trans c0
        have d1 := (b1.cell (p := ⟨g, off + j * 2 + 1, none⟩) hgl).trans c1
        have qp := Lib.hid (cut_any u R (xa, xb) w1 hR.out K.out (OwnRuns.at O1.out) (by omega))
        clear b1 c0 c1
        go_wp2_with fail
        refine qp.out.mono ?_
        rintro e w2 ⟨v2, rfl, o2, b2⟩
        have O2 : Hid (OwnRuns w.heap.size w2 v2 (Runs.minusR a (b.take (j + 1)))) := Lib.hid (by
          rw [hnx.out]
          exact World.ownsRow.mono o2 B1.out.size)
        have B2 := Lib.hid (B1.out.trans (b2.mono B1.out.size))
        clear o2 b2 qp
        go_wp2_with fail
        go_roundw
        case rel => exact ⟨v2, j + 1, rfl, by go_num, by omega, O2, B2⟩
        case measure => simp [intOf]; omega
      · rw [decide_eq_false k] at qm
        rw [if_neg k] at hnx
        clear k
        go_wp2_with fail
        refine (qm.out _).mono ?_
        rintro e w1 ⟨rfl, b1⟩
        have O1 : Hid (OwnRuns w.heap.size w1 u (Runs.minusR a (b.take (j + 1)))) := Lib.hid (by
          rw [hnx.out]
          exact own_belowR ho.out b1)
        have B1 := Lib.hid (hbl.out.trans (b1.mono hsz))
        clear b1
        go_wp2_with fail
        go_roundw
        case rel => exact ⟨u, j + 1, rfl, by go_num, by omega, O1, B1⟩
        case measure => simp [intOf]; omega
    · obtain rfl : j = b.length := by omega
      have O9 : Hid (OwnRuns w.heap.size wr u (Runs.minusR a b)) := Lib.hid (by
        have := ho.out
        rwa [List.take_length] at this)
      go_wp2_with fail
      go_ret
      exact ⟨_, rfl, O9.out, hbl.out⟩

set_option maxHeartbeats 2000000 in
theorem meet2_any (va vb : Value) (a b : RL) (w : World) (ha : Smalls a) (hb : Smalls b) (h1 : RunsAt w va a) (h2 : RunsAt w vb b) (hla : a.length ≤ 1000000) (hlb : b.length ≤ 1000000) :
    Calls Try.prog 35 #[va, vb] w fun e w' => ∃ v', e = .returned v' ∧ OwnRuns w.heap.size w' v' (Runs.meetR a b) ∧ Below w.heap.size w w' := by
  have q1 := Lib.hid (minus2_any va vb a b w ha hb h1 h2 (by omega) (by omega))
  have q2 := Lib.hid (fun v1 w1 (hb1 : Below w.heap.size w w1) (h3 : RunsAt w1 v1 (Runs.minusR a b)) => minus2_any va v1 a (Runs.minusR a b) w1 ha (Smalls.row (minus_row a b)) (h1.below (B := 0) hb1) h3 (by omega) (by have := minus_len a b; omega))
  clear h1 h2
  go_enter Try.func35, Try.ntmps35
  go_wp2_with fail
  refine q1.out.mono ?_
  rintro e w1 ⟨v1, rfl, o1, b1⟩
  have B1 := Lib.hid b1
  have q3 := Lib.hid (q2.out v1 w1 b1 o1.at)
  clear o1 b1 q1 q2
  go_wp2_with fail
  refine q3.out.mono ?_
  rintro e w2 ⟨v2, rfl, o2, b2⟩
  have O2 : Hid (OwnRuns w.heap.size w2 v2 (Runs.meetR a b)) := Lib.hid (World.ownsRow.mono o2 B1.out.size)
  have B2 := Lib.hid (B1.out.trans (b2.mono B1.out.size))
  clear o2 b2 q3
  go_wp2_with fail
  go_ret
  exact ⟨_, rfl, O2.out, B2.out⟩

set_option maxHeartbeats 2000000 in
theorem rest2_any (v : Value) (l : RL) (n : Int) (w : World) (hs : Smalls l) (h : RunsAt w v l) (hl : l.length ≤ 1000000) (hn : -9223372036854775808 ≤ n ∧ n ≤ 9223372036854775807) :
    Calls Try.prog 13 #[v, .int .i64 n] w fun e w' => ∃ v', e = .returned v' ∧ OwnRuns w.heap.size w' v' (Runs.restR l n) ∧ Below w.heap.size w w' := by
  by_cases k : n < 1
  · have hr : Runs.restR l n = [] := by unfold Runs.restR; rw [if_pos k]
    rw [hr]
    go_enter Try.func13, Try.ntmps13
    go_wp2_with fail
    go_ret
    exact ⟨_, rfl, World.ownsRow_nil _ _ _ _, Below.refl _ _⟩
  · have hr : Runs.restR l n = Runs.minusR [(0, n)] l := by unfold Runs.restR; rw [if_neg k]
    rw [hr]
    have bA : Below w.heap.size w (w.alloc (.cells #[.int .i64 0, .int .i64 n] 30)) := (Below.refl _ _).alloc (Nat.le_refl _) _
    have q1 := Lib.hid (minus2_any (.slice (some ⟨w.heap.size, 0, none⟩) 1 1) v [(0, n)] l (w.alloc (.cells #[.int .i64 0, .int .i64 n] 30)) (fun x hx => by
      obtain rfl := List.mem_singleton.1 hx
      exact ⟨⟨by omega, by omega⟩, hn⟩) hs (runsAt_lit w [(0, n)] #[.int .i64 0, .int .i64 n] rfl 1) (h.below (B := 0) bA) (by simp) (by omega))
    have BA := Lib.hid bA
    clear bA h
    go_enter Try.func13, Try.ntmps13
    go_wp2_with fail
    refine q1.out.mono ?_
    rintro e w1 ⟨v1, rfl, o1, b1⟩
    have O1 : Hid (OwnRuns w.heap.size w1 v1 (Runs.minusR [(0, n)] l)) := Lib.hid (World.ownsRow.mono o1 BA.out.size)
    have B1 := Lib.hid (BA.out.trans (b1.mono BA.out.size))
    clear o1 b1 q1
    go_wp2_with fail
    go_ret
    exact ⟨_, rfl, O1.out, B1.out⟩

end Go.Proofs.Ytkpnimekhekpmaa
