/- Chapter 04's examples: alive. -/
import Derived.Test.YtkpnimekhekpmaaRunsUnion
namespace Go.Proofs.Ytkpnimekhekpmaa
open Go Go.RowKit

abbrev exA : RL := [(0, 10)]
abbrev exB : RL := [(3, 2), (9, 4)]
abbrev exN : RL := [(5, 2), (0, 1), (6, 3)]
abbrev exBad : RL := [(0, 2), (2, 1)]
abbrev exM : RL := [(0, 3), (5, 4)]
abbrev exT : RL := [(3, 2), (9, 1)]
def smallB (l : RL) : Bool := l.all fun x => decide (-9223372036854775808 ≤ x.1) && decide (x.1 ≤ 9223372036854775807) && decide (-9223372036854775808 ≤ x.2) && decide (x.2 ≤ 9223372036854775807)
theorem smallB_ok (l : RL) (h : smallB l = true) : Smalls l := by
  intro x hx
  have := List.all_eq_true.1 h x hx
  simp only [Bool.and_eq_true, decide_eq_true_eq] at this
  exact ⟨⟨this.1.1.1, this.1.1.2⟩, this.1.2, this.2⟩
theorem ex_minus : Runs.minusR exA exB = exM := by decide +kernel
theorem ex_meet : Runs.meetR exA exB = exT := by decide +kernel
theorem ex_check : okTo exB exB.length = true := by decide +kernel
theorem ex_bad : okTo exBad exBad.length = false := by decide +kernel
theorem ex_norm : Runs.normR exN = [(0, 1), (5, 4)] := by decide +kernel
theorem ex_normB : Runs.normR exB = [(3, 2), (9, 4)] := by decide +kernel
theorem ex_sort (a b : Int) (h : a ≤ b) : sortI [a, b] = [a, b] := List.mergeSort_of_pairwise (by simp [h])
theorem ex_lens : lensR exN = [1, 4] := by
  unfold lensR
  rw [ex_norm]
  exact ex_sort 1 4 (by decide)
theorem ex_lensB : lensR exB = [2, 4] := by
  unfold lensR
  rw [ex_normB]
  exact ex_sort 2 4 (by decide)
theorem ex_count : countR exB = 6 := by
  unfold countR
  rw [ex_normB]
  decide
theorem runsAt_lit (w : World) (l : RL) (vs : Array Value) (h : vs.toList = rcells l) (c : Nat) : RunsAt (w.alloc (.cells vs 30)) (.slice (some ⟨w.heap.size, 0, none⟩) l.length c) l :=
  .inr ⟨_, 0, c, rfl, fun j u hj => by
    rw [Nat.zero_add, box_cell, ← Array.getElem?_toList, h]
    exact hj⟩

theorem same_b (w : World) (v1 v2 : Value) (l1 l2 : RL) (h1 : RunsAt w v1 l1) (h2 : RunsAt w v2 l2) (hn1 : l1.length ≤ 9223372036854775807) (hn2 : l2.length ≤ 9223372036854775807) (r : Bool) (hr : (l1 == l2) = r) :
    Calls Try.prog 14 #[v1, v2] w fun e w' => e = .returned (.bool r) ∧ Below w.heap.size w w' := by
  refine (same_any w v1 v2 l1 l2 h1 h2 hn1 hn2).mono ?_
  rintro e w' ⟨rfl, k, rfl⟩
  exact ⟨by rw [hr], below_dr (Below.refl _ _)⟩

set_option maxRecDepth 100000 in
set_option maxHeartbeats 4000000 in
theorem alive_any (w : World) : Calls Try.prog 17 #[] w fun e w' => e = .returned (.bool true) ∧ Below w.heap.size w w' := by
  have b1 : Below w.heap.size w (w.alloc (.cells #[.int .i64 0, .int .i64 10] 30)) := (Below.refl _ _).alloc (Nat.le_refl _) _
  have a1 := runsAt_lit w exA #[.int .i64 0, .int .i64 10] rfl 1
  have b2 : Below w.heap.size w ((w.alloc (.cells #[.int .i64 0, .int .i64 10] 30)).alloc (.cells #[.int .i64 3, .int .i64 2, .int .i64 9, .int .i64 4] 30)) := b1.alloc b1.size _
  have a2 := runsAt_lit (w.alloc (.cells #[.int .i64 0, .int .i64 10] 30)) exB #[.int .i64 3, .int .i64 2, .int .i64 9, .int .i64 4] rfl 2
  have a1' := a1.below (B := 0) ((Below.refl _ _).alloc (Nat.le_refl _) (.cells #[.int .i64 3, .int .i64 2, .int .i64 9, .int .i64 4] 30))
  have b3 : Below w.heap.size w (((w.alloc (.cells #[.int .i64 0, .int .i64 10] 30)).alloc (.cells #[.int .i64 3, .int .i64 2, .int .i64 9, .int .i64 4] 30)).alloc (.cells #[.int .i64 5, .int .i64 2, .int .i64 0, .int .i64 1, .int .i64 6, .int .i64 3] 30)) := b2.alloc b2.size _
  have a3 := runsAt_lit ((w.alloc (.cells #[.int .i64 0, .int .i64 10] 30)).alloc (.cells #[.int .i64 3, .int .i64 2, .int .i64 9, .int .i64 4] 30)) exN #[.int .i64 5, .int .i64 2, .int .i64 0, .int .i64 1, .int .i64 6, .int .i64 3] rfl 3
  have a1'' := Lib.hid (a1'.below (B := 0) ((Below.refl _ _).alloc (Nat.le_refl _) (.cells #[.int .i64 5, .int .i64 2, .int .i64 0, .int .i64 1, .int .i64 6, .int .i64 3] 30)))
  have a2' := Lib.hid (a2.below (B := 0) ((Below.refl _ _).alloc (Nat.le_refl _) (.cells #[.int .i64 5, .int .i64 2, .int .i64 0, .int .i64 1, .int .i64 6, .int .i64 3] 30)))
  simp only [World.size_alloc, List.length_cons, List.length_nil] at a3
  have hl := Lib.hid (lengths_any _ exN _ (smallB_ok _ (by decide)) a3 (by decide))
  simp only [World.size_alloc, List.length_cons, List.length_nil] at a1'' a2'
  have B3 := Lib.hid b3
  clear b1 a1 b2 a2 a1' b3 a3
  go_enter Try.func17, Try.ntmps17
  go_wp2_with fail
  refine hl.out.mono ?_
  rintro e w4 ⟨v4, rfl, o4, b4⟩
  rw [ex_lens] at o4
  obtain ⟨ad, n4, c4, rfl⟩ : ∃ ad n cap, v4 = .slice ad n cap := by
    rcases o4.2 with ⟨rfl, h⟩ | ⟨g, cap, cur, rfl, _⟩
    · exact ⟨none, 0, 0, rfl⟩
    · exact ⟨_, _, _, rfl⟩
  obtain ⟨rfl, g, rfl, n0⟩ := o4.cells 0 (by decide)
  obtain ⟨_, g', e, n1⟩ := o4.cells 1 (by decide)
  cases e
  have B4 := Lib.hid (B3.out.trans (b4.mono B3.out.size))
  have A4 := Lib.hid (a1''.out.below (B := 0) b4)
  have C4 := Lib.hid (a2'.out.below (B := 0) b4)
  clear o4 b4 a1'' a2' B3 hl
  generalize w.heap.size = X at A4 C4 ⊢
  simp only [List.getD, List.getElem?_cons_zero, List.getElem?_cons_succ, Option.getD] at n0 n1
  rw [show [(1 : Int), 4].length = 2 from rfl]
  have s4 := Lib.hid (World.block_lt_of_cell? _ _ n0)
  have N0 := Lib.hid n0
  have N1 := Lib.hid n1
  clear n0 n1
  have q5 := Lib.hid (check_any _ exB w4 (smallB_ok _ (by decide)) C4.out (by decide))
  rw [ex_check] at q5
  go_wp2_with fail
  refine q5.out.mono ?_
  rintro e w5 ⟨rfl, b5⟩
  have bl5 := b5.trans ((Below.refl w5.heap.size w5).alloc (Nat.le_refl _) (.cells #[.int .i64 0, .int .i64 2, .int .i64 2, .int .i64 1] 30) |>.mono b5.size)
  have q6 := Lib.hid (check_any _ exBad _ (smallB_ok _ (by decide)) (runsAt_lit w5 exBad #[.int .i64 0, .int .i64 2, .int .i64 2, .int .i64 1] rfl 2) (by decide))
  rw [ex_bad] at q6
  have BL5 := Lib.hid bl5
  clear b5 bl5 q5
  go_wp2_with fail
  refine q6.out.mono ?_
  rintro e w6 ⟨rfl, b6⟩
  have Y6 := Lib.hid (BL5.out.trans (b6.mono BL5.out.size))
  clear b6 q6 BL5
  have q7 := Lib.hid (minus_any _ _ exA exB w6 (smallB_ok _ (by decide)) (smallB_ok _ (by decide)) (A4.out.below (B := 0) Y6.out) (C4.out.below (B := 0) Y6.out) (by decide) (by decide))
  rw [ex_minus] at q7
  go_wp2_with fail
  refine q7.out.mono ?_
  rintro e w7 ⟨v7, rfl, o7, b7⟩
  have Y7 := Lib.hid ((Y6.out.trans (b7.mono Y6.out.size)).alloc (by have := Y6.out.size; have := b7.size; omega) (.cells #[.int .i64 0, .int .i64 3, .int .i64 5, .int .i64 4] 30))
  have q8 := Lib.hid (same_b _ v7 _ exM exM (o7.at.below (B := 0) ((Below.refl _ _).alloc (Nat.le_refl _) (.cells #[.int .i64 0, .int .i64 3, .int .i64 5, .int .i64 4] 30))) (runsAt_lit w7 exM #[.int .i64 0, .int .i64 3, .int .i64 5, .int .i64 4] rfl 2) (by decide) (by decide) true (by decide))
  clear o7 b7 q7 Y6
  go_wp2_with fail
  refine q8.out.mono ?_
  rintro e w8 ⟨rfl, b8⟩
  have Y8 := Lib.hid (Y7.out.trans (b8.mono Y7.out.size))
  clear b8 q8 Y7
  have q9 := Lib.hid (meet_any _ _ exA exB w8 (smallB_ok _ (by decide)) (smallB_ok _ (by decide)) (A4.out.below (B := 0) Y8.out) (C4.out.below (B := 0) Y8.out) (by decide) (by decide))
  rw [ex_meet] at q9
  go_wp2_with fail
  refine q9.out.mono ?_
  rintro e w9 ⟨v9, rfl, o9, b9⟩
  have Y9 := Lib.hid ((Y8.out.trans (b9.mono Y8.out.size)).alloc (by have := Y8.out.size; have := b9.size; omega) (.cells #[.int .i64 3, .int .i64 2, .int .i64 9, .int .i64 1] 30))
  have q10 := Lib.hid (same_b _ v9 _ exT exT (o9.at.below (B := 0) ((Below.refl _ _).alloc (Nat.le_refl _) (.cells #[.int .i64 3, .int .i64 2, .int .i64 9, .int .i64 1] 30))) (runsAt_lit w9 exT #[.int .i64 3, .int .i64 2, .int .i64 9, .int .i64 1] rfl 2) (by decide) (by decide) true (by decide))
  clear o9 b9 q9 Y8
  go_wp2_with fail
  refine q10.out.mono ?_
  rintro e w10 ⟨rfl, b10⟩
  have Y10 := Lib.hid (Y9.out.trans (b10.mono Y9.out.size))
  clear b10 q10 Y9
  have m0 := (Y10.out.cell (p := ⟨g, 0, none⟩) s4.out).trans N0.out
  have m1 := (Y10.out.cell (p := ⟨g, 1, none⟩) s4.out).trans N1.out
  have q11 := Lib.hid (count_any _ exB w10 (smallB_ok _ (by decide)) (C4.out.below (B := 0) Y10.out) (by decide))
  rw [ex_count] at q11
  go_wp2_with fail
  refine q11.out.mono ?_
  rintro e w11 ⟨rfl, b11⟩
  have Y11 := Lib.hid (Y10.out.trans (b11.mono Y10.out.size))
  clear b11 q11 Y10 m0 m1
  have q12 := Lib.hid (largest_any _ exB w11 (smallB_ok _ (by decide)) (C4.out.below (B := 0) Y11.out) (by decide))
  rw [ex_lensB] at q12
  go_wp2_with fail
  refine q12.out.mono ?_
  rintro e w12 ⟨rfl, b12⟩
  have Y12 := Lib.hid (B4.out.trans ((Y11.out.trans (b12.mono Y11.out.size)).mono B4.out.size))
  clear b12 q12 Y11
  go_wp2_with fail
  go_ret
  exact ⟨rfl, Y12.out⟩

end Go.Proofs.Ytkpnimekhekpmaa
