/- Bitmaps: the chapter's examples come out. -/
import Derived.Test.YtnpgddndelidfaaBitsRFit
import Derived.Test.YtnpgddndelidfaaBitsCounting
import Derived.Test.YtnpgddndelidfaaBitsRefWith
namespace Go.Proofs.Ytnpgddndelidfaa
open Go Go.RowKit

abbrev exS : ByteArray := { data := #[13, 128] }
theorem ex1 : fitOf 1 15 (runsTo exS.data.toList (firstN exS.data.toList 16)) = ((1, 1), true) := by decide +kernel
theorem ex2 : fitOf 2 14 (runsTo exS.data.toList (firstN exS.data.toList 16)) = ((4, 2), true) := by decide +kernel
theorem ex3 : fitOf 12 0 (runsTo exS.data.toList (firstN exS.data.toList 16)) = ((0, 0), false) := by decide +kernel
theorem ex4 : countTo exS.data.toList (firstN exS.data.toList 16) = 4 := by decide +kernel
theorem ex5 : runsTo exS.data.toList (firstN exS.data.toList 5) = [(1, 1), (4, 1)] := by decide +kernel
theorem ex6 : withI exS.data.toList 1 true = [15, 128] := by decide +kernel

theorem ex7 : hasI exS.data.toList 2 = true := by decide +kernel
theorem ex8 : hasI exS.data.toList 1 = false := by decide +kernel
theorem ex9 : txt [15, 128] = { data := #[15, 128] } := rfl

theorem runsAt_row {w : World} {b c : Nat} {T : TypeId} (l : RL) (h : Row w b T (rcells l)) : RunsAt w (.slice (some ⟨b, 0, none⟩) l.length c) l :=
  .inr ⟨b, 0, c, rfl, fun j u hu => by rw [Nat.zero_add]; exact h.cellAt j hu⟩

set_option maxHeartbeats 1000000 in
theorem alive_any (w : World) : Calls Try.prog 14 #[] w fun e w' => e = .returned (.bool true) ∧ Below w.heap.size w w' := by
  go_enter Try.func14, Try.ntmps14
  go_wp2_with fail
  refine (find_any exS 16 15 (by decide) (by decide) (by decide) w).mono ?_
  rintro e w1 ⟨rfl, hb1⟩
  rw [ex1]
  go_wp2_with fail
  refine (fit_any exS 16 2 14 (by decide) (by decide) (by decide) (by decide) w1).mono ?_
  rintro e w2 ⟨rfl, hb2⟩
  rw [ex2]
  simp only [runV]
  go_wp2_with fail
  have r2 : Row (w2.alloc (.cells #[.int .i64 4, .int .i64 2] 31)) w2.heap.size 31 [.int .i64 4, .int .i64 2] := Row.new _ _ [_, _] rfl
  have B2 : Below w.heap.size w (w2.alloc (.cells #[.int .i64 4, .int .i64 2] 31)) := (hb1.trans (hb2.mono hb1.size)).alloc (by have := hb1.size; have := hb2.size; omega) _
  refine (fit_any exS 16 12 0 (by decide) (by decide) (by decide) (by decide) _).mono ?_
  rintro e w3 ⟨rfl, hb3⟩
  have r3 := r2.below hb3 r2.lt
  have B3 := B2.trans (hb3.mono B2.size)
  clear hb1 hb2 hb3 r2 B2
  rw [ex3]
  simp only [runV]
  go_wp2_with fail
  have r4 := r3.alloc (.cells #[.int .i64 0, .int .i64 0] 31)
  have B4 := B3.alloc B3.size (.cells #[.int .i64 0, .int .i64 0] 31)
  refine (has_any exS 2 (by decide) (by decide) _).mono ?_
  rintro e w' ⟨rfl, rfl⟩
  rw [ex7]
  go_wp2_with fail
  refine (has_any exS 1 (by decide) (by decide) _).mono ?_
  rintro e w' ⟨rfl, rfl⟩
  rw [ex8]
  go_wp2_with fail
  refine (count_any exS 16 (by decide) (by decide) _).mono ?_
  rintro e w' ⟨rfl, rfl⟩
  rw [ex4]
  go_wp2_with fail
  refine (free_any exS 5 (by decide) (by decide) _).mono ?_
  rintro e w5 ⟨v, rfl, hown, hb5⟩
  rw [ex5] at hown
  have r5 := r4.below hb5 r4.lt
  have B5 := B4.trans (hb5.mono B4.size)
  clear r3 B3 r4 B4 hb5
  go_wp2_with fail
  have B6 := B5.alloc B5.size (.cells #[.int .i64 1, .int .i64 1, .int .i64 4, .int .i64 1] 31)
  have r6 := r5.alloc (.cells #[.int .i64 1, .int .i64 1, .int .i64 4, .int .i64 1] 31)
  refine (same_any _ _ _ (ri [(1, 1), (4, 1)]) [(1, 1), (4, 1)] (hown.at.below (B := 0) ((Below.refl _ _).alloc (Nat.le_refl _) _)) (runsAt_row [(1, 1), (4, 1)] (Row.new _ _ (rcells [(1, 1), (4, 1)]) rfl)) (by decide) (by decide)).mono ?_
  rintro e w7 ⟨rfl, k, hk⟩
  have r7 : Row w7 w2.heap.size 31 [.int .i64 4, .int .i64 2] := by rw [hk]; exact r6.drewN k
  have B7 : Below w.heap.size w w7 := by rw [hk]; exact B6.trans ⟨rfl, rfl, rfl, Nat.le_refl _, fun _ _ => rfl⟩
  have es : (ri [(1, 1), (4, 1)] == [(1, 1), (4, 1)]) = true := by decide
  rw [es]
  clear hk B6 r6 B5 r5 hown es
  have z1 := r7.cellAt 0 rfl
  have z2 := r7.cellAt 1 rfl
  clear r7
  go_wp2_with fail
  refine (with_any exS 1 true (by decide) (by decide) _).mono ?_
  rintro e w8 ⟨rfl, hb8⟩
  rw [ex6, ex9]
  have B8 := B7.trans (hb8.mono B7.size)
  clear B7 hb8
  go_wp2_with fail
  go_ret
  exact ⟨rfl, B8⟩

end Go.Proofs.Ytnpgddndelidfaa
