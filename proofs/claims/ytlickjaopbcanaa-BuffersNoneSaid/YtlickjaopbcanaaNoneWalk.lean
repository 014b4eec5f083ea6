/- BuffersNone: the walk. -/
import Derived.Test.YtlickjaopbcanaaNoCache
namespace Go.Proofs.Ytlickjaopbcanaa
open Go Go.RowKit
variable {w : World}

set_option maxRecDepth 100000 in
set_option maxHeartbeats 4000000 in
theorem BuffersNone_walk (b cap : Int) (pin : Bool) (hb0 : -9223372036854775808 ≤ b ∧ b ≤ 9223372036854775807) (hc0 : -9223372036854775808 ≤ cap ∧ cap ≤ 9223372036854775807) (w : World) : Calls Try.prog 4 #[.int .i64 b, .int .i64 cap, .bool pin] w fun e w' => e = .returned (.bool true) ∧ Below w.heap.size w w' := by
  have qal := Lib.hid alive_any
  have hf : Hid (∀ w, Calls Try.prog 21 #[.int .u8 1] w fun e w' => e = .returned (.string (blk 1)) ∧ Below w.heap.size w w') := Lib.hid (fun w => fill_any 1 w)
  go_enter Try.func4, Try.ntmps4
  go_wp2_with fail
  go_loopw [7] (fun q wr => ∃ j : Nat, j ≤ 2 ∧ q = .int .i64 j ∧ Hid (Below w.heap.size w wr)) (fun q _ => 2 - (intOf q).toNat)
  case atStart => exact ⟨0, by omega, rfl, Lib.hid (Below.refl _ _)⟩
  case round =>
    obtain ⟨j, hj, rfl, hB⟩ := hrel
    rcases (show j = 0 ∨ j = 1 ∨ j = 2 by omega) with h0 | h0 | h0
    · have i1 : (j : Int) < 2 := by omega
      have i2 : ¬ (j : Int) = 1 := by omega
      have i3 : ((j : Int) == 1) = false := by rw [beq_eq_false_iff_ne]; exact i2
      clear h0
      have N0 : Hid (∀ wx, Below wr.heap.size wr wx → NoneAt wx (.pointer none) ∧ NoC wx (.pointer none)) := Lib.hid (fun wx _ => ⟨.inl rfl, .inl rfl⟩)
      have HB1 := hB
      clear hB
      go_wp2_with fail
      (with_reducible refine (none_new _ cap (N0.out wr (Below.refl _ _)).1).mono ?_)
      rintro e w2 ⟨rfl, rfl⟩
      go_wp2_with fail
      (with_reducible refine (noc_unpin _ b (N0.out wr (Below.refl _ _)).2).mono ?_)
      rintro e w2 ⟨rfl, rfl⟩
      go_wp2_with fail
      (with_reducible refine (noc_forget _ b (N0.out wr (Below.refl _ _)).2).mono ?_)
      rintro e w2 ⟨rfl, rfl⟩
      go_wp2_with fail
      (with_reducible refine (noc_get _ b (N0.out wr (Below.refl _ _)).2).mono ?_)
      rintro e w2 ⟨rfl, rfl⟩
      go_wp2_with fail
      refine (hf.out _).mono ?_
      rintro e w3 ⟨rfl, b3⟩
      have B3 := Lib.hid b3
      clear b3
      go_wp2_with fail
      (with_reducible refine (noc_put _ b (blk 1) pin (N0.out w3 B3.out).2).mono ?_)
      rintro e w2 ⟨rfl, rfl⟩
      go_wp2_with fail
      (with_reducible refine (noc_out _ b (N0.out w3 B3.out).2).mono ?_)
      rintro e w2 ⟨rfl, rfl⟩
      go_wp2_with fail
      (with_reducible refine (noc_sync _ (N0.out w3 B3.out).2).mono ?_)
      rintro e w2 ⟨rfl, rfl⟩
      go_wp2_with fail
      (with_reducible refine (noc_has _ b (N0.out w3 B3.out).2).mono ?_)
      rintro e w2 ⟨rfl, rfl⟩
      go_wp2_with fail
      (with_reducible refine (noc_dirty _ (N0.out w3 B3.out).2).mono ?_)
      rintro e w2 ⟨rfl, rfl⟩
      go_wp2_with fail
      (with_reducible refine (noc_pinned _ (N0.out w3 B3.out).2).mono ?_)
      rintro e w2 ⟨rfl, rfl⟩
      go_wp2_with fail
      go_roundw
      case rel => exact ⟨j + 1, by omega, by go_num, Lib.hid (HB1.out.trans (B3.out.mono HB1.out.size))⟩
      case measure => simp [intOf]; omega
    · have i1 : (j : Int) < 2 := by omega
      have i3 : ((j : Int) == 1) = true := by rw [beq_iff_eq]; omega
      clear h0
      have hn : ∀ wx, Below (wr.heap.size + 1 + 1) ((wr.alloc (.cells #[.pointer none, .int .i64 0, .int .i64 0, .slice none 0 0, .int .i64 0, .slice none 0 0] 41)).alloc (.cells #[.slice none 0 0, .slice none 0 0, .slice none 0 0, .bool false, .int .i64 0, .int .i64 0] 45)) wx → NoneAt wx (.pointer (some ⟨wr.heap.size + 1, 0, none⟩)) ∧ NoC wx (.pointer (some ⟨wr.heap.size, 0, none⟩)) := fun wx hb => by
        have e : ∀ k, wx.cell? ⟨wr.heap.size + 1, k, none⟩ = _ := fun k => (hb.cell (p := ⟨wr.heap.size + 1, k, none⟩) (by simp)).trans (cell_of_row _ _ _ _ _ _ (by rw [show wr.heap.size + 1 = (wr.alloc (.cells #[.pointer none, .int .i64 0, .int .i64 0, .slice none 0 0, .int .i64 0, .slice none 0 0] 41)).heap.size by simp]; exact heap_alloc_new _ _))
        have e2 : ∀ k, wx.cell? ⟨wr.heap.size, k, none⟩ = _ := fun k => (hb.cell (p := ⟨wr.heap.size, k, none⟩) (by dsimp only; omega)).trans (cell_of_row _ _ _ _ _ _ (by rw [Below.heap_alloc _ _ _ (by simp)]; exact heap_alloc_new wr _))
        exact ⟨.inr ⟨_, rfl, (e 0).trans rfl⟩, .inr ⟨_, rfl, (e2 0).trans rfl, (e2 3).trans rfl⟩⟩
      have HN := Lib.hid hn
      have hb1 : Below w.heap.size w ((wr.alloc (.cells #[.pointer none, .int .i64 0, .int .i64 0, .slice none 0 0, .int .i64 0, .slice none 0 0] 41)).alloc (.cells #[.slice none 0 0, .slice none 0 0, .slice none 0 0, .bool false, .int .i64 0, .int .i64 0] 45)) := (hB.out.alloc hB.out.size _).alloc (by have := hB.out.size; simp; omega) _
      have hsz : ((wr.alloc (.cells #[.pointer none, .int .i64 0, .int .i64 0, .slice none 0 0, .int .i64 0, .slice none 0 0] 41)).alloc (.cells #[.slice none 0 0, .slice none 0 0, .slice none 0 0, .bool false, .int .i64 0, .int .i64 0] 45)).heap.size = wr.heap.size + 1 + 1 := by simp
      have HB1 := Lib.hid hb1
      have HSZ := Lib.hid hsz
      clear hn hb1 hsz hB
      go_wp2_with fail
      generalize ((wr.alloc (.cells #[.pointer none, .int .i64 0, .int .i64 0, .slice none 0 0, .int .i64 0, .slice none 0 0] 41)).alloc (.cells #[.slice none 0 0, .slice none 0 0, .slice none 0 0, .bool false, .int .i64 0, .int .i64 0] 45)) = W at *
      have N0 : Hid (∀ wx, Below W.heap.size W wx → NoneAt wx (.pointer (some ⟨wr.heap.size + 1, 0, none⟩)) ∧ NoC wx (.pointer (some ⟨wr.heap.size, 0, none⟩))) := Lib.hid (fun wx hb => HN.out wx (by rw [HSZ.out] at hb; exact hb))
      clear HN HSZ
      (with_reducible refine (none_new _ cap (N0.out W (Below.refl _ _)).1).mono ?_)
      rintro e w2 ⟨rfl, rfl⟩
      go_wp2_with fail
      (with_reducible refine (noc_unpin _ b (N0.out W (Below.refl _ _)).2).mono ?_)
      rintro e w2 ⟨rfl, rfl⟩
      go_wp2_with fail
      (with_reducible refine (noc_forget _ b (N0.out W (Below.refl _ _)).2).mono ?_)
      rintro e w2 ⟨rfl, rfl⟩
      go_wp2_with fail
      (with_reducible refine (noc_get _ b (N0.out W (Below.refl _ _)).2).mono ?_)
      rintro e w2 ⟨rfl, rfl⟩
      go_wp2_with fail
      refine (hf.out _).mono ?_
      rintro e w3 ⟨rfl, b3⟩
      have B3 := Lib.hid b3
      clear b3
      go_wp2_with fail
      (with_reducible refine (noc_put _ b (blk 1) pin (N0.out w3 B3.out).2).mono ?_)
      rintro e w2 ⟨rfl, rfl⟩
      go_wp2_with fail
      (with_reducible refine (noc_out _ b (N0.out w3 B3.out).2).mono ?_)
      rintro e w2 ⟨rfl, rfl⟩
      go_wp2_with fail
      (with_reducible refine (noc_sync _ (N0.out w3 B3.out).2).mono ?_)
      rintro e w2 ⟨rfl, rfl⟩
      go_wp2_with fail
      (with_reducible refine (noc_has _ b (N0.out w3 B3.out).2).mono ?_)
      rintro e w2 ⟨rfl, rfl⟩
      go_wp2_with fail
      (with_reducible refine (noc_dirty _ (N0.out w3 B3.out).2).mono ?_)
      rintro e w2 ⟨rfl, rfl⟩
      go_wp2_with fail
      (with_reducible refine (noc_pinned _ (N0.out w3 B3.out).2).mono ?_)
      rintro e w2 ⟨rfl, rfl⟩
      go_wp2_with fail
      go_roundw
      case rel => exact ⟨j + 1, by omega, by go_num, Lib.hid (HB1.out.trans (B3.out.mono HB1.out.size))⟩
      case measure => simp [intOf]; omega
    · have i1 : ¬ (j : Int) < 2 := by omega
      clear h0
      go_wp2_with fail
      (with_reducible refine (qal.out _).mono ?_)
      rintro e w3 ⟨rfl, b3⟩
      have B3 := Lib.hid (hB.out.trans (b3.mono hB.out.size))
      clear b3
      go_wp2_with fail
      go_ret
      exact ⟨rfl, B3.out⟩

end Go.Proofs.Ytlickjaopbcanaa
