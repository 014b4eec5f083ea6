/- Exts: Check. -/
import Derived.Test.YtgpjldmndibalaaExtsMay
import Derived.Deep.RegionHeld3
namespace Go.Proofs.Ytgpjldmndibalaa
open Go Go.RowKit

theorem Exts.okTo_may {l : EL} : ∀ {j : Nat}, Exts.okTo l j = true → ∀ k, k < j → Exts.may (l.getD k (0, 0, 0))
  | 0, _, k, hk => absurd hk (Nat.not_lt_zero _)
  | j + 1, h, k, hk => by
    unfold Exts.okTo at h
    simp only [Bool.and_eq_true, decide_eq_true_eq] at h
    rcases Nat.lt_or_ge k j with h1 | h1
    · exact Exts.okTo_may h.1.1 k h1
    · obtain rfl : k = j := by omega
      exact h.1.2
theorem Exts.okTo_false (l : EL) (i : Nat) (h : Exts.okTo l i = false) {n : Nat} (hn : i ≤ n) : Exts.okTo l n = false := by
  induction hn with
  | refl => exact h
  | step _ ih => unfold Exts.okTo; rw [ih]; rfl
theorem emay_fin {x : Exts.E} (h : Exts.may x) : -9223372036854775808 ≤ Exts.fin x ∧ Exts.fin x ≤ 9223372036854775807 := by
  unfold Exts.may at h
  unfold Exts.fin
  omega

set_option maxRecDepth 100000 in
set_option maxHeartbeats 4000000 in
theorem echeck_any (v : Value) (l : EL) (w : World) (hs : SmallsE l) (h : ExtsAt w v l) (hl : l.length ≤ 1000000000) :
    Calls Try.prog 16 #[v] w fun e w' => e = .returned (.bool (Exts.okTo l l.length)) ∧ Below w.heap.size w w' := by
  have H := Lib.hid h
  have HS := Lib.hid hs
  obtain ⟨ad, cap, rfl⟩ : ∃ ad cap, v = .slice ad l.length cap := by
    rcases h with ⟨rfl, rfl⟩ | ⟨b, off, cap, rfl, _⟩
    · exact ⟨_, _, rfl⟩
    · exact ⟨_, _, rfl⟩
  clear h hs
  go_enter Try.func16, Try.ntmps16
  go_wp2_with fail
  go_loopw [7] (fun q wr => ∃ j : Nat, j ≤ l.length ∧ q = .int .i64 j ∧ Exts.okTo l j = true ∧ Hid (Below w.heap.size w wr)) (fun q _ => l.length - (intOf q).toNat)
  case atStart => exact ⟨0, by omega, rfl, rfl, Lib.hid (Below.refl _ _)⟩
  case round =>
    obtain ⟨j, hj, rfl, hok, hb⟩ := hrel
    by_cases hlt : j < l.length
    · have i0 : (0 : Int) ≤ (j : Int) := by omega
      have i1 : (j : Int) < (l.length : Int) := by omega
      obtain ⟨hll, g, off, rfl, c0, c1, c2⟩ := (H.out.below (B := 0) hb.out).cells j hlt
      clear hll
      have hsx := HS.out.at j hlt
      have hnext : Exts.okTo l (j + 1) = (decide (Exts.may (l.getD j (0, 0, 0))) && (j == 0 || decide (Exts.fin (l.getD (j - 1) (0, 0, 0)) ≤ (l.getD j (0, 0, 0)).1))) := by
        show (Exts.okTo l j && _ && _) = _
        rw [hok]
        rfl
      have hm := Lib.hid (fun w => emay_any _ hsx w)
      have bA : Below wr.heap.size wr (wr.alloc (.cells #[.int .i64 (l.getD j (0, 0, 0)).1, .int .i64 (l.getD j (0, 0, 0)).2.1, .int .i64 (l.getD j (0, 0, 0)).2.2] 37)) := (Below.refl _ _).alloc (Nat.le_refl _) _
      have bx0 : (wr.alloc (.cells #[.int .i64 (l.getD j (0, 0, 0)).1, .int .i64 (l.getD j (0, 0, 0)).2.1, .int .i64 (l.getD j (0, 0, 0)).2.2] 37)).cell? ⟨wr.heap.size, 0, none⟩ = some (.int .i64 (l.getD j (0, 0, 0)).1) := box_cell _ _ _ _
      have bx1 : (wr.alloc (.cells #[.int .i64 (l.getD j (0, 0, 0)).1, .int .i64 (l.getD j (0, 0, 0)).2.1, .int .i64 (l.getD j (0, 0, 0)).2.2] 37)).cell? ⟨wr.heap.size, 1, none⟩ = some (.int .i64 (l.getD j (0, 0, 0)).2.1) := box_cell _ _ _ _
      have bx2 : (wr.alloc (.cells #[.int .i64 (l.getD j (0, 0, 0)).1, .int .i64 (l.getD j (0, 0, 0)).2.1, .int .i64 (l.getD j (0, 0, 0)).2.2] 37)).cell? ⟨wr.heap.size, 2, none⟩ = some (.int .i64 (l.getD j (0, 0, 0)).2.2) := box_cell _ _ _ _
      have zX : wr.heap.size < (wr.alloc (.cells #[.int .i64 (l.getD j (0, 0, 0)).1, .int .i64 (l.getD j (0, 0, 0)).2.1, .int .i64 (l.getD j (0, 0, 0)).2.2] 37)).heap.size := by simp
      have hBz := hb.out.size
      by_cases k : Exts.may (l.getD j (0, 0, 0))
      · rw [decide_eq_true k] at hm hnext
        rw [Bool.true_and] at hnext
        by_cases k0 : j = 0
        · have hok' : Exts.okTo l (j + 1) = true := by rw [hnext]; simp [k0]
          have kd : decide ((0 : Int) < (j : Int)) = false := decide_eq_false (by omega)
          have c0' : wr.cell? ⟨g, off, none⟩ = some (.int .i64 (l.getD j (0, 0, 0)).1) := by have := c0; rwa [k0, Nat.zero_mul, Nat.add_zero, ← k0] at this
          have c1' : wr.cell? ⟨g, off + 1, none⟩ = some (.int .i64 (l.getD j (0, 0, 0)).2.1) := by have := c1; rwa [k0, Nat.zero_mul, Nat.add_zero, ← k0] at this
          have c2' : wr.cell? ⟨g, off + 2, none⟩ = some (.int .i64 (l.getD j (0, 0, 0)).2.2) := by have := c2; rwa [k0, Nat.zero_mul, Nat.add_zero, ← k0] at this
          clear hnext k c0 c1 c2
          generalize (l.getD j (0, 0, 0)) = x at *
          obtain ⟨xa, xb, xc⟩ := x
          dsimp only at *
          go_upto_region 4 with fail
          generalize wr.alloc _ = wx at *
          generalize hX : wr.heap.size = X at *
          refine wp_region_held_drew (S := fun w' => w'.cell? ⟨X, 0, none⟩ = some (.int .i64 xa) ∧ w'.cell? ⟨X, 1, none⟩ = some (.int .i64 xb) ∧ w'.cell? ⟨X, 2, none⟩ = some (.int .i64 xc)) (by kernel_rfl) (⟨bx0, bx1, bx2⟩) (fun hHeld => ?_)
          refine wpAnyH_take (i := 0) (v := .agg #[.int .i64 xa, .int .i64 xb, .int .i64 xc]) rfl (by kernel_rfl) (by kernel_rfl) (by kernel_rfl) (fun _ _ _ h => h) (Or.inl ⟨rfl, fun w hSw => ?_⟩) (by assumption) ?_
          · (try dsimp only at hSw); go_simp
          try simp only [List.getElem_toArray, List.getElem_cons_zero, Act.put, List.setIfInBounds_toArray, List.set_cons_zero, List.set_cons_succ]
          refine wpAnyH_ready (rs := [1]) (by kernel_rfl) (by simp) ?_
          refine AllReadyH.cons rfl (fun K hK => ?_) AllReadyH.nil
          go_simp
          go_at_call 41; refine (hm.out _).mono ?_; rintro e w4 ⟨rfl, b4⟩; have s4 : Below wx.heap.size wx w4 := ⟨b4.os, b4.tape, b4.output, b4.size, b4.block⟩
          refine hK.out _ _ (⟨(s4.cell (p := ⟨X, 0, none⟩) zX).trans bx0, (s4.cell (p := ⟨X, 1, none⟩) zX).trans bx1, (s4.cell (p := ⟨X, 2, none⟩) zX).trans bx2⟩) (fun hHeld => ?_)
          clear hK K
          try simp only [List.getElem_toArray, List.getElem_cons_succ, List.getElem_cons_zero, Act.put, List.setIfInBounds_toArray, List.set_cons_zero, List.set_cons_succ]
          refine wpAnyH_take (i := 2) (v := .bool false) rfl (by kernel_rfl) (by kernel_rfl) (by kernel_rfl) (fun _ _ _ h => h) (Or.inl ⟨rfl, fun w hSw => ?_⟩) (by assumption) ?_
          · (try dsimp only at hSw); go_simp
          try simp only [List.getElem_toArray, List.getElem_cons_succ, List.getElem_cons_zero, Act.put, List.setIfInBounds_toArray, List.set_cons_zero, List.set_cons_succ]
          refine wpAnyH_take (i := 3) (v := .bool false) rfl (by kernel_rfl) (by kernel_rfl) (by kernel_rfl) (fun _ _ _ h => h) (Or.inl ⟨rfl, fun w hSw => ?_⟩) (by assumption) ?_
          · (try dsimp only at hSw); go_simp
          try simp only [List.getElem_toArray, List.getElem_cons_succ, List.getElem_cons_zero, Act.put, List.setIfInBounds_toArray, List.set_cons_zero, List.set_cons_succ]
          refine wpAnyH_take (i := 4) (v := .int .i64 0) rfl (by kernel_rfl) (by kernel_rfl) (by kernel_rfl) (fun _ _ _ h => h) (Or.inl ⟨rfl, fun w hSw => ?_⟩) (by assumption) ?_
          · (try dsimp only at hSw); go_simp
          try simp only [List.getElem_toArray, List.getElem_cons_succ, List.getElem_cons_zero, Act.put, List.setIfInBounds_toArray, List.set_cons_zero, List.set_cons_succ]
          refine wpAnyH_take (i := 5) (v := .bool false) rfl (by kernel_rfl) (by kernel_rfl) (by kernel_rfl) (fun _ _ _ h => h) (Or.inl ⟨rfl, fun w hSw => ?_⟩) (by assumption) ?_
          · (try dsimp only at hSw); go_simp
          try simp only [List.getElem_toArray, List.getElem_cons_succ, List.getElem_cons_zero, Act.put, List.setIfInBounds_toArray, List.set_cons_zero, List.set_cons_succ]
          refine wpAnyH_take (i := 6) (v := .bool false) rfl (by kernel_rfl) (by kernel_rfl) (by kernel_rfl) (fun _ _ _ h => h) (Or.inl ⟨rfl, fun w hSw => ?_⟩) (by assumption) ?_
          · (try dsimp only at hSw); go_simp
          try simp only [List.getElem_toArray, List.getElem_cons_succ, List.getElem_cons_zero, Act.put, List.setIfInBounds_toArray, List.set_cons_zero, List.set_cons_succ]
          refine wpAnyH_take (i := 7) (v := undef) rfl (by kernel_rfl) (by kernel_rfl) (by kernel_rfl) (fun _ _ _ h => h) (Or.inr ⟨rfl, rfl⟩) (by assumption) ?_
          try simp only [List.getElem_toArray, List.getElem_cons_succ, List.getElem_cons_zero, Act.put, List.setIfInBounds_toArray, List.set_cons_zero, List.set_cons_succ]
          refine wpAnyH_take (i := 8) (v := undef) rfl (by kernel_rfl) (by kernel_rfl) (by kernel_rfl) (fun _ _ _ h => h) (Or.inr ⟨rfl, rfl⟩) (by assumption) ?_
          try simp only [List.getElem_toArray, List.getElem_cons_succ, List.getElem_cons_zero, Act.put, List.setIfInBounds_toArray, List.set_cons_zero, List.set_cons_succ]
          refine wpAnyH_take (i := 9) (v := undef) rfl (by kernel_rfl) (by kernel_rfl) (by kernel_rfl) (fun _ _ _ h => h) (Or.inr ⟨rfl, rfl⟩) (by assumption) ?_
          try simp only [List.getElem_toArray, List.getElem_cons_succ, List.getElem_cons_zero, Act.put, List.setIfInBounds_toArray, List.set_cons_zero, List.set_cons_succ]
          refine wpAnyH_take (i := 10) (v := undef) rfl (by kernel_rfl) (by kernel_rfl) (by kernel_rfl) (fun _ _ _ h => h) (Or.inr ⟨rfl, rfl⟩) (by assumption) ?_
          try simp only [List.getElem_toArray, List.getElem_cons_succ, List.getElem_cons_zero, Act.put, List.setIfInBounds_toArray, List.set_cons_zero, List.set_cons_succ]
          refine wpAnyH_take (i := 11) (v := undef) rfl (by kernel_rfl) (by kernel_rfl) (by kernel_rfl) (fun _ _ _ h => h) (Or.inr ⟨rfl, rfl⟩) (by assumption) ?_
          try simp only [List.getElem_toArray, List.getElem_cons_succ, List.getElem_cons_zero, Act.put, List.setIfInBounds_toArray, List.set_cons_zero, List.set_cons_succ]
          refine wpAnyH_take (i := 12) (v := undef) rfl (by kernel_rfl) (by kernel_rfl) (by kernel_rfl) (fun _ _ _ h => h) (Or.inr ⟨rfl, rfl⟩) (by assumption) ?_
          try simp only [List.getElem_toArray, List.getElem_cons_succ, List.getElem_cons_zero, Act.put, List.setIfInBounds_toArray, List.set_cons_zero, List.set_cons_succ]
          refine wpAnyH_take (i := 13) (v := undef) rfl (by kernel_rfl) (by kernel_rfl) (by kernel_rfl) (fun _ _ _ h => h) (Or.inr ⟨rfl, rfl⟩) (by assumption) ?_
          try simp only [List.getElem_toArray, List.getElem_cons_succ, List.getElem_cons_zero, Act.put, List.setIfInBounds_toArray, List.set_cons_zero, List.set_cons_succ]
          refine wpAnyH_take (i := 14) (v := undef) rfl (by kernel_rfl) (by kernel_rfl) (by kernel_rfl) (fun _ _ _ h => h) (Or.inr ⟨rfl, rfl⟩) (by assumption) ?_
          try simp only [List.getElem_toArray, List.getElem_cons_succ, List.getElem_cons_zero, Act.put, List.setIfInBounds_toArray, List.set_cons_zero, List.set_cons_succ]
          refine wpAnyH_take (i := 15) (v := undef) rfl (by kernel_rfl) (by kernel_rfl) (by kernel_rfl) (fun _ _ _ h => h) (Or.inr ⟨rfl, rfl⟩) (by assumption) ?_
          try simp only [List.getElem_toArray, List.getElem_cons_succ, List.getElem_cons_zero, Act.put, List.setIfInBounds_toArray, List.set_cons_zero, List.set_cons_succ]
          refine wpAnyH_take (i := 16) (v := .bool false) rfl (by kernel_rfl) (by kernel_rfl) (by kernel_rfl) (fun _ _ _ h => h) (Or.inl ⟨rfl, fun w hSw => ?_⟩) (by assumption) ?_
          · (try dsimp only at hSw); go_simp
          try simp only [List.getElem_toArray, List.getElem_cons_succ, List.getElem_cons_zero, Act.put, List.setIfInBounds_toArray, List.set_cons_zero, List.set_cons_succ]
          refine wpAnyH_take (i := 17) (v := .bool false) rfl (by kernel_rfl) (by kernel_rfl) (by kernel_rfl) (fun _ _ _ h => h) (Or.inl ⟨rfl, fun w hSw => ?_⟩) (by assumption) ?_
          · (try dsimp only at hSw); go_simp
          try simp only [List.getElem_toArray, List.getElem_cons_succ, List.getElem_cons_zero, Act.put, List.setIfInBounds_toArray, List.set_cons_zero, List.set_cons_succ]
          refine wpAnyH_done (by kernel_rfl) ?_ _
          have B9 := Lib.hid (hb.out.trans ((bA.trans (s4.mono (by omega))).mono hBz))
          clear s4 b4 bA hb
          go_wp2_with fail
          go_roundw
          case rel => exact ⟨j + 1, by omega, by go_num, hok', B9⟩
          case measure => simp [intOf]; omega
        · obtain ⟨_, g', off', e', d0, d1, d2⟩ := (H.out.below (B := 0) hb.out).cells (j - 1) (by omega)
          cases e'
          have hmp : Exts.may (l.getD (j - 1) (0, 0, 0)) := Exts.okTo_may hok (j - 1) (by omega)
          have hfp := emay_fin hmp
          have he := Lib.hid (fun w => eend_any _ hfp w)
          have D0 := (bA.cell (p := ⟨g, off + (j - 1) * 3, none⟩) (World.block_lt_of_cell? wr _ d0)).trans d0
          have D1 := (bA.cell (p := ⟨g, off + (j - 1) * 3 + 1, none⟩) (World.block_lt_of_cell? wr _ d1)).trans d1
          have D2 := (bA.cell (p := ⟨g, off + (j - 1) * 3 + 2, none⟩) (World.block_lt_of_cell? wr _ d2)).trans d2
          have zg : g < (wr.alloc (.cells #[.int .i64 (l.getD j (0, 0, 0)).1, .int .i64 (l.getD j (0, 0, 0)).2.1, .int .i64 (l.getD j (0, 0, 0)).2.2] 37)).heap.size := World.block_lt_of_cell? _ _ D0
          have kn : (0 : Int) < (j : Int) := by omega
          have kN : 0 < j := by omega
          have kw : IntKind.i64.wrap ((j : Int) - 1) = ((j - 1 : Nat) : Int) := by
            rw [IntWalk.i64_in _ (by omega)]
            omega
          have kj : ((j - 1 : Nat) : Int) < (l.length : Int) := by omega
          have kj0 : (0 : Int) ≤ ((j - 1 : Nat) : Int) := by omega
          rw [show (j == 0) = false by simpa using k0, Bool.false_or] at hnext
          clear k hmp d0 d1 d2
          generalize (l.getD j (0, 0, 0)) = x at *
          generalize l.getD (j - 1) (0, 0, 0) = y at *
          obtain ⟨xa, xb, xc⟩ := x
          obtain ⟨ya, yb, yc⟩ := y
          dsimp only at *
          generalize Exts.fin (ya, yb, yc) = f at *
          generalize hJ : j - 1 = j1 at *
          by_cases k2 : f ≤ xa
          · have k2' : ¬ xa < f := by omega
            have k2d : decide (xa < f) = false := decide_eq_false k2'
            have hok' : Exts.okTo l (j + 1) = true := by rw [hnext]; exact decide_eq_true k2
            clear hnext
            go_upto_region 4 with fail
            generalize wr.alloc _ = wx at *
            generalize hX : wr.heap.size = X at *
            go_region_held3 (fun w' => w'.cell? ⟨X, 0, none⟩ = some (.int .i64 xa) ∧ w'.cell? ⟨X, 1, none⟩ = some (.int .i64 xb) ∧ w'.cell? ⟨X, 2, none⟩ = some (.int .i64 xc) ∧ w'.cell? ⟨g, off + j1 * 3, none⟩ = some (.int .i64 ya) ∧ w'.cell? ⟨g, off + j1 * 3 + 1, none⟩ = some (.int .i64 yb) ∧ w'.cell? ⟨g, off + j1 * 3 + 2, none⟩ = some (.int .i64 yc))
              (first | exact ⟨bx0, bx1, bx2, D0, D1, D2⟩ | exact ⟨(s4.cell (p := ⟨X, 0, none⟩) zX).trans bx0, (s4.cell (p := ⟨X, 1, none⟩) zX).trans bx1, (s4.cell (p := ⟨X, 2, none⟩) zX).trans bx2, (s4.cell (p := ⟨g, off + j1 * 3, none⟩) zg).trans D0, (s4.cell (p := ⟨g, off + j1 * 3 + 1, none⟩) zg).trans D1, (s4.cell (p := ⟨g, off + j1 * 3 + 2, none⟩) zg).trans D2⟩ | exact ⟨(s5.cell (p := ⟨X, 0, none⟩) zX).trans bx0, (s5.cell (p := ⟨X, 1, none⟩) zX).trans bx1, (s5.cell (p := ⟨X, 2, none⟩) zX).trans bx2, (s5.cell (p := ⟨g, off + j1 * 3, none⟩) zg).trans D0, (s5.cell (p := ⟨g, off + j1 * 3 + 1, none⟩) zg).trans D1, (s5.cell (p := ⟨g, off + j1 * 3 + 2, none⟩) zg).trans D2⟩)
              (first | (go_at_call 41; refine (hm.out _).mono ?_; rintro e w4 ⟨rfl, b4⟩; have s4 : Below wx.heap.size wx w4 := ⟨b4.os, b4.tape, b4.output, b4.size, b4.block⟩) | (go_at_call 38; refine (he.out _).mono ?_; rintro e w5 ⟨rfl, b5⟩; have s5 : Below wx.heap.size wx w5 := s4.trans ⟨b5.os, b5.tape, b5.output, b5.size, fun k hk => b5.block k (Nat.lt_of_lt_of_le hk s4.size)⟩))
            have B9 := Lib.hid (hb.out.trans ((bA.trans (s5.mono (by omega))).mono hBz))
            clear s4 s5 b4 b5 bA hb
            go_wp2_with fail
            go_roundw
            case rel => exact ⟨j + 1, by omega, by go_num, hok', B9⟩
            case measure => simp [intOf]; omega
          · have k2' : xa < f := by omega
            have k2d : decide (xa < f) = true := decide_eq_true k2'
            have hOK := Lib.hid (Exts.okTo_false (n := l.length) l (j + 1) (by rw [hnext]; exact decide_eq_false k2) (by omega))
            clear hnext
            go_upto_region 4 with fail
            generalize wr.alloc _ = wx at *
            generalize hX : wr.heap.size = X at *
            go_region_held3 (fun w' => w'.cell? ⟨X, 0, none⟩ = some (.int .i64 xa) ∧ w'.cell? ⟨X, 1, none⟩ = some (.int .i64 xb) ∧ w'.cell? ⟨X, 2, none⟩ = some (.int .i64 xc) ∧ w'.cell? ⟨g, off + j1 * 3, none⟩ = some (.int .i64 ya) ∧ w'.cell? ⟨g, off + j1 * 3 + 1, none⟩ = some (.int .i64 yb) ∧ w'.cell? ⟨g, off + j1 * 3 + 2, none⟩ = some (.int .i64 yc))
              (first | exact ⟨bx0, bx1, bx2, D0, D1, D2⟩ | exact ⟨(s4.cell (p := ⟨X, 0, none⟩) zX).trans bx0, (s4.cell (p := ⟨X, 1, none⟩) zX).trans bx1, (s4.cell (p := ⟨X, 2, none⟩) zX).trans bx2, (s4.cell (p := ⟨g, off + j1 * 3, none⟩) zg).trans D0, (s4.cell (p := ⟨g, off + j1 * 3 + 1, none⟩) zg).trans D1, (s4.cell (p := ⟨g, off + j1 * 3 + 2, none⟩) zg).trans D2⟩ | exact ⟨(s5.cell (p := ⟨X, 0, none⟩) zX).trans bx0, (s5.cell (p := ⟨X, 1, none⟩) zX).trans bx1, (s5.cell (p := ⟨X, 2, none⟩) zX).trans bx2, (s5.cell (p := ⟨g, off + j1 * 3, none⟩) zg).trans D0, (s5.cell (p := ⟨g, off + j1 * 3 + 1, none⟩) zg).trans D1, (s5.cell (p := ⟨g, off + j1 * 3 + 2, none⟩) zg).trans D2⟩)
              (first | (go_at_call 41; refine (hm.out _).mono ?_; rintro e w4 ⟨rfl, b4⟩; have s4 : Below wx.heap.size wx w4 := ⟨b4.os, b4.tape, b4.output, b4.size, b4.block⟩) | (go_at_call 38; refine (he.out _).mono ?_; rintro e w5 ⟨rfl, b5⟩; have s5 : Below wx.heap.size wx w5 := s4.trans ⟨b5.os, b5.tape, b5.output, b5.size, fun k hk => b5.block k (Nat.lt_of_lt_of_le hk s4.size)⟩))
            have B9 := Lib.hid (hb.out.trans ((bA.trans (s5.mono (by omega))).mono hBz))
            clear s4 s5 b4 b5 bA hb
            go_wp2_with fail
            go_ret
            exact ⟨by rw [hOK.out]; rfl, B9.out⟩
      · rw [decide_eq_false k] at hm hnext
        rw [Bool.false_and] at hnext
        have hOK := Lib.hid (Exts.okTo_false (n := l.length) l (j + 1) hnext (by omega))
        clear hnext k
        generalize (l.getD j (0, 0, 0)) = x at *
        obtain ⟨xa, xb, xc⟩ := x
        dsimp only at *
        go_upto_region 4 with fail
        generalize wr.alloc _ = wx at *
        generalize hX : wr.heap.size = X at *
        refine wp_region_held_drew (S := fun w' => w'.cell? ⟨X, 0, none⟩ = some (.int .i64 xa) ∧ w'.cell? ⟨X, 1, none⟩ = some (.int .i64 xb) ∧ w'.cell? ⟨X, 2, none⟩ = some (.int .i64 xc)) (by kernel_rfl) (⟨bx0, bx1, bx2⟩) (fun hHeld => ?_)
        refine wpAnyH_take (i := 0) (v := .agg #[.int .i64 xa, .int .i64 xb, .int .i64 xc]) rfl (by kernel_rfl) (by kernel_rfl) (by kernel_rfl) (fun _ _ _ h => h) (Or.inl ⟨rfl, fun w hSw => ?_⟩) (by assumption) ?_
        · (try dsimp only at hSw); go_simp
        try simp only [List.getElem_toArray, List.getElem_cons_zero, Act.put, List.setIfInBounds_toArray, List.set_cons_zero, List.set_cons_succ]
        refine wpAnyH_ready (rs := [1]) (by kernel_rfl) (by simp) ?_
        refine AllReadyH.cons rfl (fun K hK => ?_) AllReadyH.nil
        go_simp
        go_at_call 41; refine (hm.out _).mono ?_; rintro e w4 ⟨rfl, b4⟩; have s4 : Below wx.heap.size wx w4 := ⟨b4.os, b4.tape, b4.output, b4.size, b4.block⟩
        refine hK.out _ _ (⟨(s4.cell (p := ⟨X, 0, none⟩) zX).trans bx0, (s4.cell (p := ⟨X, 1, none⟩) zX).trans bx1, (s4.cell (p := ⟨X, 2, none⟩) zX).trans bx2⟩) (fun hHeld => ?_)
        clear hK K
        try simp only [List.getElem_toArray, List.getElem_cons_succ, List.getElem_cons_zero, Act.put, List.setIfInBounds_toArray, List.set_cons_zero, List.set_cons_succ]
        refine wpAnyH_take (i := 2) (v := .bool true) rfl (by kernel_rfl) (by kernel_rfl) (by kernel_rfl) (fun _ _ _ h => h) (Or.inl ⟨rfl, fun w hSw => ?_⟩) (by assumption) ?_
        · (try dsimp only at hSw); go_simp
        try simp only [List.getElem_toArray, List.getElem_cons_succ, List.getElem_cons_zero, Act.put, List.setIfInBounds_toArray, List.set_cons_zero, List.set_cons_succ]
        refine wpAnyH_take (i := 3) (v := .bool true) rfl (by kernel_rfl) (by kernel_rfl) (by kernel_rfl) (fun _ _ _ h => h) (Or.inl ⟨rfl, fun w hSw => ?_⟩) (by assumption) ?_
        · (try dsimp only at hSw); go_simp
        try simp only [List.getElem_toArray, List.getElem_cons_succ, List.getElem_cons_zero, Act.put, List.setIfInBounds_toArray, List.set_cons_zero, List.set_cons_succ]
        refine wpAnyH_take (i := 4) (v := undef) rfl (by kernel_rfl) (by kernel_rfl) (by kernel_rfl) (fun _ _ _ h => h) (Or.inr ⟨rfl, rfl⟩) (by assumption) ?_
        try simp only [List.getElem_toArray, List.getElem_cons_succ, List.getElem_cons_zero, Act.put, List.setIfInBounds_toArray, List.set_cons_zero, List.set_cons_succ]
        refine wpAnyH_take (i := 5) (v := undef) rfl (by kernel_rfl) (by kernel_rfl) (by kernel_rfl) (fun _ _ _ h => h) (Or.inr ⟨rfl, rfl⟩) (by assumption) ?_
        try simp only [List.getElem_toArray, List.getElem_cons_succ, List.getElem_cons_zero, Act.put, List.setIfInBounds_toArray, List.set_cons_zero, List.set_cons_succ]
        refine wpAnyH_take (i := 6) (v := undef) rfl (by kernel_rfl) (by kernel_rfl) (by kernel_rfl) (fun _ _ _ h => h) (Or.inr ⟨rfl, rfl⟩) (by assumption) ?_
        try simp only [List.getElem_toArray, List.getElem_cons_succ, List.getElem_cons_zero, Act.put, List.setIfInBounds_toArray, List.set_cons_zero, List.set_cons_succ]
        refine wpAnyH_take (i := 7) (v := undef) rfl (by kernel_rfl) (by kernel_rfl) (by kernel_rfl) (fun _ _ _ h => h) (Or.inr ⟨rfl, rfl⟩) (by assumption) ?_
        try simp only [List.getElem_toArray, List.getElem_cons_succ, List.getElem_cons_zero, Act.put, List.setIfInBounds_toArray, List.set_cons_zero, List.set_cons_succ]
        refine wpAnyH_take (i := 8) (v := undef) rfl (by kernel_rfl) (by kernel_rfl) (by kernel_rfl) (fun _ _ _ h => h) (Or.inr ⟨rfl, rfl⟩) (by assumption) ?_
        try simp only [List.getElem_toArray, List.getElem_cons_succ, List.getElem_cons_zero, Act.put, List.setIfInBounds_toArray, List.set_cons_zero, List.set_cons_succ]
        refine wpAnyH_take (i := 9) (v := undef) rfl (by kernel_rfl) (by kernel_rfl) (by kernel_rfl) (fun _ _ _ h => h) (Or.inr ⟨rfl, rfl⟩) (by assumption) ?_
        try simp only [List.getElem_toArray, List.getElem_cons_succ, List.getElem_cons_zero, Act.put, List.setIfInBounds_toArray, List.set_cons_zero, List.set_cons_succ]
        refine wpAnyH_take (i := 10) (v := undef) rfl (by kernel_rfl) (by kernel_rfl) (by kernel_rfl) (fun _ _ _ h => h) (Or.inr ⟨rfl, rfl⟩) (by assumption) ?_
        try simp only [List.getElem_toArray, List.getElem_cons_succ, List.getElem_cons_zero, Act.put, List.setIfInBounds_toArray, List.set_cons_zero, List.set_cons_succ]
        refine wpAnyH_take (i := 11) (v := undef) rfl (by kernel_rfl) (by kernel_rfl) (by kernel_rfl) (fun _ _ _ h => h) (Or.inr ⟨rfl, rfl⟩) (by assumption) ?_
        try simp only [List.getElem_toArray, List.getElem_cons_succ, List.getElem_cons_zero, Act.put, List.setIfInBounds_toArray, List.set_cons_zero, List.set_cons_succ]
        refine wpAnyH_take (i := 12) (v := undef) rfl (by kernel_rfl) (by kernel_rfl) (by kernel_rfl) (fun _ _ _ h => h) (Or.inr ⟨rfl, rfl⟩) (by assumption) ?_
        try simp only [List.getElem_toArray, List.getElem_cons_succ, List.getElem_cons_zero, Act.put, List.setIfInBounds_toArray, List.set_cons_zero, List.set_cons_succ]
        refine wpAnyH_take (i := 13) (v := undef) rfl (by kernel_rfl) (by kernel_rfl) (by kernel_rfl) (fun _ _ _ h => h) (Or.inr ⟨rfl, rfl⟩) (by assumption) ?_
        try simp only [List.getElem_toArray, List.getElem_cons_succ, List.getElem_cons_zero, Act.put, List.setIfInBounds_toArray, List.set_cons_zero, List.set_cons_succ]
        refine wpAnyH_take (i := 14) (v := undef) rfl (by kernel_rfl) (by kernel_rfl) (by kernel_rfl) (fun _ _ _ h => h) (Or.inr ⟨rfl, rfl⟩) (by assumption) ?_
        try simp only [List.getElem_toArray, List.getElem_cons_succ, List.getElem_cons_zero, Act.put, List.setIfInBounds_toArray, List.set_cons_zero, List.set_cons_succ]
        refine wpAnyH_take (i := 15) (v := undef) rfl (by kernel_rfl) (by kernel_rfl) (by kernel_rfl) (fun _ _ _ h => h) (Or.inr ⟨rfl, rfl⟩) (by assumption) ?_
        try simp only [List.getElem_toArray, List.getElem_cons_succ, List.getElem_cons_zero, Act.put, List.setIfInBounds_toArray, List.set_cons_zero, List.set_cons_succ]
        refine wpAnyH_take (i := 16) (v := undef) rfl (by kernel_rfl) (by kernel_rfl) (by kernel_rfl) (fun _ _ _ h => h) (Or.inr ⟨rfl, rfl⟩) (by assumption) ?_
        try simp only [List.getElem_toArray, List.getElem_cons_succ, List.getElem_cons_zero, Act.put, List.setIfInBounds_toArray, List.set_cons_zero, List.set_cons_succ]
        refine wpAnyH_take (i := 17) (v := .bool true) rfl (by kernel_rfl) (by kernel_rfl) (by kernel_rfl) (fun _ _ _ h => h) (Or.inl ⟨rfl, fun w hSw => ?_⟩) (by assumption) ?_
        · (try dsimp only at hSw); go_simp
        try simp only [List.getElem_toArray, List.getElem_cons_succ, List.getElem_cons_zero, Act.put, List.setIfInBounds_toArray, List.set_cons_zero, List.set_cons_succ]
        refine wpAnyH_done (by kernel_rfl) ?_ _
        have B9 := Lib.hid (hb.out.trans ((bA.trans (s4.mono (by omega))).mono hBz))
        clear s4 b4 bA hb
        go_wp2_with fail
        go_ret
        exact ⟨by rw [hOK.out]; rfl, B9.out⟩
    · obtain rfl : j = l.length := by omega
      go_wp2_with fail
      go_ret
      exact ⟨by rw [hok]; rfl, hb.out⟩

end Go.Proofs.Ytgpjldmndibalaa
