/- Records whose empty lists lie anywhere: homes, may, Encode. Records that a law is handed. Blocks that are committed side by side, whatever they have: in plain Lean. Blocks that are committed side by side: what the calls do. -/
import Derived.Test.YtnpdhidliaahbaaGreatG17
import Derived.Test.YtnpdhidliaahbaaGreatG38
import Derived.Test.YtnpdhidliaahbaaGreatG37
import Derived.Test.YtnpdhidliaahbaaGreatG45
set_option linter.unusedSimpArgs false
set_option linter.unusedVariables false
namespace Go.Proofs.YtnpdhidliaahbaaGreat
set_option linter.unusedVariables false
open Go Go.RowKit
/-- The value v leads to the numbers l; an empty slice may have any address. -/
def IntsW (w : World) (v : Value) (l : IL) : Prop := ∃ ad cap, v = .slice ad l.length cap ∧ ∀ i, i < l.length → ∃ g off, ad = some ⟨g, off, none⟩ ∧ w.cell? ⟨g, off + i, none⟩ = some (.int .i64 (l.getD i 0))
theorem IntsW.below {w w' : World} {v : Value} {l : IL} (h : IntsW w v l) (hb : Below w.heap.size w w') : IntsW w' v l := by
  obtain ⟨ad, cap, e, h⟩ := h
  refine ⟨ad, cap, e, fun i hi => ?_⟩
  obtain ⟨g, off, e1, c⟩ := h i hi
  exact ⟨g, off, e1, (hb.cell (World.block_lt_of_cell? w _ c)).trans c⟩
theorem IntsW.form {w : World} {v : Value} {l : IL} (h : IntsW w v l) : ∃ ad cap, v = .slice ad l.length cap := by
  obtain ⟨ad, cap, e, -⟩ := h
  exact ⟨ad, cap, e⟩
theorem IntsW.cells {w : World} {ad : Option Addr} {n cap : Nat} {l : IL} (h : IntsW w (.slice ad n cap) l) (i : Nat) (hi : i < l.length) : ∃ g off, ad = some ⟨g, off, none⟩ ∧ w.cell? ⟨g, off + i, none⟩ = some (.int .i64 (l.getD i 0)) := by
  obtain ⟨ad', cap', e, h⟩ := h
  cases e
  exact h i hi
/-- The value v leads to the truths l; an empty slice may have any address. -/
def FlagsW (w : World) (v : Value) (l : List Bool) : Prop := ∃ ad cap, v = .slice ad l.length cap ∧ ∀ i, i < l.length → ∃ g off, ad = some ⟨g, off, none⟩ ∧ w.cell? ⟨g, off + i, none⟩ = some (.bool (l.getD i false))
theorem FlagsW.below {w w' : World} {v : Value} {l : List Bool} (h : FlagsW w v l) (hb : Below w.heap.size w w') : FlagsW w' v l := by
  obtain ⟨ad, cap, e, h⟩ := h
  refine ⟨ad, cap, e, fun i hi => ?_⟩
  obtain ⟨g, off, e1, c⟩ := h i hi
  exact ⟨g, off, e1, (hb.cell (World.block_lt_of_cell? w _ c)).trans c⟩
theorem FlagsW.form {w : World} {v : Value} {l : List Bool} (h : FlagsW w v l) : ∃ ad cap, v = .slice ad l.length cap := by
  obtain ⟨ad, cap, e, -⟩ := h
  exact ⟨ad, cap, e⟩
theorem FlagsW.cells {w : World} {ad : Option Addr} {n cap : Nat} {l : List Bool} (h : FlagsW w (.slice ad n cap) l) (i : Nat) (hi : i < l.length) : ∃ g off, ad = some ⟨g, off, none⟩ ∧ w.cell? ⟨g, off + i, none⟩ = some (.bool (l.getD i false)) := by
  obtain ⟨ad', cap', e, h⟩ := h
  cases e
  exact h i hi
/-- The value v is the record x. -/
structure RecW (w : World) (v : Value) (x : Rec.V) : Prop where
  is : ∃ h m, v = .agg #[.int .i64 x.kind, .int .u64 x.seq, .int .i64 x.at_, h, m, .int .u32 x.sum] ∧ IntsW w h x.homes ∧ FlagsW w m x.masked
  seq : x.seq < 2 ^ 64
  sum : x.sum < 2 ^ 32
  kind : -9223372036854775808 ≤ x.kind ∧ x.kind ≤ 9223372036854775807
  at_ : -9223372036854775808 ≤ x.at_ ∧ x.at_ ≤ 9223372036854775807
  len : x.homes.length ≤ 1000000000 ∧ x.masked.length ≤ 1000000000
theorem RecW.below {w w' : World} {v : Value} {x : Rec.V} (h : RecW w v x) (hb : Below w.heap.size w w') : RecW w' v x := by
  obtain ⟨⟨a, m, e, h1, h2⟩, r1, r2, r3, r4, r5⟩ := h
  exact ⟨⟨a, m, e, h1.below hb, h2.below hb⟩, r1, r2, r3, r4, r5⟩

set_option maxRecDepth 100000 in
set_option maxHeartbeats 4000000 in
theorem homesw_any (v : Value) (l : List Int) (w : World) (most : Nat) (hmost : most ≤ 100) (h : IntsW w v l) (hl : l.length ≤ 1000000000) :
    Calls Tryz.prog 119 #[v, .int .i64 (most : Int)] w fun e w' => e = .returned (.bool (Rec.homesOk l most)) ∧ w = w' := by
  have H := Lib.hid h
  obtain ⟨ad, cap, rfl⟩ := h.form
  clear h
  unfold Rec.homesOk Rec.rises
  go_enter Tryz.func119, Tryz.ntmps119
  go_wp2_with fail
  go_loop [5, 6, 9] (fun a b q => ∃ j : Nat, j ≤ l.length ∧ q = .int .i64 j ∧ Hid (Rec.risesTo Rec.blockOk l j = true)  ) (fun _ _ q => l.length - (intOf q).toNat)
  case atStart => exact ⟨0, by omega, rfl, Lib.hid rfl⟩
  case round =>
    obtain ⟨j, hj, rfl, hok⟩ := hrel
    by_cases hlt : j < l.length
    · have i0 : (0 : Int) ≤ (j : Int) := by omega
      have i1 : (j : Int) < (l.length : Int) := by omega
      obtain ⟨g, off, rfl, c0⟩ := H.out.cells j hlt
      have hnext : Hid (Rec.risesTo Rec.blockOk l (j + 1) = (Rec.blockOk (l.getD j 0) && (decide (j = 0) || decide (l.getD (j - 1) 0 < l.getD j 0)))) := Lib.hid (by
        show (Rec.risesTo _ l j && _) = _
        rw [hok.out]
        rfl)
      have hfalse : Hid (Rec.risesTo Rec.blockOk l (j + 1) = false → Rec.risesTo Rec.blockOk l l.length = false) := Lib.hid (fun h => Rec.risesTo_false h (by omega))
      by_cases k0 : j = 0
      · have kd : decide ((0 : Int) < (j : Int)) = false := decide_eq_false (by omega)
        have c0' : w.cell? ⟨g, off, none⟩ = some (.int .i64 (l.getD j 0)) := by have := c0; rwa [k0, Nat.add_zero, ← k0] at this
        clear c0
        generalize hx : l.getD j 0 = x at c0'
        have HX := Lib.hid hx
        clear hx
        by_cases k1 : x < 0
        · go_wp2_with fail
          go_ret
          exact ⟨by rw [hfalse.out (by rw [hnext.out, HX.out]; simp [Rec.blockOk]; omega)]; rfl, by trivial⟩
        by_cases k2 : 4096 ≤ x
        · go_wp2_with fail
          go_ret
          exact ⟨by rw [hfalse.out (by rw [hnext.out, HX.out]; simp [Rec.blockOk]; omega)]; rfl, by trivial⟩
        go_wp2_with fail
        go_round
        case rel => exact ⟨j + 1, by omega, by go_num, Lib.hid (by rw [hnext.out, HX.out]; simp [Rec.blockOk, k0]; omega)⟩
        case measure => simp [intOf]; omega
      · have kd : (0 : Int) < (j : Int) := by omega
        obtain ⟨g', off', e, c1⟩ := H.out.cells (j - 1) (by omega)
        cases e
        generalize hx : l.getD j 0 = x at c0
        generalize hy : l.getD (j - 1) 0 = y at c1
        have HX := Lib.hid hx
        have HY := Lib.hid hy
        clear hx hy
        have u1 : IntKind.i64.wrap ((j : Int) - 1) = (j : Int) - 1 := IntWalk.i64_in _ (by omega)
        have u2 : ((j : Int) - 1).toNat = j - 1 := by omega
        have u3 : (0 : Int) ≤ (j : Int) - 1 := by omega
        have u4 : (j : Int) - 1 < (l.length : Int) := by omega
        by_cases k1 : x < 0
        · go_wp2_with fail
          go_ret
          exact ⟨by rw [hfalse.out (by rw [hnext.out, HX.out]; simp [Rec.blockOk]; omega)]; rfl, by trivial⟩
        by_cases k2 : 4096 ≤ x
        · go_wp2_with fail
          go_ret
          exact ⟨by rw [hfalse.out (by rw [hnext.out, HX.out]; simp [Rec.blockOk]; omega)]; rfl, by trivial⟩
        by_cases k3 : x ≤ y
        · go_wp2_with fail
          go_ret
          exact ⟨by rw [hfalse.out (by rw [hnext.out, HX.out, HY.out]; simp [Rec.blockOk, k0]; omega)]; rfl, by trivial⟩
        go_wp2_with fail
        go_round
        case rel => exact ⟨j + 1, by omega, by go_num, Lib.hid (by rw [hnext.out, HX.out, HY.out]; simp [Rec.blockOk, k0]; omega)⟩
        case measure => simp [intOf]; omega
    · obtain rfl : j = l.length := by omega
      by_cases k1 : 1 ≤ (l.length : Int)
      · go_wp2_with fail
        go_ret
        exact ⟨by rw [hok.out]; simp; omega, by trivial⟩
      · go_wp2_with fail
        go_ret
        exact ⟨by rw [hok.out]; simp; omega, by trivial⟩
set_option maxRecDepth 100000 in
set_option maxHeartbeats 4000000 in
theorem recmayw_any (v : Value) (x : Rec.V) (w : World) (h : RecW w v x) :
    Calls Tryz.prog 73 #[v] w fun e w' => e = .returned (.bool (Rec.may x)) ∧ Below w.heap.size w w' := by
  obtain ⟨⟨hv, mv, rfl, hh, hm⟩, hq, hs, hk, ha, hl1, hl2⟩ := h
  obtain ⟨a1, c1, rfl⟩ := hh.form
  obtain ⟨a2, c2, rfl⟩ := hm.form
  obtain ⟨kind, seq, at_, homes, masked, sum⟩ := x
  have m1 := @recmay1 ⟨kind, seq, at_, homes, masked, sum⟩
  have m2 := @recmay2 ⟨kind, seq, at_, homes, masked, sum⟩
  have m3 := @recmay3 ⟨kind, seq, at_, homes, masked, sum⟩
  have m4 := @recmay4 ⟨kind, seq, at_, homes, masked, sum⟩
  have m5 := @recmay_other ⟨kind, seq, at_, homes, masked, sum⟩
  dsimp only at hh hm hq hs hk ha hl1 hl2 m1 m2 m3 m4 m5 ⊢
  generalize Rec.may ⟨kind, seq, at_, homes, masked, sum⟩ = r at *
  have q24 := Lib.hid (fun w h => homesw_any (.slice a1 homes.length c1) homes w 24 (by decide) h hl1)
  have q28 := Lib.hid (fun w h => homesw_any (.slice a1 homes.length c1) homes w 28 (by decide) h hl1)
  have H := Lib.hid hh
  clear hh hm
  generalize hnh : homes.length = nh at *
  generalize hnm : masked.length = nm at *
  clear hnh hnm
  replace m1 := Lib.hid m1
  replace m2 := Lib.hid m2
  replace m3 := Lib.hid m3
  replace m4 := Lib.hid m4
  replace m5 := Lib.hid m5
  by_cases e1 : kind = 1
  · subst e1
    by_cases c_sum : sum = 0
    · subst c_sum
      by_cases c_nh : nh = 0
      · subst c_nh
        by_cases c_nm : nm = 0
        · subst c_nm
          by_cases c_at : 0 ≤ at_ ∧ at_ ≤ 510
          · obtain rfl : r = true := by rw [m1.out rfl]; exact decide_eq_true (by omega)
            have R0 := Row.new w 61 [.int .i64 1, .int .u64 (seq : Int), .int .i64 at_, .slice a1 0 c1, .slice a2 0 c2, .int .u32 0] rfl
            have BA := Lib.hid ((Below.refl w.heap.size w).alloc (Nat.le_refl _) (.cells #[.int .i64 1, .int .u64 (seq : Int), .int .i64 at_, .slice a1 0 c1, .slice a2 0 c2, .int .u32 0] 61))
            have k0 := R0.cellAt 0 rfl
            have k2 := R0.cellAt 2 rfl
            have k3 := R0.cellAt 3 rfl
            have k4 := R0.cellAt 4 rfl
            have k5 := R0.cellAt 5 rfl
            clear R0
            clear m1 m2 m3 m4 m5 q24 q28 H
            go_enter Tryz.func73, Tryz.ntmps73
            go_wp2_with fail
            all_goals go_ret
            all_goals first | exact ⟨rfl, BA.out⟩ | exact ⟨by simp; omega, BA.out⟩ | (exfalso; omega)
          · obtain rfl : r = false := by rw [m1.out rfl]; exact decide_eq_false (by omega)
            have R0 := Row.new w 61 [.int .i64 1, .int .u64 (seq : Int), .int .i64 at_, .slice a1 0 c1, .slice a2 0 c2, .int .u32 0] rfl
            have BA := Lib.hid ((Below.refl w.heap.size w).alloc (Nat.le_refl _) (.cells #[.int .i64 1, .int .u64 (seq : Int), .int .i64 at_, .slice a1 0 c1, .slice a2 0 c2, .int .u32 0] 61))
            have k0 := R0.cellAt 0 rfl
            have k2 := R0.cellAt 2 rfl
            have k3 := R0.cellAt 3 rfl
            have k4 := R0.cellAt 4 rfl
            have k5 := R0.cellAt 5 rfl
            clear R0
            clear m1 m2 m3 m4 m5 q24 q28 H
            go_enter Tryz.func73, Tryz.ntmps73
            go_wp2_with fail
            all_goals go_ret
            all_goals first | exact ⟨rfl, BA.out⟩ | exact ⟨by simp; omega, BA.out⟩ | (exfalso; omega)
        · obtain rfl : r = false := by rw [m1.out rfl]; exact decide_eq_false (by omega)
          have R0 := Row.new w 61 [.int .i64 1, .int .u64 (seq : Int), .int .i64 at_, .slice a1 0 c1, .slice a2 nm c2, .int .u32 0] rfl
          have BA := Lib.hid ((Below.refl w.heap.size w).alloc (Nat.le_refl _) (.cells #[.int .i64 1, .int .u64 (seq : Int), .int .i64 at_, .slice a1 0 c1, .slice a2 nm c2, .int .u32 0] 61))
          have k0 := R0.cellAt 0 rfl
          have k2 := R0.cellAt 2 rfl
          have k3 := R0.cellAt 3 rfl
          have k4 := R0.cellAt 4 rfl
          have k5 := R0.cellAt 5 rfl
          clear R0
          clear m1 m2 m3 m4 m5 q24 q28 H
          go_enter Tryz.func73, Tryz.ntmps73
          go_wp2_with fail
          all_goals go_ret
          all_goals first | exact ⟨rfl, BA.out⟩ | exact ⟨by simp; omega, BA.out⟩ | (exfalso; omega)
      · obtain rfl : r = false := by rw [m1.out rfl]; exact decide_eq_false (by omega)
        have R0 := Row.new w 61 [.int .i64 1, .int .u64 (seq : Int), .int .i64 at_, .slice a1 nh c1, .slice a2 nm c2, .int .u32 0] rfl
        have BA := Lib.hid ((Below.refl w.heap.size w).alloc (Nat.le_refl _) (.cells #[.int .i64 1, .int .u64 (seq : Int), .int .i64 at_, .slice a1 nh c1, .slice a2 nm c2, .int .u32 0] 61))
        have k0 := R0.cellAt 0 rfl
        have k2 := R0.cellAt 2 rfl
        have k3 := R0.cellAt 3 rfl
        have k4 := R0.cellAt 4 rfl
        have k5 := R0.cellAt 5 rfl
        clear R0
        clear m1 m2 m3 m4 m5 q24 q28 H
        go_enter Tryz.func73, Tryz.ntmps73
        go_wp2_with fail
        all_goals go_ret
        all_goals first | exact ⟨rfl, BA.out⟩ | exact ⟨by simp; omega, BA.out⟩ | (exfalso; omega)
    · obtain rfl : r = false := by rw [m1.out rfl]; exact decide_eq_false (by omega)
      have R0 := Row.new w 61 [.int .i64 1, .int .u64 (seq : Int), .int .i64 at_, .slice a1 nh c1, .slice a2 nm c2, .int .u32 (sum : Int)] rfl
      have BA := Lib.hid ((Below.refl w.heap.size w).alloc (Nat.le_refl _) (.cells #[.int .i64 1, .int .u64 (seq : Int), .int .i64 at_, .slice a1 nh c1, .slice a2 nm c2, .int .u32 (sum : Int)] 61))
      have k0 := R0.cellAt 0 rfl
      have k2 := R0.cellAt 2 rfl
      have k3 := R0.cellAt 3 rfl
      have k4 := R0.cellAt 4 rfl
      have k5 := R0.cellAt 5 rfl
      clear R0
      clear m1 m2 m3 m4 m5 q24 q28 H
      go_enter Tryz.func73, Tryz.ntmps73
      go_wp2_with fail
      all_goals go_ret
      all_goals first | exact ⟨rfl, BA.out⟩ | exact ⟨by simp; omega, BA.out⟩ | (exfalso; omega)
  by_cases e2 : kind = 2
  · subst e2
    by_cases c_at : at_ = 0
    · subst c_at
      by_cases c_sum : sum = 0
      · subst c_sum
        cases hR : Rec.homesOk homes 24
        · rw [hR] at q24
          obtain rfl : r = false := by rw [m2.out rfl, decide_eq_true (by omega), hR]; rfl
          have R0 := Row.new w 61 [.int .i64 2, .int .u64 (seq : Int), .int .i64 0, .slice a1 nh c1, .slice a2 nm c2, .int .u32 0] rfl
          have BA := Lib.hid ((Below.refl w.heap.size w).alloc (Nat.le_refl _) (.cells #[.int .i64 2, .int .u64 (seq : Int), .int .i64 0, .slice a1 nh c1, .slice a2 nm c2, .int .u32 0] 61))
          have k0 := R0.cellAt 0 rfl
          have k2 := R0.cellAt 2 rfl
          have k3 := R0.cellAt 3 rfl
          have k4 := R0.cellAt 4 rfl
          have k5 := R0.cellAt 5 rfl
          have Q := Lib.hid (q24.out _ (H.out.below BA.out))
          clear R0
          clear m1 m2 m3 m4 m5 q24 q28 H
          go_enter Tryz.func73, Tryz.ntmps73
          go_wp2_with (refine Q.out.mono ?_; rintro e w1 ⟨rfl, rfl⟩)
          all_goals go_ret
          all_goals first | exact ⟨rfl, BA.out⟩ | exact ⟨by simp; omega, BA.out⟩ | (exfalso; omega)
        · rw [hR] at q24
          by_cases c_nm : nm = nh
          · subst c_nm
            obtain rfl : r = true := by rw [m2.out rfl, decide_eq_true (by omega), hR, decide_eq_true rfl]; rfl
            have R0 := Row.new w 61 [.int .i64 2, .int .u64 (seq : Int), .int .i64 0, .slice a1 nm c1, .slice a2 nm c2, .int .u32 0] rfl
            have BA := Lib.hid ((Below.refl w.heap.size w).alloc (Nat.le_refl _) (.cells #[.int .i64 2, .int .u64 (seq : Int), .int .i64 0, .slice a1 nm c1, .slice a2 nm c2, .int .u32 0] 61))
            have k0 := R0.cellAt 0 rfl
            have k2 := R0.cellAt 2 rfl
            have k3 := R0.cellAt 3 rfl
            have k4 := R0.cellAt 4 rfl
            have k5 := R0.cellAt 5 rfl
            have Q := Lib.hid (q24.out _ (H.out.below BA.out))
            clear R0
            clear m1 m2 m3 m4 m5 q24 q28 H
            go_enter Tryz.func73, Tryz.ntmps73
            go_wp2_with (refine Q.out.mono ?_; rintro e w1 ⟨rfl, rfl⟩)
            all_goals go_ret
            all_goals first | exact ⟨rfl, BA.out⟩ | exact ⟨by simp; omega, BA.out⟩ | (exfalso; omega)
          · obtain rfl : r = false := by rw [m2.out rfl, decide_eq_true (by omega), hR, decide_eq_false (by omega)]; rfl
            have R0 := Row.new w 61 [.int .i64 2, .int .u64 (seq : Int), .int .i64 0, .slice a1 nh c1, .slice a2 nm c2, .int .u32 0] rfl
            have BA := Lib.hid ((Below.refl w.heap.size w).alloc (Nat.le_refl _) (.cells #[.int .i64 2, .int .u64 (seq : Int), .int .i64 0, .slice a1 nh c1, .slice a2 nm c2, .int .u32 0] 61))
            have k0 := R0.cellAt 0 rfl
            have k2 := R0.cellAt 2 rfl
            have k3 := R0.cellAt 3 rfl
            have k4 := R0.cellAt 4 rfl
            have k5 := R0.cellAt 5 rfl
            have Q := Lib.hid (q24.out _ (H.out.below BA.out))
            clear R0
            clear m1 m2 m3 m4 m5 q24 q28 H
            go_enter Tryz.func73, Tryz.ntmps73
            go_wp2_with (refine Q.out.mono ?_; rintro e w1 ⟨rfl, rfl⟩)
            all_goals go_ret
            all_goals first | exact ⟨rfl, BA.out⟩ | exact ⟨by simp; omega, BA.out⟩ | (exfalso; omega)
      · obtain rfl : r = false := by rw [m2.out rfl, decide_eq_false (by omega)]; rfl
        have R0 := Row.new w 61 [.int .i64 2, .int .u64 (seq : Int), .int .i64 0, .slice a1 nh c1, .slice a2 nm c2, .int .u32 (sum : Int)] rfl
        have BA := Lib.hid ((Below.refl w.heap.size w).alloc (Nat.le_refl _) (.cells #[.int .i64 2, .int .u64 (seq : Int), .int .i64 0, .slice a1 nh c1, .slice a2 nm c2, .int .u32 (sum : Int)] 61))
        have k0 := R0.cellAt 0 rfl
        have k2 := R0.cellAt 2 rfl
        have k3 := R0.cellAt 3 rfl
        have k4 := R0.cellAt 4 rfl
        have k5 := R0.cellAt 5 rfl
        clear R0
        clear m1 m2 m3 m4 m5 q24 q28 H
        go_enter Tryz.func73, Tryz.ntmps73
        go_wp2_with fail
        all_goals go_ret
        all_goals first | exact ⟨rfl, BA.out⟩ | exact ⟨by simp; omega, BA.out⟩ | (exfalso; omega)
    · obtain rfl : r = false := by rw [m2.out rfl, decide_eq_false (by omega)]; rfl
      have R0 := Row.new w 61 [.int .i64 2, .int .u64 (seq : Int), .int .i64 at_, .slice a1 nh c1, .slice a2 nm c2, .int .u32 (sum : Int)] rfl
      have BA := Lib.hid ((Below.refl w.heap.size w).alloc (Nat.le_refl _) (.cells #[.int .i64 2, .int .u64 (seq : Int), .int .i64 at_, .slice a1 nh c1, .slice a2 nm c2, .int .u32 (sum : Int)] 61))
      have k0 := R0.cellAt 0 rfl
      have k2 := R0.cellAt 2 rfl
      have k3 := R0.cellAt 3 rfl
      have k4 := R0.cellAt 4 rfl
      have k5 := R0.cellAt 5 rfl
      clear R0
      clear m1 m2 m3 m4 m5 q24 q28 H
      go_enter Tryz.func73, Tryz.ntmps73
      go_wp2_with fail
      all_goals go_ret
      all_goals first | exact ⟨rfl, BA.out⟩ | exact ⟨by simp; omega, BA.out⟩ | (exfalso; omega)
  by_cases e3 : kind = 3
  · subst e3
    by_cases c_at : at_ = 0
    · subst c_at
      by_cases c_sum : sum = 0
      · subst c_sum
        cases hR : Rec.homesOk homes 28
        · rw [hR] at q28
          obtain rfl : r = false := by rw [m3.out rfl, decide_eq_true (by omega), hR]; rfl
          have R0 := Row.new w 61 [.int .i64 3, .int .u64 (seq : Int), .int .i64 0, .slice a1 nh c1, .slice a2 nm c2, .int .u32 0] rfl
          have BA := Lib.hid ((Below.refl w.heap.size w).alloc (Nat.le_refl _) (.cells #[.int .i64 3, .int .u64 (seq : Int), .int .i64 0, .slice a1 nh c1, .slice a2 nm c2, .int .u32 0] 61))
          have k0 := R0.cellAt 0 rfl
          have k2 := R0.cellAt 2 rfl
          have k3 := R0.cellAt 3 rfl
          have k4 := R0.cellAt 4 rfl
          have k5 := R0.cellAt 5 rfl
          have Q := Lib.hid (q28.out _ (H.out.below BA.out))
          clear R0
          clear m1 m2 m3 m4 m5 q24 q28 H
          go_enter Tryz.func73, Tryz.ntmps73
          go_wp2_with (refine Q.out.mono ?_; rintro e w1 ⟨rfl, rfl⟩)
          all_goals go_ret
          all_goals first | exact ⟨rfl, BA.out⟩ | exact ⟨by simp; omega, BA.out⟩ | (exfalso; omega)
        · rw [hR] at q28
          by_cases c_nm : nm = 0
          · subst c_nm
            obtain rfl : r = true := by rw [m3.out rfl, decide_eq_true (by omega), hR, decide_eq_true rfl]; rfl
            have R0 := Row.new w 61 [.int .i64 3, .int .u64 (seq : Int), .int .i64 0, .slice a1 nh c1, .slice a2 0 c2, .int .u32 0] rfl
            have BA := Lib.hid ((Below.refl w.heap.size w).alloc (Nat.le_refl _) (.cells #[.int .i64 3, .int .u64 (seq : Int), .int .i64 0, .slice a1 nh c1, .slice a2 0 c2, .int .u32 0] 61))
            have k0 := R0.cellAt 0 rfl
            have k2 := R0.cellAt 2 rfl
            have k3 := R0.cellAt 3 rfl
            have k4 := R0.cellAt 4 rfl
            have k5 := R0.cellAt 5 rfl
            have Q := Lib.hid (q28.out _ (H.out.below BA.out))
            clear R0
            clear m1 m2 m3 m4 m5 q24 q28 H
            go_enter Tryz.func73, Tryz.ntmps73
            go_wp2_with (refine Q.out.mono ?_; rintro e w1 ⟨rfl, rfl⟩)
            all_goals go_ret
            all_goals first | exact ⟨rfl, BA.out⟩ | exact ⟨by simp; omega, BA.out⟩ | (exfalso; omega)
          · obtain rfl : r = false := by rw [m3.out rfl, decide_eq_true (by omega), hR, decide_eq_false (by omega)]; rfl
            have R0 := Row.new w 61 [.int .i64 3, .int .u64 (seq : Int), .int .i64 0, .slice a1 nh c1, .slice a2 nm c2, .int .u32 0] rfl
            have BA := Lib.hid ((Below.refl w.heap.size w).alloc (Nat.le_refl _) (.cells #[.int .i64 3, .int .u64 (seq : Int), .int .i64 0, .slice a1 nh c1, .slice a2 nm c2, .int .u32 0] 61))
            have k0 := R0.cellAt 0 rfl
            have k2 := R0.cellAt 2 rfl
            have k3 := R0.cellAt 3 rfl
            have k4 := R0.cellAt 4 rfl
            have k5 := R0.cellAt 5 rfl
            have Q := Lib.hid (q28.out _ (H.out.below BA.out))
            clear R0
            clear m1 m2 m3 m4 m5 q24 q28 H
            go_enter Tryz.func73, Tryz.ntmps73
            go_wp2_with (refine Q.out.mono ?_; rintro e w1 ⟨rfl, rfl⟩)
            all_goals go_ret
            all_goals first | exact ⟨rfl, BA.out⟩ | exact ⟨by simp; omega, BA.out⟩ | (exfalso; omega)
      · obtain rfl : r = false := by rw [m3.out rfl, decide_eq_false (by omega)]; rfl
        have R0 := Row.new w 61 [.int .i64 3, .int .u64 (seq : Int), .int .i64 0, .slice a1 nh c1, .slice a2 nm c2, .int .u32 (sum : Int)] rfl
        have BA := Lib.hid ((Below.refl w.heap.size w).alloc (Nat.le_refl _) (.cells #[.int .i64 3, .int .u64 (seq : Int), .int .i64 0, .slice a1 nh c1, .slice a2 nm c2, .int .u32 (sum : Int)] 61))
        have k0 := R0.cellAt 0 rfl
        have k2 := R0.cellAt 2 rfl
        have k3 := R0.cellAt 3 rfl
        have k4 := R0.cellAt 4 rfl
        have k5 := R0.cellAt 5 rfl
        clear R0
        clear m1 m2 m3 m4 m5 q24 q28 H
        go_enter Tryz.func73, Tryz.ntmps73
        go_wp2_with fail
        all_goals go_ret
        all_goals first | exact ⟨rfl, BA.out⟩ | exact ⟨by simp; omega, BA.out⟩ | (exfalso; omega)
    · obtain rfl : r = false := by rw [m3.out rfl, decide_eq_false (by omega)]; rfl
      have R0 := Row.new w 61 [.int .i64 3, .int .u64 (seq : Int), .int .i64 at_, .slice a1 nh c1, .slice a2 nm c2, .int .u32 (sum : Int)] rfl
      have BA := Lib.hid ((Below.refl w.heap.size w).alloc (Nat.le_refl _) (.cells #[.int .i64 3, .int .u64 (seq : Int), .int .i64 at_, .slice a1 nh c1, .slice a2 nm c2, .int .u32 (sum : Int)] 61))
      have k0 := R0.cellAt 0 rfl
      have k2 := R0.cellAt 2 rfl
      have k3 := R0.cellAt 3 rfl
      have k4 := R0.cellAt 4 rfl
      have k5 := R0.cellAt 5 rfl
      clear R0
      clear m1 m2 m3 m4 m5 q24 q28 H
      go_enter Tryz.func73, Tryz.ntmps73
      go_wp2_with fail
      all_goals go_ret
      all_goals first | exact ⟨rfl, BA.out⟩ | exact ⟨by simp; omega, BA.out⟩ | (exfalso; omega)
  by_cases e4 : kind = 4
  · subst e4
    by_cases c_at : at_ = 0
    · subst c_at
      by_cases c_nh : nh = 0
      · subst c_nh
        by_cases c_nm : nm = 0
        · subst c_nm
          obtain rfl : r = true := by rw [m4.out rfl]; exact decide_eq_true (by omega)
          have R0 := Row.new w 61 [.int .i64 4, .int .u64 (seq : Int), .int .i64 0, .slice a1 0 c1, .slice a2 0 c2, .int .u32 (sum : Int)] rfl
          have BA := Lib.hid ((Below.refl w.heap.size w).alloc (Nat.le_refl _) (.cells #[.int .i64 4, .int .u64 (seq : Int), .int .i64 0, .slice a1 0 c1, .slice a2 0 c2, .int .u32 (sum : Int)] 61))
          have k0 := R0.cellAt 0 rfl
          have k2 := R0.cellAt 2 rfl
          have k3 := R0.cellAt 3 rfl
          have k4 := R0.cellAt 4 rfl
          have k5 := R0.cellAt 5 rfl
          clear R0
          clear m1 m2 m3 m4 m5 q24 q28 H
          go_enter Tryz.func73, Tryz.ntmps73
          go_wp2_with fail
          all_goals go_ret
          all_goals first | exact ⟨rfl, BA.out⟩ | exact ⟨by simp; omega, BA.out⟩ | (exfalso; omega)
        · obtain rfl : r = false := by rw [m4.out rfl]; exact decide_eq_false (by omega)
          have R0 := Row.new w 61 [.int .i64 4, .int .u64 (seq : Int), .int .i64 0, .slice a1 0 c1, .slice a2 nm c2, .int .u32 (sum : Int)] rfl
          have BA := Lib.hid ((Below.refl w.heap.size w).alloc (Nat.le_refl _) (.cells #[.int .i64 4, .int .u64 (seq : Int), .int .i64 0, .slice a1 0 c1, .slice a2 nm c2, .int .u32 (sum : Int)] 61))
          have k0 := R0.cellAt 0 rfl
          have k2 := R0.cellAt 2 rfl
          have k3 := R0.cellAt 3 rfl
          have k4 := R0.cellAt 4 rfl
          have k5 := R0.cellAt 5 rfl
          clear R0
          clear m1 m2 m3 m4 m5 q24 q28 H
          go_enter Tryz.func73, Tryz.ntmps73
          go_wp2_with fail
          all_goals go_ret
          all_goals first | exact ⟨rfl, BA.out⟩ | exact ⟨by simp; omega, BA.out⟩ | (exfalso; omega)
      · obtain rfl : r = false := by rw [m4.out rfl]; exact decide_eq_false (by omega)
        have R0 := Row.new w 61 [.int .i64 4, .int .u64 (seq : Int), .int .i64 0, .slice a1 nh c1, .slice a2 nm c2, .int .u32 (sum : Int)] rfl
        have BA := Lib.hid ((Below.refl w.heap.size w).alloc (Nat.le_refl _) (.cells #[.int .i64 4, .int .u64 (seq : Int), .int .i64 0, .slice a1 nh c1, .slice a2 nm c2, .int .u32 (sum : Int)] 61))
        have k0 := R0.cellAt 0 rfl
        have k2 := R0.cellAt 2 rfl
        have k3 := R0.cellAt 3 rfl
        have k4 := R0.cellAt 4 rfl
        have k5 := R0.cellAt 5 rfl
        clear R0
        clear m1 m2 m3 m4 m5 q24 q28 H
        go_enter Tryz.func73, Tryz.ntmps73
        go_wp2_with fail
        all_goals go_ret
        all_goals first | exact ⟨rfl, BA.out⟩ | exact ⟨by simp; omega, BA.out⟩ | (exfalso; omega)
    · obtain rfl : r = false := by rw [m4.out rfl]; exact decide_eq_false (by omega)
      have R0 := Row.new w 61 [.int .i64 4, .int .u64 (seq : Int), .int .i64 at_, .slice a1 nh c1, .slice a2 nm c2, .int .u32 (sum : Int)] rfl
      have BA := Lib.hid ((Below.refl w.heap.size w).alloc (Nat.le_refl _) (.cells #[.int .i64 4, .int .u64 (seq : Int), .int .i64 at_, .slice a1 nh c1, .slice a2 nm c2, .int .u32 (sum : Int)] 61))
      have k0 := R0.cellAt 0 rfl
      have k2 := R0.cellAt 2 rfl
      have k3 := R0.cellAt 3 rfl
      have k4 := R0.cellAt 4 rfl
      have k5 := R0.cellAt 5 rfl
      clear R0
      clear m1 m2 m3 m4 m5 q24 q28 H
      go_enter Tryz.func73, Tryz.ntmps73
      go_wp2_with fail
      all_goals go_ret
      all_goals first | exact ⟨rfl, BA.out⟩ | exact ⟨by simp; omega, BA.out⟩ | (exfalso; omega)
  obtain rfl : r = false := m5.out e1 e2 e3 e4
  have R0 := Row.new w 61 [.int .i64 kind, .int .u64 (seq : Int), .int .i64 at_, .slice a1 nh c1, .slice a2 nm c2, .int .u32 (sum : Int)] rfl
  have BA := Lib.hid ((Below.refl w.heap.size w).alloc (Nat.le_refl _) (.cells #[.int .i64 kind, .int .u64 (seq : Int), .int .i64 at_, .slice a1 nh c1, .slice a2 nm c2, .int .u32 (sum : Int)] 61))
  have k0 := R0.cellAt 0 rfl
  have k2 := R0.cellAt 2 rfl
  have k3 := R0.cellAt 3 rfl
  have k4 := R0.cellAt 4 rfl
  have k5 := R0.cellAt 5 rfl
  clear R0
  clear m1 m2 m3 m4 m5 q24 q28 H
  go_enter Tryz.func73, Tryz.ntmps73
  go_wp2_with fail
  all_goals go_ret
  all_goals first | exact ⟨rfl, BA.out⟩ | exact ⟨by simp; omega, BA.out⟩ | (exfalso; omega)
set_option maxRecDepth 100000 in
set_option maxHeartbeats 8000000 in
theorem encodew_any (v : Value) (x : Rec.V) (w : World) (h : RecW w v x) :
    Calls Tryz.prog 23 #[v] w fun e w' => e = .returned (.tuple #[.string (txt (Rec.encR x).1), .int .i64 (Rec.encR x).2]) ∧ Below w.heap.size w w' := by
  have hmay := fun w h => recmayw_any v x w h
  have H0 := h
  obtain ⟨⟨hv, mv, rfl, hh, hm⟩, hq, hs, hk, ha, hl1, hl2⟩ := h
  obtain ⟨a1, c1, rfl⟩ := hh.form
  obtain ⟨a2, c2, rfl⟩ := hm.form
  have R0 := Row.new w 61 [.int .i64 x.kind, .int .u64 (x.seq : Int), .int .i64 x.at_, .slice a1 x.homes.length c1, .slice a2 x.masked.length c2, .int .u32 (x.sum : Int)] rfl
  have BA := Lib.hid ((Below.refl w.heap.size w).alloc (Nat.le_refl _) (.cells #[.int .i64 x.kind, .int .u64 (x.seq : Int), .int .i64 x.at_, .slice a1 x.homes.length c1, .slice a2 x.masked.length c2, .int .u32 (x.sum : Int)] 61))
  have Q := hmay _ (H0.below BA.out)
  have HI := Lib.hid hh
  have HF := Lib.hid hm
  have HR := Lib.hid R0
  unfold Rec.encR
  by_cases k : Rec.may x = true
  · rw [if_pos k]
    obtain ⟨T, hT⟩ : ∃ T, T = txt (Rec.rb x) := ⟨_, rfl⟩
    show Calls Tryz.prog _ _ w fun e w' => e = .returned (.tuple #[.string (txt (Rec.rb x)), .int .i64 0]) ∧ Below w.heap.size w w'
    rw [← hT]
    have HT := Lib.hid hT
    clear hT
    rw [k] at Q
    have HQ := Lib.hid Q
    have K := Lib.hid k
    have q0 := R0.cellAt 0 rfl
    have q1 := R0.cellAt 1 rfl
    have q2 := R0.cellAt 2 rfl
    have q3 := R0.cellAt 3 rfl
    have q4 := R0.cellAt 4 rfl
    have q5 := R0.cellAt 5 rfl
    clear Q k R0 hh hm H0 hmay
    go_enter Tryz.func23, Tryz.ntmps23
    go_wp2_with fail
    refine HQ.out.mono ?_
    rintro e w1 ⟨rfl, hb1⟩
    have R1 := HR.out.below hb1 (by simp)
    have r0 := R1.cellAt 0 rfl
    have r1 := R1.cellAt 1 rfl
    have HR1 := Lib.hid R1
    have hX1 := R1.lt
    have hBA1 := Lib.hid (BA.out.trans (hb1.mono (by simp)))
    clear q0 q1 q2 q3 q4 q5 HQ HR BA R1
    have hcat : (⟨#[71, 76, 74, 119]⟩ : ByteArray).size + (txt (List.replicate 124 0)).size ≤ 9223372036854775807 := by rw [txt_size]; simp [ByteArray.size]
    have hcat2 : ¬ 9223372036854775807 < (⟨#[71, 76, 74, 119]⟩ : ByteArray).size + (txt (List.replicate 124 0)).size := by omega
    have hcat3 : ¬ 9223372036854775807 < 4 + (txt (List.replicate 124 0)).size := hcat2
    have hcat4 : 4 + (txt (List.replicate 124 0)).size ≤ 9223372036854775807 := hcat
    have hS : (⟨#[71, 76, 74, 119]⟩ : ByteArray) ++ txt (List.replicate 124 0) = txt (Rec.magic ++ List.replicate 124 0) := by rw [← txt_append]; rfl
    have hput : Hid (∀ w, Calls Tryz.prog 74 #[.string ((⟨#[71, 76, 74, 119]⟩ : ByteArray) ++ txt (List.replicate 124 0)), .int .i64 5, .int .i64 8, .int .u64 (x.seq : Int)] w fun e w' => e = .returned (.tuple #[.string (txt (splice (Rec.magic ++ List.replicate 124 0) 5 (le 8 x.seq))), .bool true]) ∧ Below w.heap.size w w') := Lib.hid (fun w => by
      have := put_yes ((⟨#[71, 76, 74, 119]⟩ : ByteArray) ++ txt (List.replicate 124 0)) 5 8 x.seq (.inr (.inr (.inr rfl))) (by rw [hS, txt_size]; decide) (by rw [hS, txt_size]; decide) (by omega) (by omega) w
      rw [hS, txt_list, ← hS] at this
      exact this)
    have hz := Lib.hid zeros124
    obtain ⟨S0, hS0⟩ : ∃ S0, S0 = txt (splice (Rec.magic ++ List.replicate 124 0) 5 (le 8 x.seq)) := ⟨_, rfl⟩
    rw [← hS0] at hput
    have HS0 := Lib.hid hS0
    clear hS0
    have KS := Lib.hid (Rec.may_cases K.out)
    clear hS
    generalize txt (List.replicate 124 0) = Z at *
    go_wp2_with fail
    go_region_held3 (fun w' => w'.cell? ⟨w.heap.size, 1, none⟩ = some (.int .u64 (x.seq : Int)))
      (first | exact r1 | exact s1 | exact t1)
      (first | (go_at_call 72; refine (hz.out _).mono ?_; rintro e w2 ⟨rfl, hb2'⟩; have hb2 : Below w1.heap.size w1 w2 := ⟨hb2'.os, hb2'.tape, hb2'.output, hb2'.size, hb2'.block⟩; have s1 := (hb2.cell (p := ⟨w.heap.size, 1, none⟩) hX1).trans r1) | (go_at_call 74; refine (hput.out _).mono ?_; rintro e w3 ⟨rfl, hb3'⟩; have hb3 : Below w2.heap.size w2 w3 := ⟨hb3'.os, hb3'.tape, hb3'.output, hb3'.size, hb3'.block⟩; have t1 := (hb3.cell (p := ⟨w.heap.size, 1, none⟩) (Nat.lt_of_lt_of_le hX1 hb2.size)).trans s1) | fail "none")
    have hB3 := Lib.hid (hb2.trans (hb3.mono hb2.size))
    have hBA3 := Lib.hid (hBA1.out.trans (hB3.out.mono hBA1.out.size))
    have HR3 := Lib.hid (HR1.out.below hB3.out hX1)
    clear hb2 hb3 hb2' hb3' r1 s1 t1 hcat hcat2 hcat3 hcat4 hput hz HR1 hX1 hb1
    have hw4 : Hid (Below w3.heap.size w3 (w3.alloc (.cells #[.string S0, .int .i64 4] 148))) := Lib.hid ((Below.refl _ _).alloc (Nat.le_refl _) _)
    have HW : Hid (Row (w3.alloc (.cells #[.string S0, .int .i64 4] 148)) w3.heap.size 148 [.string S0, .int .i64 4]) := Lib.hid (Row.new w3 _ _ rfl)
    have hXW : w.heap.size < w3.heap.size := HR3.out.lt
    have HR4 := Lib.hid (HR3.out.below hw4.out hXW)
    have x0 := HR4.out.cellAt 0 rfl
    have HB4 := Lib.hid (hBA3.out.trans (hw4.out.mono (by omega)))
    have hk4 : 0 ≤ x.kind ∧ x.kind ≤ 4 := by rcases KS.out with ⟨h, _⟩ | ⟨h, _⟩ | ⟨h, _⟩ | ⟨h, _⟩ <;> omega
    obtain ⟨kn, hkn⟩ := Int.eq_ofNat_of_zero_le hk4.1
    have P1 : Hid (Calls Tryz.prog 75 #[.pointer (some ⟨w3.heap.size, 0, none⟩), .int .i64 1, .int .i64 x.kind] (w3.alloc (.cells #[.string S0, .int .i64 4] 148)) fun e w' => e = .returned (.tuple #[]) ∧ Row w' w3.heap.size 148 [.string (txt (Rec.pd x [])), .int .i64 5] ∧ Only [w3.heap.size] (w3.alloc (.cells #[.string S0, .int .i64 4] 148)) w') := Lib.hid (by
      have := wput_any w3.heap.size S0 4 1 kn (.inl rfl) (by rw [HS0.out, txt_size]; rw [splice_length _ _ _ (by rw [le_length]; decide)]; decide) (by rw [HS0.out, txt_size]; rw [splice_length _ _ _ (by rw [le_length]; decide)]; decide) (by omega) (by omega) _ HW.out
      rw [HS0.out, txt_list, show kn = x.kind.toNat by omega, Rec.pd_head x hk4, ← HS0.out, ← show kn = x.kind.toNat by omega, ← hkn] at this
      exact this)
    clear HS0 hkn
    go_wp2_with fail
    generalize w3.alloc (.cells #[.string S0, .int .i64 4] 148) = w4 at *
    have HS4 : Hid (w.heap.size ≤ w4.heap.size) := Lib.hid HB4.out.size
    generalize w3.heap.size = W at *
    clear hBA3 HR3 hB3
    refine P1.out.mono ?_
    rintro e w5 ⟨rfl, hr5, ho5⟩
    have HR5 := Lib.hid (ho5.row HR4.out (by simp; omega))
    have x0 := HR5.out.cellAt 0 rfl
    have x2 := HR5.out.cellAt 2 rfl
    have x3 := HR5.out.cellAt 3 rfl
    have x4 := HR5.out.cellAt 4 rfl
    have x5 := HR5.out.cellAt 5 rfl
    have y1 := hr5.cellAt 1 rfl
    have f1 := hr5.free 1 (by simp)
    have HW6 := Lib.hid (hr5.set 1 (.int .i64 13))
    have HO6 := Lib.hid (ho5.trans (Only.setCell (S := [W]) w5 ⟨W, 1, none⟩ (.int .i64 13) (by simp)))
    have HR6 := Lib.hid (HR5.out.other (a := ⟨W, 1, none⟩) (by simp; omega) (.int .i64 13))
    have z0 := HR6.out.cellAt 0 rfl
    have z2 := HR6.out.cellAt 2 rfl
    have z3 := HR6.out.cellAt 3 rfl
    have z4 := HR6.out.cellAt 4 rfl
    have z5 := HR6.out.cellAt 5 rfl
    have HR4B := HR4
    clear hr5 ho5 P1 HR4 hw4 HW
    rcases KS.out with ⟨k1, j1, j2, j3, j4, j5⟩ | ⟨k1, j1, j2, j3, j4, j5, j6⟩ | ⟨k1, j1, j2, j3, j4, j5, j6⟩ | ⟨k1, j1, j2, j3⟩
    · have HBD : Hid (Rec.body x = [] ++ le 2 x.at_.toNat) := Lib.hid (by unfold Rec.body; rw [if_pos k1]; rfl)
      have P2 := Lib.hid (wpd_any x [] W 2 x.at_.toNat (.inr (.inl rfl)) (by simp) (by omega) (by omega) _ HW6.out)
      rw [show ((x.at_.toNat : Nat) : Int) = x.at_ by omega] at P2
      clear KS K j1 j2 j3 j4 j5
      go_wp2_with (go_at_call 75; refine P2.out.mono ?_; rintro e w7 ⟨rfl, hr7, ho7⟩; have y0 := hr7.cellAt 0 rfl)
      go_ret2
      exact ⟨by rw [HT.out, Rec.rb_pd, HBD.out]; rfl, HB4.out.trans ((HO6.out.trans ho7).below HS4.out (by simp; omega))⟩
    · have hn1 : x.homes.length ≤ 24 := j5
      have hml : x.masked.length = x.homes.length := j6
      have HBD : Hid (Rec.body x = [UInt8.ofNat x.homes.length] ++ (Rec.hb x.homes ++ Rec.mb x.masked)) := Lib.hid (by unfold Rec.body; rw [if_neg (by omega), if_neg (by omega)])
      have hle1 : le 1 x.homes.length = [UInt8.ofNat x.homes.length] := by
        have : x.homes.length % 256 = x.homes.length := by omega
        simp [le, this]
      have P2 : Hid (Calls Tryz.prog 75 #[.pointer (some ⟨W, 0, none⟩), .int .i64 1, .int .i64 (x.homes.length : Int)] (w5.setCell ⟨W, 1, none⟩ (.int .i64 13)) fun e w' => e = .returned (.tuple #[]) ∧ Row w' W 148 [.string (txt (Rec.pd x [UInt8.ofNat x.homes.length])), .int .i64 14] ∧ Only [W] (w5.setCell ⟨W, 1, none⟩ (.int .i64 13)) w') := Lib.hid (by
        have := wpd_any x [] W 1 x.homes.length (.inl rfl) (by simp) (by omega) (by omega) _ HW6.out
        rw [List.nil_append, hle1] at this
        exact this)
      have HHome : Hid (∀ b ∈ x.homes, 0 ≤ b ∧ b < 4096) := Lib.hid (fun b hb => Rec.blockOk_iff.1 (Rec.rises_mem j3 b hb))
      clear KS K j1 j2 j3 j4 j5 j6 hle1
      go_wp2_with fail
      refine P2.out.mono ?_
      rintro e w7 ⟨rfl, hr7, ho7⟩
      have HO7 := Lib.hid (HO6.out.trans ho7)
      have HR7 := Lib.hid (ho7.row HR6.out (by simp; omega))
      have u3 := HR7.out.cellAt 3 rfl
      have HW7 := Lib.hid hr7
      clear hr7 ho7 P2 z0 z2 z3 z4 z5 x0 x2 x3 x4 x5 y1 f1 HW6 HO6 HR6 HR5
      go_wp2_with fail
      go_loopw [8, 43] (fun a q wr => ∃ j : Nat, j ≤ x.homes.length ∧ q = .int .i64 j ∧ Hid (Row wr W 148 [.string (txt (Rec.pd x ([UInt8.ofNat x.homes.length] ++ Rec.hb (x.homes.take j)))), .int .i64 ((13 + ([UInt8.ofNat x.homes.length] ++ Rec.hb (x.homes.take j)).length : Nat) : Int)]) ∧ Hid (Only [W] w4 wr)) (fun _ q _ => x.homes.length - (intOf q).toNat)
      case atStart => exact ⟨0, by omega, rfl, Lib.hid (by rw [List.take_zero]; exact HW7.out), HO7⟩
      case round =>
        obtain ⟨j, hj, rfl, hrw, how⟩ := hrel
        by_cases hlt : j < x.homes.length
        · have i0 : (0 : Int) ≤ (j : Int) := by omega
          have i1 : (j : Int) < (x.homes.length : Int) := by omega
          obtain ⟨g, off, rfl, c0⟩ := HI.out.cells j hlt
          have hg : g < w.heap.size := World.block_lt_of_cell? w _ c0
          have c0' := how.out.cell ((HB4.out.cell (p := ⟨g, off + j, none⟩) hg).trans c0) (by simp; omega)
          have hx := HHome.out (x.homes.getD j 0) (by simp [List.getD, hlt, List.getElem_mem])
          have P := wpd_any x ([UInt8.ofNat x.homes.length] ++ Rec.hb (x.homes.take j)) W 2 (x.homes.getD j 0).toNat (.inr (.inl rfl)) (by rw [List.length_append, Rec.hb_length, List.length_take]; simp; omega) (by omega) (by omega) _ hrw.out
          rw [List.append_assoc, ← hb_take _ j hlt, show (((x.homes.getD j 0).toNat : Nat) : Int) = x.homes.getD j 0 by omega] at P
          have HP := Lib.hid P
          clear P c0 hrw
          generalize x.homes.getD j 0 = y at *
          go_wp2_with (go_at_call 75; refine HP.out.mono ?_; rintro e w8 ⟨rfl, hr8, ho8⟩)
          go_roundw
          case rel => exact ⟨j + 1, by omega, by go_num, Lib.hid hr8, Lib.hid (how.out.trans ho8)⟩
          case measure => simp [intOf]; omega
        · obtain rfl : j = x.homes.length := by omega
          rw [List.take_length] at hrw
          have HR8 := Lib.hid (how.out.row HR4B.out (by simp; omega))
          have u4 := HR8.out.cellAt 4 rfl
          clear u3
          go_wp2_with fail
          rename World => wA
          go_loopw [10, 11, 54] (fun a c q wr => ∃ i : Nat, i ≤ x.masked.length ∧ q = .int .i64 i ∧ Hid (Row wr W 148 [.string (txt (Rec.pd x ([UInt8.ofNat x.homes.length] ++ (Rec.hb x.homes ++ Rec.mb (x.masked.take i))))), .int .i64 ((13 + ([UInt8.ofNat x.homes.length] ++ (Rec.hb x.homes ++ Rec.mb (x.masked.take i))).length : Nat) : Int)]) ∧ Hid (Only [W] w4 wr)) (fun _ _ q _ => x.masked.length - (intOf q).toNat)
          case atStart => exact ⟨0, by omega, rfl, Lib.hid (by rw [List.take_zero, show Rec.mb [] = [] from rfl, List.append_nil]; exact hrw.out), how⟩
          case round =>
            obtain ⟨i, hi, rfl, hrw2, how2⟩ := hrel
            by_cases hlt : i < x.masked.length
            · have i0 : (0 : Int) ≤ (i : Int) := by omega
              have i1 : (i : Int) < (x.masked.length : Int) := by omega
              obtain ⟨g, off, rfl, c0⟩ := HF.out.cells i hlt
              have hg : g < w.heap.size := World.block_lt_of_cell? w _ c0
              have c0' := how2.out.cell ((HB4.out.cell (p := ⟨g, off + i, none⟩) hg).trans c0) (by simp; omega)
              have P := wpd_any x ([UInt8.ofNat x.homes.length] ++ (Rec.hb x.homes ++ Rec.mb (x.masked.take i))) W 1 (if x.masked.getD i false = true then 1 else 0) (.inl rfl) (by rw [List.length_append, List.length_append, Rec.hb_length, Rec.mb_length, List.length_take]; simp; omega) (by split <;> decide) (by split <;> decide) _ hrw2.out
              rw [List.append_assoc, List.append_assoc, ← mb_take _ i hlt] at P
              have HP := Lib.hid P
              clear P c0 hrw2
              cases hy : x.masked.getD i false
              · rw [hy] at HP c0'
                go_wp2_with (go_at_call 75; refine HP.out.mono ?_; rintro e w8 ⟨rfl, hr8, ho8⟩)
                go_roundw
                case rel => exact ⟨i + 1, by omega, by go_num, Lib.hid hr8, Lib.hid (how2.out.trans ho8)⟩
                case measure => simp [intOf]; omega
              · rw [hy] at HP c0'
                go_wp2_with (go_at_call 75; refine HP.out.mono ?_; rintro e w8 ⟨rfl, hr8, ho8⟩)
                go_roundw
                case rel => exact ⟨i + 1, by omega, by go_num, Lib.hid hr8, Lib.hid (how2.out.trans ho8)⟩
                case measure => simp [intOf]; omega
            · obtain rfl : i = x.masked.length := by omega
              rw [List.take_length] at hrw2
              have y0 := hrw2.out.cellAt 0 rfl
              go_wp2_with fail
              go_ret2
              exact ⟨by rw [HT.out, Rec.rb_pd, HBD.out]; rfl, HB4.out.trans (how2.out.below HS4.out (by simp; omega))⟩
    · have hn1 : x.homes.length ≤ 28 := j5
      have hml : x.masked.length = 0 := by rw [j6]; rfl
      have HBD : Hid (Rec.body x = [UInt8.ofNat x.homes.length] ++ (Rec.hb x.homes ++ Rec.mb x.masked)) := Lib.hid (by unfold Rec.body; rw [if_neg (by omega), if_neg (by omega)])
      have hle1 : le 1 x.homes.length = [UInt8.ofNat x.homes.length] := by
        have : x.homes.length % 256 = x.homes.length := by omega
        simp [le, this]
      have P2 : Hid (Calls Tryz.prog 75 #[.pointer (some ⟨W, 0, none⟩), .int .i64 1, .int .i64 (x.homes.length : Int)] (w5.setCell ⟨W, 1, none⟩ (.int .i64 13)) fun e w' => e = .returned (.tuple #[]) ∧ Row w' W 148 [.string (txt (Rec.pd x [UInt8.ofNat x.homes.length])), .int .i64 14] ∧ Only [W] (w5.setCell ⟨W, 1, none⟩ (.int .i64 13)) w') := Lib.hid (by
        have := wpd_any x [] W 1 x.homes.length (.inl rfl) (by simp) (by omega) (by omega) _ HW6.out
        rw [List.nil_append, hle1] at this
        exact this)
      have HHome : Hid (∀ b ∈ x.homes, 0 ≤ b ∧ b < 4096) := Lib.hid (fun b hb => Rec.blockOk_iff.1 (Rec.rises_mem j3 b hb))
      clear KS K j1 j2 j3 j4 j5 j6 hle1
      go_wp2_with fail
      refine P2.out.mono ?_
      rintro e w7 ⟨rfl, hr7, ho7⟩
      have HO7 := Lib.hid (HO6.out.trans ho7)
      have HR7 := Lib.hid (ho7.row HR6.out (by simp; omega))
      have u3 := HR7.out.cellAt 3 rfl
      have HW7 := Lib.hid hr7
      clear hr7 ho7 P2 z0 z2 z3 z4 z5 x0 x2 x3 x4 x5 y1 f1 HW6 HO6 HR6 HR5
      go_wp2_with fail
      go_loopw [8, 43] (fun a q wr => ∃ j : Nat, j ≤ x.homes.length ∧ q = .int .i64 j ∧ Hid (Row wr W 148 [.string (txt (Rec.pd x ([UInt8.ofNat x.homes.length] ++ Rec.hb (x.homes.take j)))), .int .i64 ((13 + ([UInt8.ofNat x.homes.length] ++ Rec.hb (x.homes.take j)).length : Nat) : Int)]) ∧ Hid (Only [W] w4 wr)) (fun _ q _ => x.homes.length - (intOf q).toNat)
      case atStart => exact ⟨0, by omega, rfl, Lib.hid (by rw [List.take_zero]; exact HW7.out), HO7⟩
      case round =>
        obtain ⟨j, hj, rfl, hrw, how⟩ := hrel
        by_cases hlt : j < x.homes.length
        · have i0 : (0 : Int) ≤ (j : Int) := by omega
          have i1 : (j : Int) < (x.homes.length : Int) := by omega
          obtain ⟨g, off, rfl, c0⟩ := HI.out.cells j hlt
          have hg : g < w.heap.size := World.block_lt_of_cell? w _ c0
          have c0' := how.out.cell ((HB4.out.cell (p := ⟨g, off + j, none⟩) hg).trans c0) (by simp; omega)
          have hx := HHome.out (x.homes.getD j 0) (by simp [List.getD, hlt, List.getElem_mem])
          have P := wpd_any x ([UInt8.ofNat x.homes.length] ++ Rec.hb (x.homes.take j)) W 2 (x.homes.getD j 0).toNat (.inr (.inl rfl)) (by rw [List.length_append, Rec.hb_length, List.length_take]; simp; omega) (by omega) (by omega) _ hrw.out
          rw [List.append_assoc, ← hb_take _ j hlt, show (((x.homes.getD j 0).toNat : Nat) : Int) = x.homes.getD j 0 by omega] at P
          have HP := Lib.hid P
          clear P c0 hrw
          generalize x.homes.getD j 0 = y at *
          go_wp2_with (go_at_call 75; refine HP.out.mono ?_; rintro e w8 ⟨rfl, hr8, ho8⟩)
          go_roundw
          case rel => exact ⟨j + 1, by omega, by go_num, Lib.hid hr8, Lib.hid (how.out.trans ho8)⟩
          case measure => simp [intOf]; omega
        · obtain rfl : j = x.homes.length := by omega
          rw [List.take_length] at hrw
          have HR8 := Lib.hid (how.out.row HR4B.out (by simp; omega))
          have u4 := HR8.out.cellAt 4 rfl
          clear u3
          go_wp2_with fail
          rename World => wA
          go_loopw [10, 11, 54] (fun a c q wr => ∃ i : Nat, i ≤ x.masked.length ∧ q = .int .i64 i ∧ Hid (Row wr W 148 [.string (txt (Rec.pd x ([UInt8.ofNat x.homes.length] ++ (Rec.hb x.homes ++ Rec.mb (x.masked.take i))))), .int .i64 ((13 + ([UInt8.ofNat x.homes.length] ++ (Rec.hb x.homes ++ Rec.mb (x.masked.take i))).length : Nat) : Int)]) ∧ Hid (Only [W] w4 wr)) (fun _ _ q _ => x.masked.length - (intOf q).toNat)
          case atStart => exact ⟨0, by omega, rfl, Lib.hid (by rw [List.take_zero, show Rec.mb [] = [] from rfl, List.append_nil]; exact hrw.out), how⟩
          case round =>
            obtain ⟨i, hi, rfl, hrw2, how2⟩ := hrel
            by_cases hlt : i < x.masked.length
            · exact absurd hlt (by omega)
            · obtain rfl : i = x.masked.length := by omega
              rw [List.take_length] at hrw2
              have y0 := hrw2.out.cellAt 0 rfl
              go_wp2_with fail
              go_ret2
              exact ⟨by rw [HT.out, Rec.rb_pd, HBD.out]; rfl, HB4.out.trans (how2.out.below HS4.out (by simp; omega))⟩
    · have HBD : Hid (Rec.body x = [] ++ le 4 x.sum) := Lib.hid (by unfold Rec.body; rw [if_neg (by omega), if_pos k1]; rfl)
      have P2 := Lib.hid (wpd_any x [] W 4 x.sum (.inr (.inr (.inl rfl))) (by simp) (by omega) (by omega) _ HW6.out)
      clear KS K j1 j2 j3
      go_wp2_with (go_at_call 75; refine P2.out.mono ?_; rintro e w7 ⟨rfl, hr7, ho7⟩; have y0 := hr7.cellAt 0 rfl)
      go_ret2
      exact ⟨by rw [HT.out, Rec.rb_pd, HBD.out]; rfl, HB4.out.trans ((HO6.out.trans ho7).below HS4.out (by simp; omega))⟩
  · rw [if_neg k]
    rw [Bool.not_eq_true] at k
    rw [k] at Q
    have HQ := Lib.hid Q
    have q0 := R0.cellAt 0 rfl
    have q1 := R0.cellAt 1 rfl
    have q2 := R0.cellAt 2 rfl
    have q3 := R0.cellAt 3 rfl
    have q4 := R0.cellAt 4 rfl
    have q5 := R0.cellAt 5 rfl
    clear Q k R0 hh hm H0 hmay
    go_enter Tryz.func23, Tryz.ntmps23
    go_wp2_with (go_at_call 73; refine HQ.out.mono ?_; rintro e w1 ⟨rfl, hb1⟩)
    go_ret2
    exact ⟨rfl, BA.out.trans (hb1.mono (by simp))⟩
end Go.Proofs.YtnpdhidliaahbaaGreat

namespace Go.Proofs.YtnpdhidliaahbaaGreat
set_option linter.unusedVariables false
open Go Go.ChangeShapes Go.WideShapes Go.ChangeAt Go.RowKit
def rec0 : Rec.V := ⟨0, 0, 0, [], [], 0⟩
instance : Inhabited Rec.V := ⟨rec0⟩
/-- The value v is the record x, however long its lists are. -/
structure RecL (w : World) (v : Value) (x : Rec.V) : Prop where
  is : ∃ h m, v = .agg #[.int .i64 x.kind, .int .u64 x.seq, .int .i64 x.at_, h, m, .int .u32 x.sum] ∧ IntsW w h x.homes ∧ FlagsW w m x.masked
  seq : x.seq < 2 ^ 64
  sum : x.sum < 2 ^ 32
  kind : -9223372036854775808 ≤ x.kind ∧ x.kind ≤ 9223372036854775807
  at_ : -9223372036854775808 ≤ x.at_ ∧ x.at_ ≤ 9223372036854775807
  len : x.homes.length ≤ 9223372036854775807 ∧ x.masked.length ≤ 9223372036854775807
/-- The value v leads to the records l. -/
structure RecsIn (w : World) (v : Value) (l : List Rec.V) : Prop where
  form : ∃ ad cap, v = .slice ad l.length cap ∧ ∀ i, i < l.length → ∃ g off vh vm, ad = some ⟨g, off, none⟩ ∧ w.cell? ⟨g, off + i * 6, none⟩ = some (.int .i64 (l.getD i rec0).kind) ∧ w.cell? ⟨g, off + i * 6 + 1, none⟩ = some (.int .u64 (l.getD i rec0).seq) ∧ w.cell? ⟨g, off + i * 6 + 2, none⟩ = some (.int .i64 (l.getD i rec0).at_) ∧ w.cell? ⟨g, off + i * 6 + 3, none⟩ = some vh ∧ w.cell? ⟨g, off + i * 6 + 4, none⟩ = some vm ∧ w.cell? ⟨g, off + i * 6 + 5, none⟩ = some (.int .u32 (l.getD i rec0).sum) ∧ RecL w (.agg #[.int .i64 (l.getD i rec0).kind, .int .u64 (l.getD i rec0).seq, .int .i64 (l.getD i rec0).at_, vh, vm, .int .u32 (l.getD i rec0).sum]) (l.getD i rec0)
  len : l.length ≤ 9223372036854775807
theorem RecsIn.at {w : World} {ad : Option Addr} {n cap : Nat} {l : List Rec.V} (h : RecsIn w (.slice ad n cap) l) (i : Nat) (hi : i < l.length) : ∃ g off vh vm, ad = some ⟨g, off, none⟩ ∧ w.cell? ⟨g, off + i * 6, none⟩ = some (.int .i64 (l.getD i rec0).kind) ∧ w.cell? ⟨g, off + i * 6 + 1, none⟩ = some (.int .u64 (l.getD i rec0).seq) ∧ w.cell? ⟨g, off + i * 6 + 2, none⟩ = some (.int .i64 (l.getD i rec0).at_) ∧ w.cell? ⟨g, off + i * 6 + 3, none⟩ = some vh ∧ w.cell? ⟨g, off + i * 6 + 4, none⟩ = some vm ∧ w.cell? ⟨g, off + i * 6 + 5, none⟩ = some (.int .u32 (l.getD i rec0).sum) ∧ RecL w (.agg #[.int .i64 (l.getD i rec0).kind, .int .u64 (l.getD i rec0).seq, .int .i64 (l.getD i rec0).at_, vh, vm, .int .u32 (l.getD i rec0).sum]) (l.getD i rec0) := by
  obtain ⟨ad', cap', e, h2⟩ := h.form
  cases e
  exact h2 i hi
variable {H : Type} {enc : TypeId × Value → H} {w : World} {base : Nat} {spare : Nat → Bool} {held : Bool}
theorem wf_n64 {n : Int} (h : (Lit.int .u64 n).wf = true) : ∃ b : Nat, n = (b : Int) ∧ b < 2 ^ 64 := by
  simp [Lit.wf, IntKind.min, IntKind.max, IntKind.signed, IntKind.bits] at h
  exact ⟨n.toNat, by omega, by omega⟩
theorem wf_n32 {n : Int} (h : (Lit.int .u32 n).wf = true) : ∃ b : Nat, n = (b : Int) ∧ b < 2 ^ 32 := by
  simp [Lit.wf, IntKind.min, IntKind.max, IntKind.signed, IntKind.bits] at h
  exact ⟨n.toNat, by omega, by omega⟩
/-- A slice of numbers inside something. -/
theorem read_iw {fuel : Nat} {v : Value} {x : DataW H × List MemPlace} (h : DataW.trod enc Tryz.prog w base spare held fuel 23 [v] = some x) : ∃ l : List Int, IntsW w v l ∧ l.length ≤ 9223372036854775807 := by
  obtain ⟨ad, len, cap, E, rfl, h1, h2, h3⟩ := read_slice (c := 1) Tryz.underlying23 (by kernel_rfl) (by decide) h
  obtain ⟨R, hR⟩ := Deep.choose_lt (α := Int) (p := fun i b => E i = [.int .i64 b]) (fun i hi => by
    obtain ⟨hE, _, n, y, h4⟩ := h3 i hi
    match hEi : E i, hE with
    | [u], _ =>
      rw [hEi] at h4
      obtain ⟨z, rfl, w0⟩ := trod_int1 Tryz.underlying3 h4
      exact ⟨z, rfl⟩)
  have hlen : ((List.range len).map R).length = len := by simp
  refine ⟨(List.range len).map R, ⟨ad, cap, by rw [hlen], fun i hi => ?_⟩, by rw [hlen]; unfold maxLen at h2; omega⟩
  rw [hlen] at hi
  have hg : ((List.range len).map R).getD i 0 = R i := by simp [List.getD, hi]
  rw [hg]
  obtain ⟨_, h4, _⟩ := h3 i hi
  obtain ⟨g, o, e1, h6⟩ := h4 0 _ (by rw [hR _ hi]; rfl)
  exact ⟨g, o, e1, by simpa using h6⟩
theorem read_record {fuel : Nat} {cs : List Value} {x : DataW H × List MemPlace} (hl : cs.length = 6) (h : DataW.trod enc Tryz.prog w base spare held fuel 61 cs = some x) : ∃ q : Rec.V × Value × Value, cs = [.int .i64 q.1.kind, .int .u64 q.1.seq, .int .i64 q.1.at_, q.2.1, q.2.2, .int .u32 q.1.sum] ∧ RecL w (.agg #[.int .i64 q.1.kind, .int .u64 q.1.seq, .int .i64 q.1.at_, q.2.1, q.2.2, .int .u32 q.1.sum]) q.1 := by
  match cs, hl with
  | [c0, c1, c2, c3, c4, c5], _ =>
    obtain ⟨n0, y0, h0⟩ := read_field Tryz.underlying61 h 0 _ rfl 0 1 rfl (by kernel_rfl)
    obtain ⟨n1, y1, h1⟩ := read_field Tryz.underlying61 h 1 _ rfl 1 1 rfl (by kernel_rfl)
    obtain ⟨n2, y2, h2⟩ := read_field Tryz.underlying61 h 2 _ rfl 2 1 rfl (by kernel_rfl)
    obtain ⟨n3, y3, h3⟩ := read_field Tryz.underlying61 h 3 _ rfl 3 1 rfl (by kernel_rfl)
    obtain ⟨n4, y4, h4⟩ := read_field Tryz.underlying61 h 4 _ rfl 4 1 rfl (by kernel_rfl)
    obtain ⟨n5, y5, h5⟩ := read_field Tryz.underlying61 h 5 _ rfl 5 1 rfl (by kernel_rfl)
    obtain ⟨z0, rfl, w0⟩ := trod_int1 Tryz.underlying3 h0
    obtain ⟨z1, rfl, w1⟩ := trod_int1 Tryz.underlying35 h1
    obtain ⟨z2, rfl, w2⟩ := trod_int1 Tryz.underlying3 h2
    obtain ⟨z5, rfl, w5⟩ := trod_int1 Tryz.underlying59 h5
    obtain ⟨k1, rfl, b1⟩ := wf_n64 w1
    obtain ⟨k5, rfl, b5⟩ := wf_n32 w5
    obtain ⟨lh, a1, l1⟩ := read_iw h3
    obtain ⟨lm, am, cm, rfl, a2, l2⟩ := read_bl h4
    exact ⟨(⟨z0, k1, z2, lh, lm, k5⟩, c3, .slice am lm.length cm), rfl, ⟨⟨c3, _, rfl, a1, ⟨am, cm, rfl, a2⟩⟩, b1, b5, wf_lo64 w0, wf_lo64 w2, l1, l2⟩⟩
set_option maxRecDepth 100000 in
theorem read_records {fuel : Nat} {v : Value} {x : DataW H × List MemPlace} {r : Reach} {b0 : Nat} (_hv : Value.okWide Tryz.prog w r b0 55 v) (h : DataW.trod enc Tryz.prog w base spare held fuel 55 [v] = some x) :
    ∃ ad cap l, v = .slice ad (List.length l) cap ∧ RecsIn w (.slice ad (List.length l) cap) l := by
  obtain ⟨ad, len, cap, E, rfl, h1, h2, h3⟩ := read_slice (c := 6) Tryz.underlying55 (by kernel_rfl) (by decide) h
  obtain ⟨R, hR⟩ := Deep.choose_lt (α := Rec.V × Value × Value) (p := fun i q => E i = [.int .i64 q.1.kind, .int .u64 q.1.seq, .int .i64 q.1.at_, q.2.1, q.2.2, .int .u32 q.1.sum] ∧ RecL w (.agg #[.int .i64 q.1.kind, .int .u64 q.1.seq, .int .i64 q.1.at_, q.2.1, q.2.2, .int .u32 q.1.sum]) q.1) (fun i hi => by
    obtain ⟨h4, _, n, y, h5⟩ := h3 i hi
    exact read_record h4 h5)
  have hlen : ((List.range len).map fun i => (R i).1).length = len := by simp
  refine ⟨ad, cap, (List.range len).map fun i => (R i).1, by rw [hlen], ⟨ad, cap, rfl, fun i hi => ?_⟩, by rw [hlen]; unfold maxLen at h2; omega⟩
  rw [hlen] at hi
  have hg : ((List.range len).map fun i => (R i).1).getD i rec0 = (R i).1 := by simp [List.getD, hi]
  rw [hg]
  obtain ⟨_, h4, _⟩ := h3 i hi
  obtain ⟨e, hs⟩ := hR i hi
  rw [e] at h4
  obtain ⟨g, o, rfl, c0⟩ := h4 0 _ rfl
  obtain ⟨g1, o1, e1, c1⟩ := h4 1 _ rfl
  obtain ⟨g2, o2, e2, c2⟩ := h4 2 _ rfl
  obtain ⟨g3, o3, e3, c3⟩ := h4 3 _ rfl
  obtain ⟨g4, o4, e4, c4⟩ := h4 4 _ rfl
  obtain ⟨g5, o5, e5, c5⟩ := h4 5 _ rfl
  cases e1; cases e2; cases e3; cases e4; cases e5
  simp only [← Nat.add_assoc, Nat.add_zero] at c0 c1 c2 c3 c4 c5
  exact ⟨g, o, _, _, rfl, c0, c1, c2, c3, c4, c5, hs⟩
end Go.Proofs.YtnpdhidliaahbaaGreat

namespace Go.Proofs.YtnpdhidliaahbaaGreat.Msk
set_option linter.unusedVariables false
open Go Go.RowKit
open Go.Proofs.YtnpdhidliaahbaaGreat (Dev blk)
def no : ByteArray := ⟨#[]⟩
/-- The changes: block k of the homes gets the k-th text. -/
def chs (g : Geo.G) (ss : List ByteArray) : List Jr.Chg := (List.range ss.length).map fun k => (((Sys.hb g k : Nat) : Int), ss.getD k no)
def T (g : Geo.G) (ss : List ByteArray) : Jr.Txn := ⟨chs g ss, []⟩
theorem chs_length (g : Geo.G) (ss : List ByteArray) : (chs g ss).length = ss.length := by unfold chs; simp
theorem chs_nil (g : Geo.G) : chs g [] = [] := rfl
theorem chs_snoc (g : Geo.G) (ss : List ByteArray) (s : ByteArray) : chs g (ss ++ [s]) = chs g ss ++ [(((Sys.hb g ss.length : Nat) : Int), s)] := by
  unfold chs
  rw [List.length_append, List.length_singleton, List.range_succ, List.map_append]
  congr 1
  · refine List.map_congr_left fun k hk => ?_
    have hk := List.mem_range.1 hk
    rw [show (ss ++ [s]).getD k no = ss.getD k no by simp [List.getD, List.getElem?_append, hk]]
  · simp [List.getD]
theorem chs_get (g : Geo.G) (ss : List ByteArray) (k : Nat) (hk : k < ss.length) : (chs g ss)[k]? = some (((Sys.hb g k : Nat) : Int), ss.getD k no) := by
  unfold chs
  rw [List.getElem?_map, List.getElem?_range hk]
  rfl
theorem chs_mem {g : Geo.G} {ss : List ByteArray} {c : Jr.Chg} : c ∈ chs g ss ↔ ∃ k, k < ss.length ∧ c = (((Sys.hb g k : Nat) : Int), ss.getD k no) := by
  unfold chs
  rw [List.mem_map]
  constructor
  · rintro ⟨k, hk, rfl⟩; exact ⟨k, List.mem_range.1 hk, rfl⟩
  · rintro ⟨k, hk, rfl⟩; exact ⟨k, List.mem_range.2 hk, rfl⟩
theorem getD_mem {ss : List ByteArray} {k : Nat} (hk : k < ss.length) : ss.getD k no ∈ ss := by
  simp [List.getD, hk]
theorem chs_sorted (g : Geo.G) (ss : List ByteArray) : ((chs g ss).map (·.1)).Pairwise (· < ·) := by
  unfold chs
  rw [List.map_map, List.pairwise_map]
  refine List.Pairwise.imp (R := (· < ·)) ?_ List.pairwise_lt_range
  intro a b hab
  show ((Sys.hb g a : Nat) : Int) < ((Sys.hb g b : Nat) : Int)
  unfold Sys.hb
  omega
theorem t_ok {g : Geo.G} (hg : Geo.May g) {ss : List ByteArray} (hl : ss.length ≤ 12) (hs : ∀ s ∈ ss, s.size = 128) : Jr.Ok (Geo.home g) (T g ss) := by
  refine ⟨⟨fun b hb => ?_, chs_sorted g ss⟩, ⟨(fun b hb => by cases hb), List.Pairwise.nil⟩, fun c hc => ?_, (fun b hb => by cases hb)⟩
  · obtain ⟨c, hc, rfl⟩ := List.mem_map.1 hb
    obtain ⟨k, h1, rfl⟩ := chs_mem.1 hc
    exact (Sys.hb_facts hg (k := k) (by omega)).2.2.2
  · obtain ⟨k, h1, rfl⟩ := chs_mem.1 hc
    exact hs _ (getD_mem h1)
theorem size_T (g : Geo.G) {ss : List ByteArray} (hl : ss.length ≤ 12) : Jr.size (T g ss) ≤ 14 := by
  have h := chs_length g ss
  unfold Jr.size Jr.cdiv T
  dsimp only
  rw [h]
  rw [List.length_nil]
  omega
theorem look1_T (g : Geo.G) {ss : List ByteArray} {k : Nat} (hk : k < ss.length) (o : Option ByteArray) : Jr.look1 (T g ss) (Sys.hb g k : Nat) o = some (ss.getD k no) := by
  unfold Jr.look1 T
  dsimp only
  rw [if_neg (by simp)]
  have hm : (((Sys.hb g k : Nat) : Int), ss.getD k no) ∈ chs g ss := chs_mem.2 ⟨k, hk, rfl⟩
  cases e : (chs g ss).reverse.find? (fun c => c.1 == ((Sys.hb g k : Nat) : Int)) with
  | none =>
    have := List.find?_eq_none.1 e _ (List.mem_reverse.2 hm)
    exact absurd (beq_self_eq_true _) this
  | some c =>
    have h2 := List.mem_of_find?_eq_some e
    have h3 := List.find?_some e
    obtain ⟨i, hi, rfl⟩ := chs_mem.1 (List.mem_reverse.1 h2)
    have h4 : i = k := Sys.hb_inj (g := g) (by have := eq_of_beq h3; dsimp only at this; omega)
    subst h4
    rfl
theorem val_T (g : Geo.G) {ss : List ByteArray} {k : Nat} (hk : k < ss.length) (m : List ByteArray) (l : List Jr.Txn) : Jr.val m (l ++ [T g ss]) (Sys.hb g k) = ss.getD k no := by
  unfold Jr.val
  rw [Jr.look_snoc, look1_T g hk]
  rfl
/-- A log that goes on; whatever stands beside it. -/
structure Ok (g : Geo.G) (D : Dev) (V : LogV) (at_ q : Nat) (l : List Jr.Txn) (K : Nat) : Prop where
  may : Geo.May g
  dok : D.Ok K
  blocks : (D.kept.length : Int) = g.blocks
  all : Jr.All D (fun m => True ∧ Jr.Stand g m at_ q l)
  V : V = ⟨(at_ + Jr.sizes l) % Jr.plc g, Jr.sizes l, q + l.length, 0⟩
  num : q + l.length ≤ K + 1
variable {g : Geo.G} {D : Dev} {V : LogV} {at_ q K : Nat} {l : List Jr.Txn}
theorem Ok.of_sys {home want : List UInt8} (h : Sys.Ok g D V home want at_ q l K) : Ok g D V at_ q l K :=
  ⟨h.may, h.dok, h.blocks, h.all.imp fun m hm => ⟨trivial, hm.2⟩, h.V, h.num⟩
theorem Ok.commit (h : Ok g D V at_ q l K) (ha : D.armed = false) {ss : List ByteArray} (hl : ss.length ≤ 12) (hs : ∀ s ∈ ss, s.size = 128) (hK : K + 2 < 2 ^ 62) (hroom : V.used + Jr.size (T g ss) ≤ Jr.plc g) :
    (Jr.doA (Jr.commitA g (T g ss) V.seq V.place []) D).2 = 0 ∧ Ok g (Jr.doA (Jr.commitA g (T g ss) V.seq V.place []) D).1 ⟨(V.place + Jr.size (T g ss)) % Jr.plc g, V.used + Jr.size (T g ss), (V.seq + 1) % 18446744073709551616, 0⟩ at_ q (l ++ [T g ss]) (K + 100) ∧ (Jr.doA (Jr.commitA g (T g ss) V.seq V.place []) D).1.armed = false := by
  have hV := h.V
  have hsz := size_T g hl
  have hnum := h.num
  have hpl := Jr.plc_of h.may
  subst hV
  dsimp only at hroom ⊢
  obtain ⟨s1, s2, s3⟩ := Jr.commit_safe (P := fun _ => True) (place := (at_ + Jr.sizes l) % Jr.plc g) (data := []) h.may h.dok.len h.blocks h.all (fun _ _ _ _ _ _ => trivial) (t_ok h.may hl hs) (by omega) (by omega) (by rw [Nat.mod_mod]) (fun c hc => by cases hc)
  have hun := Sys.unarmed (Jr.commitA g (T g ss) (q + l.length) ((at_ + Jr.sizes l) % Jr.plc g) []) ha
  have hlen : (Jr.commitA g (T g ss) (q + l.length) ((at_ + Jr.sizes l) % Jr.plc g) []).length ≤ 100 := by
    have h1 := Jr.body_length (T g ss) (q + l.length)
    have h3 := ringW_length g (Jr.body (T g ss) (q + l.length)) ((at_ + Jr.sizes l) % Jr.plc g)
    unfold Jr.commitA
    simp only [List.length_append, List.length_map, List.length_cons, List.length_nil]
    omega
  have hd := (Jr.ok_doA (Jr.commitA g (T g ss) (q + l.length) ((at_ + Jr.sizes l) % Jr.plc g) []) h.dok).mono (show K + _ ≤ K + 100 by omega)
  have hbl := (Jr.len_doA (Jr.commitA g (T g ss) (q + l.length) ((at_ + Jr.sizes l) % Jr.plc g) []) h.dok.len).1
  have s1 := s1.resolve_right hun.1
  obtain ⟨s4, s5⟩ := s3 s1
  refine ⟨s1, ⟨h.may, hd, by rw [hbl]; exact h.blocks, s4, ?_, by rw [List.length_append]; simp; omega⟩, hun.2⟩
  rw [Jr.sizes_snoc, List.length_append, Nat.mod_eq_of_lt (show q + l.length + 1 < 18446744073709551616 by omega), ← Nat.add_assoc at_, Nat.mod_add_mod]
  rfl
theorem Ok.fresh (h : Ok g D V at_ q l K) : Ok g (Dev.fresh D.kept) V at_ q l K :=
  ⟨h.may, (Dev.Ok.fresh _ h.dok.kept).mono (Nat.zero_le _), h.blocks, Jr.All.same rfl h.all.atKept, h.V, h.num⟩
theorem Ok.read (h : Ok g D V at_ q l K) : Jr.readL g D.now = some ⟨at_, q, l, Jr.sizes l⟩ := (h.all.atNow h.dok.len).2.read h.may
theorem Ok.room (h : Ok g D V at_ q l K) : V.used = Jr.sizes l ∧ V.place < Jr.plc g ∧ V.seq = q + l.length ∧ V.bad = 0 := by
  have hpl := Jr.plc_of h.may
  rw [h.V]
  exact ⟨rfl, Nat.mod_lt _ (by omega), rfl, rfl⟩
/-- What a replay does. -/
theorem Ok.replay (h : Ok g D V at_ q l K) (hk : D.kept = D.now) (ha : D.armed = false) :
    (Jr.doA (Jr.replayA g l ((at_ + Jr.sizes l) % Jr.plc g) (q + l.length)) D).2 = 0 ∧ (Jr.doA (Jr.replayA g l ((at_ + Jr.sizes l) % Jr.plc g) (q + l.length)) D).1.Ok (K + 5000) ∧ ((Jr.doA (Jr.replayA g l ((at_ + Jr.sizes l) % Jr.plc g) (q + l.length)) D).1.kept.length : Int) = g.blocks ∧ ∀ b : Nat, Geo.home g b = true → Jr.blk (Jr.doA (Jr.replayA g l ((at_ + Jr.sizes l) % Jr.plc g) (q + l.length)) D).1.now b = Jr.val D.now l b := by
  obtain ⟨s1, s2, s3⟩ := Jr.replay_safe h.may hk h.blocks (h.all.atNow h.dok.len).2
  have hun := Sys.unarmed (Jr.replayA g l ((at_ + Jr.sizes l) % Jr.plc g) (q + l.length)) ha
  have s1 := s1.resolve_right hun.1
  have h0 := h.may.ok.1
  unfold Geo.asked at h0
  have hlen : (Jr.replayA g l ((at_ + Jr.sizes l) % Jr.plc g) (q + l.length)).length ≤ 5000 := by
    unfold Jr.replayA Jr.headA Jr.comes
    rw [List.length_append, List.length_map]
    have := List.length_filterMap_le (fun (b : Nat) => (Jr.look l b).map fun s => ((b : Int), s)) (List.range g.blocks.toNat)
    rw [List.length_range] at this
    simp only [List.length_cons, List.length_nil]
    omega
  have hD := (Jr.ok_doA (Jr.replayA g l ((at_ + Jr.sizes l) % Jr.plc g) (q + l.length)) h.dok).mono (show K + _ ≤ K + 5000 by omega)
  have hbl := (Jr.len_doA (Jr.replayA g l ((at_ + Jr.sizes l) % Jr.plc g) (q + l.length)) h.dok.len).1
  exact ⟨s1, hD, by rw [hbl]; exact h.blocks, (s3 s1).2.2⟩
end Go.Proofs.YtnpdhidliaahbaaGreat.Msk

namespace Go.Proofs.YtnpdhidliaahbaaGreat
set_option linter.unusedVariables false
open Go Go.RowKit
section
variable {Bd db lb : Nat} {y : Lay} {g : Geo.G} {D : Dev} {V : LogV} {at_ q K : Nat} {l : List Jr.Txn} {w : World} {ss : List ByteArray}
theorem commit_msk {B : Nat} {vc : Value} (hD : DevAt Bd w db y D) (hL : LogAt lb db g V w) (hlb : lb ∉ devB db y) (ho : Msk.Ok g D V at_ q l K) (ha : D.armed = false) (hK : K ≤ 100000000000) (hl : ss.length ≤ 12) (hs : ∀ s ∈ ss, s.size = 128) (hC : OwnC B w vc (Msk.chs g ss)) (hroom : V.used + Jr.size (Msk.T g ss) ≤ Jr.plc g) :
    Calls Tryz.prog 19 #[.pointer (some ⟨lb, 0, none⟩), .agg #[vc, .slice none 0 0], .slice none 0 0] w fun e w' => e = .returned (.int .i64 0) ∧ ∃ D' V', D'.armed = false ∧ V'.used = V.used + Jr.size (Msk.T g ss) ∧ Msk.Ok g D' V' at_ q (l ++ [Msk.T g ss]) (K + 100) ∧ DevAt Bd w' db y D' ∧ LogAt lb db g V' w' ∧ Only (lb :: devB db y) w w' := by
  have hac := ho.dok.acts
  have hg := ho.may
  have hpl := Jr.plc_of hg
  have hnum := ho.num
  obtain ⟨r1, r2, r3, r4⟩ := ho.room
  have hcl := Msk.chs_length g ss
  have hok := Msk.t_ok hg hl hs
  have h0 := hg.ok.1
  unfold Geo.asked at h0
  have hx : ∀ c ∈ (Msk.T g ss).ch, In64 c.1 ∧ c.2.size ≤ 9223372036854775807 := fun c hc => by
    obtain ⟨k, hk, rfl⟩ := Msk.chs_mem.1 hc
    have hf := (Sys.hb_facts hg (k := k) (by omega)).2.1
    have h128 := hs _ (Msk.getD_mem hk)
    exact ⟨⟨by show -9223372036854775808 ≤ ((Sys.hb g k : Nat) : Int); omega, by show ((Sys.hb g k : Nat) : Int) ≤ _; omega⟩, by show (ss.getD k Msk.no).size ≤ _; omega⟩
  have h := commit_any (V := V) w vc (.slice none 0 0) (.slice none 0 0) (Msk.T g ss) [] hD hL hlb hg r4 (by omega) (by omega) (by show D.acts + 0 + 1000 < _; omega) hC.at (.inl ⟨rfl, rfl⟩) hC.cap (fun a n c e => by cases e) (.inl ⟨rfl, rfl⟩) (by show (Msk.chs g ss).length ≤ _; omega) (by show 0 ≤ _; omega) (by show 0 ≤ _; omega) hx (fun b hb => by cases hb) (fun b hb => by cases hb) hok rfl hroom
  obtain ⟨k1, k2, k3⟩ := ho.commit ha hl hs (by omega) hroom
  rw [if_pos k1, k1] at h
  refine h.mono ?_
  rintro e w' ⟨h1, h2, h3, h4⟩
  exact ⟨h1, _, _, k3, rfl, k2, h2, h3, h4⟩
theorem openlog_msk (ho : Msk.Ok g D V at_ q l K) (hk : D.kept = D.now) (ha : D.armed = false) (hl : l ≠ []) (hD : DevAt Bd w db y D) (hK : K ≤ 100000000000) :
    Calls Tryz.prog 15 #[.pointer (some ⟨db, 0, none⟩), .agg (Geo.cells g)] w fun e w' => ∃ v D', e = .returned (.tuple #[v, .int .i64 0]) ∧ DevAt Bd w' db y D' ∧ Only (devB db y) w w' ∧ OwnT w.heap.size w' v l ∧ D'.Ok (K + 5000) ∧ (D'.kept.length : Int) = g.blocks ∧ ∀ b : Nat, Geo.home g b = true → Jr.blk D'.now b = Jr.val D.now l b := by
  have hac := ho.dok.acts
  have hr := replay_ok g w hD ho.may ho.blocks ho.dok.now ho.dok.len (by omega)
  rw [ho.read] at hr
  have hnum := ho.num
  have e0 : (⟨at_, q, l, Jr.sizes l⟩ : Jr.Log).place g = (at_ + Jr.sizes l) % Jr.plc g := rfl
  have e1 : (⟨at_, q, l, Jr.sizes l⟩ : Jr.Log).next = q + l.length := by
    unfold Jr.Log.next
    exact Nat.mod_eq_of_lt (by show q + l.length < _; omega)
  obtain ⟨r1, r2, r3, r4⟩ := ho.replay hk ha
  refine hr.mono ?_
  intro e w' hh
  rcases hh with ⟨hh, _⟩ | ⟨L, hh, h2, _⟩ | ⟨L, hh, h2, h3, _⟩ | ⟨L, v, hh, h2, h3, he, h4, h5, h6⟩
  · cases hh
  · cases hh
    exact absurd h2 hl
  · cases hh
    dsimp only at h3
    rw [e0, e1] at h3
    exact absurd r1 h3
  · cases hh
    dsimp only at h2 h3 h4 h5
    rw [e0, e1] at h3 h5
    exact ⟨v, _, he, h5, h6, h4, r2, r3, r4⟩
theorem read_msk {b : Nat} (hD : DevAt Bd w db y D) (hb : (b : Int) < D.kept.length) : Calls Tryz.prog 27 #[.pointer (some ⟨db, 0, none⟩), .int .i64 (b : Int)] w fun e w' => e = .returned (.tuple #[.string (Jr.blk D.now b), .int .i64 0]) ∧ w' = w := by
  have h := read_any hD b
  obtain ⟨e1, e2⟩ := readS_blk (D := D) (i := b) (by omega)
  rw [e1, e2] at h
  exact h.mono fun e w' hh => ⟨hh.1, hh.2.symm⟩
end
theorem ownT_lit (w : World) {B : Nat} {c : Value} {t : Jr.Txn} (hB : B ≤ w.heap.size) (hc : OwnC B w c t.ch) (ht : t.rv = []) : OwnT B (w.alloc (.cells #[c, .slice none 0 0] 25)) (.slice (some ⟨w.heap.size, 0, none⟩) 1 1) [t] :=
  ⟨[(c, .slice none 0 0)], ⟨rfl, .inr ⟨w.heap.size, 1, _, rfl, hB, heap_alloc_new w _, Nat.le_refl _, by unfold maxLen; decide, rfl, rfl⟩⟩, ⟨⟨own_new1 hc _, by rw [ht]; exact World.ownsRow_nil _ _ _ _⟩, trivial⟩⟩
theorem ownR_lit (w : World) (c u : Value) : (w.alloc (.cells #[c, u] 25)).ownsRow w.heap.size 25 2 (.slice (some ⟨w.heap.size, 0, none⟩) 1 1) 1 [c, u] :=
  ⟨rfl, .inr ⟨w.heap.size, 1, _, rfl, Nat.le_refl _, heap_alloc_new w _, Nat.le_refl _, by unfold maxLen; decide, rfl, rfl⟩⟩
/-- A change is put behind a transaction's others. -/
theorem msk_push {B bt n n5 : Nat} {w2 w5 : World} {v v5 u : Value} {ys ys5 : List Value} {o : Obj} (rt : Row w2 bt 25 [v, u]) (ho : (w2.alloc o).ownsRow B 68 2 v n ys) (hgrow : (w2.alloc o).grownBy w5 v.ownBlock) (hown : w5.ownsRow B 68 2 v5 n5 ys5) (hbt : B ≤ bt) (hB : B ≤ w2.heap.size) :
    Row w5 bt 25 [v, u] ∧ Row (w5.setCell ⟨bt, 0, none⟩ v5) bt 25 [v5, u] ∧ (w5.setCell ⟨bt, 0, none⟩ v5).ownsRow B 68 2 v5 n5 ys5 ∧ Below B w2 w5 ∧ Below B w2 (w5.setCell ⟨bt, 0, none⟩ v5) := by
  have r5 := row_grownR (rt.alloc o) ho hgrow (by decide)
  have B5 : Below B w2 w5 := ((Below.refl B w2).alloc hB o).grown hgrow (by simp; omega) (fun j hj => by have := (World.ownsRow.lt ho j hj).1; omega)
  exact ⟨r5, r5.set 0 v5, own_setR (a := ⟨bt, 0, none⟩) r5 hown (by decide), B5, B5.setCell (p := ⟨bt, 0, none⟩) hbt v5⟩
end Go.Proofs.YtnpdhidliaahbaaGreat
