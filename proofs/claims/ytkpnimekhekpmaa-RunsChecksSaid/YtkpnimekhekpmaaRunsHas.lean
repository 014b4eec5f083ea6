/- Lists of runs: Has, Minus, Check. -/
import Derived.Test.YtkpnimekhekpmaaRunsMeet
namespace Go.Proofs.Ytkpnimekhekpmaa
set_option linter.unusedVariables false
open Go Go.RowKit

theorem gaps_len (n : Int) (l : RL) : ∀ a, (Runs.gapsN n a l).length ≤ l.length + 1 := by
  induction l with
  | nil => intro a; unfold Runs.gapsN; split <;> simp
  | cons x l ih =>
    intro a
    have := ih (Runs.fin x)
    unfold Runs.gapsN
    split
    · split <;> simp
    · rw [List.length_append, List.length_cons]
      split
      · simp only [List.length_cons, List.length_nil]; omega
      · simp only [List.length_nil]; omega
theorem gaps_row (n : Int) (l : RL) (hl : Runs.Row l) (hn : n ≤ Runs.top) : Runs.Row (Runs.gapsN n 0 l) :=
  (Runs.gapsN_spec n hn l 0 (Int.le_refl _) hl (fun x hx => by have := hl.may x hx; unfold Runs.may at this; omega)).1

set_option maxHeartbeats 1000000 in
theorem minus_any (va vb : Value) (a b : RL) (w : World) (ha : Smalls a) (hb : Smalls b) (h1 : RunsAt w va a) (h2 : RunsAt w vb b) (hla : a.length ≤ 100000000) (hlb : b.length ≤ 100000000) :
    Calls Try.prog 31 #[va, vb] w fun e w' => ∃ v', e = .returned v' ∧ OwnRuns w.heap.size w' v' (Runs.minusR a b) ∧ Below w.heap.size w w' := by
  have hN := Lib.hid (normal_any vb b w hb h2 (by omega))
  have h1' := Lib.hid h1
  clear h2 h1
  go_enter Try.func31, Try.ntmps31
  go_wp2_with fail
  refine hN.out.mono ?_
  rintro e w1 ⟨v1, rfl, o1, b1⟩
  have B1 := Lib.hid b1
  have hG := Lib.hid (gaps_any v1 (Runs.normR b) Runs.top w1 (Runs.normR_spec b).1 o1.at (by have := norm_len b; omega) (by unfold Runs.top; omega))
  clear o1 b1
  unfold Runs.top at hG
  go_wp2_with fail
  refine hG.out.mono ?_
  rintro e w2 ⟨v2, rfl, o2, b2⟩
  have B2 := Lib.hid (B1.out.trans (b2.mono B1.out.size))
  have hM := Lib.hid (meet_any va v2 a (Runs.gapsN 9223372036854775807 0 (Runs.normR b)) w2 ha (Smalls.row (gaps_row _ _ (Runs.normR_spec b).1 (by unfold Runs.top; omega))) (h1'.out.below (B := 0) B2.out) o2.at (by omega) (by have := norm_len b; have := gaps_len 9223372036854775807 (Runs.normR b) 0; omega))
  clear o2 b2
  go_wp2_with fail
  refine hM.out.mono ?_
  rintro e w3 ⟨v3, rfl, o3, b3⟩
  have O3 : Hid (OwnRuns w.heap.size w3 v3 (Runs.minusR a b)) := Lib.hid (by
    have e := Runs.minus_eq a b
    rw [Runs.meet_eq] at e
    rw [← e]
    exact World.ownsRow.mono o3 B2.out.size)
  have B3 := Lib.hid (B2.out.trans (b3.mono B2.out.size))
  clear o3 b3
  go_wp2_with fail
  go_ret
  exact ⟨_, rfl, O3.out, B3.out⟩

instance (x : Int × Int) (i : Int) : Decidable (Runs.isIn x i) := by unfold Runs.isIn; infer_instance
def inB (i : Int) (x : Int × Int) : Bool := decide (Runs.isIn x i)
def hasB (l : RL) (i : Int) : Bool := l.any (inB i)
theorem hasB_mem (l : RL) (i : Int) : hasB l i = true ↔ Runs.mem l i := by
  unfold hasB inB Runs.mem
  simp
theorem hasB_no (l : RL) (i : Int) (h : ∀ k, k < l.length → inB i (l.getD k (0, 0)) = false) : hasB l i = false := by
  unfold hasB
  rw [List.any_eq_false]
  intro x hx
  obtain ⟨k, hk, rfl⟩ := List.mem_iff_getElem.1 hx
  have := h k hk
  rw [show l.getD k (0, 0) = l[k] by simp [List.getD, hk]] at this
  simp [this]
theorem hasB_yes (l : RL) (i : Int) (k : Nat) (hk : k < l.length) (h : inB i (l.getD k (0, 0)) = true) : hasB l i = true := by
  unfold hasB
  rw [List.any_eq_true]
  refine ⟨l[k], List.getElem_mem hk, ?_⟩
  rwa [show l.getD k (0, 0) = l[k] by simp [List.getD, hk]] at h

theorem may_b (x : Int × Int) (hx : Small x) (w : World) : Calls Try.prog 40 #[.agg #[.int .i64 x.1, .int .i64 x.2]] w fun e w' => e = .returned (.bool (decide (Runs.may x))) ∧ Below w.heap.size w w' := by
  refine (may_any x hx w).mono ?_
  rintro e w' ⟨rfl, rfl⟩
  exact ⟨rfl, (Below.refl _ _).alloc (Nat.le_refl _) _⟩

set_option maxHeartbeats 1000000 in
theorem has1_any (x : Int × Int) (i : Int) (p : Nat) (w : World) (hx : Small x) (hi : -9223372036854775808 ≤ i ∧ i ≤ 9223372036854775807) (hp : w.cell? ⟨p, 0, none⟩ = some (.int .i64 i)) :
    Calls Try.prog 49 #[.agg #[.int .i64 x.1, .int .i64 x.2], .pointer (some ⟨p, 0, none⟩)] w fun e w' => e = .returned (.bool (inB i x)) ∧ Below w.heap.size w w' := by
  have hm := Lib.hid (fun w => may_b x hx w)
  have hpl : p < w.heap.size := World.block_lt_of_cell? w _ hp
  have bA : Below w.heap.size w (w.alloc (.cells #[.int .i64 x.1, .int .i64 x.2] 30)) := (Below.refl _ _).alloc (Nat.le_refl _) _
  have x0 : (w.alloc (.cells #[.int .i64 x.1, .int .i64 x.2] 30)).cell? ⟨w.heap.size, 0, none⟩ = some (.int .i64 x.1) := box_cell _ _ _ _
  have x1 : (w.alloc (.cells #[.int .i64 x.1, .int .i64 x.2] 30)).cell? ⟨w.heap.size, 1, none⟩ = some (.int .i64 x.2) := box_cell _ _ _ _
  have p0 := (bA.cell (p := ⟨p, 0, none⟩) hpl).trans hp
  have zX : w.heap.size < (w.alloc (.cells #[.int .i64 x.1, .int .i64 x.2] 30)).heap.size := by simp
  have zp : p < (w.alloc (.cells #[.int .i64 x.1, .int .i64 x.2] 30)).heap.size := Nat.lt_trans hpl zX
  clear hp hpl
  by_cases k : Runs.may x
  · have hfx := may_fin k
    have he := Lib.hid (fun w => end_b x hfx w)
    rw [decide_eq_true k] at hm
    by_cases k1 : x.1 ≤ i
    · have hD : inB i x = decide (i < Runs.fin x) := by
        unfold inB Runs.isIn
        simp [k, k1]
      rw [hD]
      clear hD
      obtain ⟨xa, xb⟩ := x
      dsimp only at *
      generalize Runs.fin (xa, xb) = f at *
      generalize hX : w.heap.size = X at *
      go_enter Try.func49, Try.ntmps49
      go_upto_region 1 with fail
      generalize w.alloc _ = wx at *
      first
      | (go_region_held3 (fun w' => w'.cell? ⟨X, 0, none⟩ = some (.int .i64 xa) ∧ w'.cell? ⟨X, 1, none⟩ = some (.int .i64 xb) ∧ w'.cell? ⟨p, 0, none⟩ = some (.int .i64 i))
          (first | exact ⟨x0, x1, p0⟩ | exact ⟨(s4.cell (p := ⟨X, 0, none⟩) zX).trans x0, (s4.cell (p := ⟨X, 1, none⟩) zX).trans x1, (s4.cell (p := ⟨p, 0, none⟩) zp).trans p0⟩ | exact ⟨(s5.cell (p := ⟨X, 0, none⟩) zX).trans x0, (s5.cell (p := ⟨X, 1, none⟩) zX).trans x1, (s5.cell (p := ⟨p, 0, none⟩) zp).trans p0⟩)
          (first | (go_at_call 40; refine (hm.out _).mono ?_; rintro e w4 ⟨rfl, b4⟩; have s4 : Below wx.heap.size wx w4 := ⟨b4.os, b4.tape, b4.output, b4.size, b4.block⟩) | (go_at_call 44; refine (he.out _).mono ?_; rintro e w5 ⟨rfl, b5⟩; have s5 : Below wx.heap.size wx w5 := s4.trans ⟨b5.os, b5.tape, b5.output, b5.size, fun k hk => b5.block k (Nat.lt_of_lt_of_le hk s4.size)⟩)))
      all_goals
        have B9 := Lib.hid (bA.trans (s5.mono (by omega)))
        clear s4 s5 b4 b5 bA
        go_wp2_with fail
        go_ret
        exact ⟨by first | rfl | (simp; omega), B9.out⟩
    · rw [show inB i x = false from decide_eq_false (fun h => k1 h.2.1)]
      clear he hfx
      obtain ⟨xa, xb⟩ := x
      have k2 : decide (xa ≤ i) = false := decide_eq_false k1
      dsimp only at *
      generalize hX : w.heap.size = X at *
      go_enter Try.func49, Try.ntmps49
      go_upto_region 1 with fail
      generalize w.alloc _ = wx at *
      refine wp_region_held_drew (S := fun w' => w'.cell? ⟨X, 0, none⟩ = some (.int .i64 xa) ∧ w'.cell? ⟨X, 1, none⟩ = some (.int .i64 xb) ∧ w'.cell? ⟨p, 0, none⟩ = some (.int .i64 i)) (by kernel_rfl) (⟨x0, x1, p0⟩) (fun hHeld => ?_)
      refine wpAnyH_take (i := 0) (v := .agg #[.int .i64 xa, .int .i64 xb]) rfl (by kernel_rfl) (by kernel_rfl) (by kernel_rfl) (fun _ _ _ h => h) (Or.inl ⟨rfl, fun w hSw => ?_⟩) (by assumption) ?_
      · (try dsimp only at hSw); go_simp
      try simp only [List.getElem_toArray, List.getElem_cons_zero, Act.put, List.setIfInBounds_toArray, List.set_cons_zero, List.set_cons_succ]
      refine wpAnyH_ready (rs := [1]) (by kernel_rfl) (by simp) ?_
      refine AllReadyH.cons rfl (fun K hK => ?_) AllReadyH.nil
      go_simp
      go_at_call 40; refine (hm.out _).mono ?_; rintro e w4 ⟨rfl, b4⟩; have s4 : Below wx.heap.size wx w4 := ⟨b4.os, b4.tape, b4.output, b4.size, b4.block⟩
      refine hK.out _ _ (⟨(s4.cell (p := ⟨X, 0, none⟩) zX).trans x0, (s4.cell (p := ⟨X, 1, none⟩) zX).trans x1, (s4.cell (p := ⟨p, 0, none⟩) zp).trans p0⟩) (fun hHeld => ?_)
      clear hK K
      try simp only [List.getElem_toArray, List.getElem_cons_succ, List.getElem_cons_zero, Act.put, List.setIfInBounds_toArray, List.set_cons_zero, List.set_cons_succ]
      refine wpAnyH_take (i := 2) (v := .bool true) rfl (by kernel_rfl) (by kernel_rfl) (by kernel_rfl) (fun _ _ _ h => h) (Or.inl ⟨rfl, fun w hSw => ?_⟩) (by assumption) ?_
      · (try dsimp only at hSw); go_simp
      try simp only [List.getElem_toArray, List.getElem_cons_succ, List.getElem_cons_zero, Act.put, List.setIfInBounds_toArray, List.set_cons_zero, List.set_cons_succ]
      refine wpAnyH_take (i := 3) (v := .int .i64 i) rfl (by kernel_rfl) (by kernel_rfl) (by kernel_rfl) (fun _ _ _ h => h) (Or.inl ⟨rfl, fun w hSw => ?_⟩) (by assumption) ?_
      · (try dsimp only at hSw); go_simp
      try simp only [List.getElem_toArray, List.getElem_cons_succ, List.getElem_cons_zero, Act.put, List.setIfInBounds_toArray, List.set_cons_zero, List.set_cons_succ]
      refine wpAnyH_take (i := 4) (v := .pointer (some ⟨X, 0, none⟩)) rfl (by kernel_rfl) (by kernel_rfl) (by kernel_rfl) (fun _ _ _ h => h) (Or.inl ⟨rfl, fun w hSw => ?_⟩) (by assumption) ?_
      · (try dsimp only at hSw); go_simp
      try simp only [List.getElem_toArray, List.getElem_cons_succ, List.getElem_cons_zero, Act.put, List.setIfInBounds_toArray, List.set_cons_zero, List.set_cons_succ]
      refine wpAnyH_take (i := 5) (v := .int .i64 xa) rfl (by kernel_rfl) (by kernel_rfl) (by kernel_rfl) (fun _ _ _ h => h) (Or.inl ⟨rfl, fun w hSw => ?_⟩) (by assumption) ?_
      · (try dsimp only at hSw); go_simp
      try simp only [List.getElem_toArray, List.getElem_cons_succ, List.getElem_cons_zero, Act.put, List.setIfInBounds_toArray, List.set_cons_zero, List.set_cons_succ]
      refine wpAnyH_take (i := 6) (v := .bool false) rfl (by kernel_rfl) (by kernel_rfl) (by kernel_rfl) (fun _ _ _ h => h) (Or.inl ⟨rfl, fun w hSw => ?_⟩) (by assumption) ?_
      · (try dsimp only at hSw); go_simp
      try simp only [List.getElem_toArray, List.getElem_cons_succ, List.getElem_cons_zero, Act.put, List.setIfInBounds_toArray, List.set_cons_zero, List.set_cons_succ]
      refine wpAnyH_take (i := 7) (v := .bool false) rfl (by kernel_rfl) (by kernel_rfl) (by kernel_rfl) (fun _ _ _ h => h) (Or.inl ⟨rfl, fun w hSw => ?_⟩) (by assumption) ?_
      · (try dsimp only at hSw); go_simp
      try simp only [List.getElem_toArray, List.getElem_cons_succ, List.getElem_cons_zero, Act.put, List.setIfInBounds_toArray, List.set_cons_zero, List.set_cons_succ]
      refine wpAnyH_take (i := 8) (v := .bool false) rfl (by kernel_rfl) (by kernel_rfl) (by kernel_rfl) (fun _ _ _ h => h) (Or.inl ⟨rfl, fun w hSw => ?_⟩) (by assumption) ?_
      · (try dsimp only at hSw); go_simp
      try simp only [List.getElem_toArray, List.getElem_cons_succ, List.getElem_cons_zero, Act.put, List.setIfInBounds_toArray, List.set_cons_zero, List.set_cons_succ]
      refine wpAnyH_take (i := 9) (v := undef) rfl (by kernel_rfl) (by kernel_rfl) (by kernel_rfl) (fun _ _ _ h => h) (Or.inr ⟨rfl, rfl⟩) (by assumption) ?_
      try simp only [List.getElem_toArray, List.getElem_cons_succ, List.getElem_cons_zero, Act.put, List.setIfInBounds_toArray, List.set_cons_zero, List.set_cons_succ]
      refine wpAnyH_take (i := 10) (v := undef) rfl (by kernel_rfl) (by kernel_rfl) (by kernel_rfl) (fun _ _ _ h => h) (Or.inr ⟨rfl, rfl⟩) (by assumption) ?_
      try simp only [List.getElem_toArray, List.getElem_cons_succ, List.getElem_cons_zero, Act.put, List.setIfInBounds_toArray, List.set_cons_zero, List.set_cons_succ]
      refine wpAnyH_take (i := 11) (v := undef) rfl (by kernel_rfl) (by kernel_rfl) (by kernel_rfl) (fun _ _ _ h => h) (Or.inr ⟨rfl, rfl⟩) (by assumption) ?_
      try simp only [List.getElem_toArray, List.getElem_cons_succ, List.getElem_cons_zero, Act.put, List.setIfInBounds_toArray, List.set_cons_zero, List.set_cons_succ]
      refine wpAnyH_take (i := 12) (v := undef) rfl (by kernel_rfl) (by kernel_rfl) (by kernel_rfl) (fun _ _ _ h => h) (Or.inr ⟨rfl, rfl⟩) (by assumption) ?_
      try simp only [List.getElem_toArray, List.getElem_cons_succ, List.getElem_cons_zero, Act.put, List.setIfInBounds_toArray, List.set_cons_zero, List.set_cons_succ]
      refine wpAnyH_take (i := 13) (v := .bool false) rfl (by kernel_rfl) (by kernel_rfl) (by kernel_rfl) (fun _ _ _ h => h) (Or.inl ⟨rfl, fun w hSw => ?_⟩) (by assumption) ?_
      · (try dsimp only at hSw); go_simp
      try simp only [List.getElem_toArray, List.getElem_cons_succ, List.getElem_cons_zero, Act.put, List.setIfInBounds_toArray, List.set_cons_zero, List.set_cons_succ]
      refine wpAnyH_take (i := 14) (v := .bool false) rfl (by kernel_rfl) (by kernel_rfl) (by kernel_rfl) (fun _ _ _ h => h) (Or.inl ⟨rfl, fun w hSw => ?_⟩) (by assumption) ?_
      · (try dsimp only at hSw); go_simp
      try simp only [List.getElem_toArray, List.getElem_cons_succ, List.getElem_cons_zero, Act.put, List.setIfInBounds_toArray, List.set_cons_zero, List.set_cons_succ]
      refine wpAnyH_done (by kernel_rfl) ?_ _
      all_goals
        have B9 := Lib.hid (bA.trans (s4.mono (by omega)))
        clear s4 b4 bA
        go_wp2_with fail
        go_ret
        exact ⟨by first | rfl | (simp; omega), B9.out⟩
  · rw [show inB i x = false from decide_eq_false (fun h => k h.1)]
    rw [decide_eq_false k] at hm
    obtain ⟨xa, xb⟩ := x
    dsimp only at *
    generalize hX : w.heap.size = X at *
    go_enter Try.func49, Try.ntmps49
    go_upto_region 1 with fail
    generalize w.alloc _ = wx at *
    refine wp_region_held_drew (S := fun w' => w'.cell? ⟨X, 0, none⟩ = some (.int .i64 xa) ∧ w'.cell? ⟨X, 1, none⟩ = some (.int .i64 xb) ∧ w'.cell? ⟨p, 0, none⟩ = some (.int .i64 i)) (by kernel_rfl) (⟨x0, x1, p0⟩) (fun hHeld => ?_)
    refine wpAnyH_take (i := 0) (v := .agg #[.int .i64 xa, .int .i64 xb]) rfl (by kernel_rfl) (by kernel_rfl) (by kernel_rfl) (fun _ _ _ h => h) (Or.inl ⟨rfl, fun w hSw => ?_⟩) (by assumption) ?_
    · (try dsimp only at hSw); go_simp
    try simp only [List.getElem_toArray, List.getElem_cons_zero, Act.put, List.setIfInBounds_toArray, List.set_cons_zero, List.set_cons_succ]
    refine wpAnyH_ready (rs := [1]) (by kernel_rfl) (by simp) ?_
    refine AllReadyH.cons rfl (fun K hK => ?_) AllReadyH.nil
    go_simp
    go_at_call 40; refine (hm.out _).mono ?_; rintro e w4 ⟨rfl, b4⟩; have s4 : Below wx.heap.size wx w4 := ⟨b4.os, b4.tape, b4.output, b4.size, b4.block⟩
    refine hK.out _ _ (⟨(s4.cell (p := ⟨X, 0, none⟩) zX).trans x0, (s4.cell (p := ⟨X, 1, none⟩) zX).trans x1, (s4.cell (p := ⟨p, 0, none⟩) zp).trans p0⟩) (fun hHeld => ?_)
    clear hK K
    try simp only [List.getElem_toArray, List.getElem_cons_succ, List.getElem_cons_zero, Act.put, List.setIfInBounds_toArray, List.set_cons_zero, List.set_cons_succ]
    refine wpAnyH_take (i := 2) (v := .bool false) rfl (by kernel_rfl) (by kernel_rfl) (by kernel_rfl) (fun _ _ _ h => h) (Or.inl ⟨rfl, fun w hSw => ?_⟩) (by assumption) ?_
    · (try dsimp only at hSw); go_simp
    try simp only [List.getElem_toArray, List.getElem_cons_succ, List.getElem_cons_zero, Act.put, List.setIfInBounds_toArray, List.set_cons_zero, List.set_cons_succ]
    refine wpAnyH_take (i := 3) (v := undef) rfl (by kernel_rfl) (by kernel_rfl) (by kernel_rfl) (fun _ _ _ h => h) (Or.inr ⟨rfl, rfl⟩) (by assumption) ?_
    try simp only [List.getElem_toArray, List.getElem_cons_succ, List.getElem_cons_zero, Act.put, List.setIfInBounds_toArray, List.set_cons_zero, List.set_cons_succ]
    refine wpAnyH_take (i := 4) (v := undef) rfl (by kernel_rfl) (by kernel_rfl) (by kernel_rfl) (fun _ _ _ h => h) (Or.inr ⟨rfl, rfl⟩) (by assumption) ?_
    try simp only [List.getElem_toArray, List.getElem_cons_succ, List.getElem_cons_zero, Act.put, List.setIfInBounds_toArray, List.set_cons_zero, List.set_cons_succ]
    refine wpAnyH_take (i := 5) (v := undef) rfl (by kernel_rfl) (by kernel_rfl) (by kernel_rfl) (fun _ _ _ h => h) (Or.inr ⟨rfl, rfl⟩) (by assumption) ?_
    try simp only [List.getElem_toArray, List.getElem_cons_succ, List.getElem_cons_zero, Act.put, List.setIfInBounds_toArray, List.set_cons_zero, List.set_cons_succ]
    refine wpAnyH_take (i := 6) (v := undef) rfl (by kernel_rfl) (by kernel_rfl) (by kernel_rfl) (fun _ _ _ h => h) (Or.inr ⟨rfl, rfl⟩) (by assumption) ?_
    try simp only [List.getElem_toArray, List.getElem_cons_succ, List.getElem_cons_zero, Act.put, List.setIfInBounds_toArray, List.set_cons_zero, List.set_cons_succ]
    refine wpAnyH_take (i := 7) (v := .bool false) rfl (by kernel_rfl) (by kernel_rfl) (by kernel_rfl) (fun _ _ _ h => h) (Or.inl ⟨rfl, fun w hSw => ?_⟩) (by assumption) ?_
    · (try dsimp only at hSw); go_simp
    try simp only [List.getElem_toArray, List.getElem_cons_succ, List.getElem_cons_zero, Act.put, List.setIfInBounds_toArray, List.set_cons_zero, List.set_cons_succ]
    refine wpAnyH_take (i := 8) (v := .bool false) rfl (by kernel_rfl) (by kernel_rfl) (by kernel_rfl) (fun _ _ _ h => h) (Or.inl ⟨rfl, fun w hSw => ?_⟩) (by assumption) ?_
    · (try dsimp only at hSw); go_simp
    try simp only [List.getElem_toArray, List.getElem_cons_succ, List.getElem_cons_zero, Act.put, List.setIfInBounds_toArray, List.set_cons_zero, List.set_cons_succ]
    refine wpAnyH_take (i := 9) (v := undef) rfl (by kernel_rfl) (by kernel_rfl) (by kernel_rfl) (fun _ _ _ h => h) (Or.inr ⟨rfl, rfl⟩) (by assumption) ?_
    try simp only [List.getElem_toArray, List.getElem_cons_succ, List.getElem_cons_zero, Act.put, List.setIfInBounds_toArray, List.set_cons_zero, List.set_cons_succ]
    refine wpAnyH_take (i := 10) (v := undef) rfl (by kernel_rfl) (by kernel_rfl) (by kernel_rfl) (fun _ _ _ h => h) (Or.inr ⟨rfl, rfl⟩) (by assumption) ?_
    try simp only [List.getElem_toArray, List.getElem_cons_succ, List.getElem_cons_zero, Act.put, List.setIfInBounds_toArray, List.set_cons_zero, List.set_cons_succ]
    refine wpAnyH_take (i := 11) (v := undef) rfl (by kernel_rfl) (by kernel_rfl) (by kernel_rfl) (fun _ _ _ h => h) (Or.inr ⟨rfl, rfl⟩) (by assumption) ?_
    try simp only [List.getElem_toArray, List.getElem_cons_succ, List.getElem_cons_zero, Act.put, List.setIfInBounds_toArray, List.set_cons_zero, List.set_cons_succ]
    refine wpAnyH_take (i := 12) (v := undef) rfl (by kernel_rfl) (by kernel_rfl) (by kernel_rfl) (fun _ _ _ h => h) (Or.inr ⟨rfl, rfl⟩) (by assumption) ?_
    try simp only [List.getElem_toArray, List.getElem_cons_succ, List.getElem_cons_zero, Act.put, List.setIfInBounds_toArray, List.set_cons_zero, List.set_cons_succ]
    refine wpAnyH_take (i := 13) (v := .bool false) rfl (by kernel_rfl) (by kernel_rfl) (by kernel_rfl) (fun _ _ _ h => h) (Or.inl ⟨rfl, fun w hSw => ?_⟩) (by assumption) ?_
    · (try dsimp only at hSw); go_simp
    try simp only [List.getElem_toArray, List.getElem_cons_succ, List.getElem_cons_zero, Act.put, List.setIfInBounds_toArray, List.set_cons_zero, List.set_cons_succ]
    refine wpAnyH_take (i := 14) (v := .bool false) rfl (by kernel_rfl) (by kernel_rfl) (by kernel_rfl) (fun _ _ _ h => h) (Or.inl ⟨rfl, fun w hSw => ?_⟩) (by assumption) ?_
    · (try dsimp only at hSw); go_simp
    try simp only [List.getElem_toArray, List.getElem_cons_succ, List.getElem_cons_zero, Act.put, List.setIfInBounds_toArray, List.set_cons_zero, List.set_cons_succ]
    refine wpAnyH_done (by kernel_rfl) ?_ _
    all_goals
      have B9 := Lib.hid (bA.trans (s4.mono (by omega)))
      clear s4 b4 bA
      go_wp2_with fail
      go_ret
      exact ⟨by first | rfl | (simp; omega), B9.out⟩

set_option maxHeartbeats 1000000 in
theorem indexHas_any (g off cap : Nat) (l : RL) (i : Int) (p : Nat) (w : World) (hs : Smalls l) (h : RunsAt w (.slice (some ⟨g, off, none⟩) l.length cap) l) (hl : l.length ≤ 1000000000) (hi : -9223372036854775808 ≤ i ∧ i ≤ 9223372036854775807) (hp : w.cell? ⟨p, 0, none⟩ = some (.int .i64 i)) :
    Calls Try.prog 52 #[.slice (some ⟨g, off, none⟩) l.length cap, .func (.func 49) #[] #[.pointer (some ⟨p, 0, none⟩)]] w fun e w' => ∃ r : Int, e = .returned (.int .i64 r) ∧ ((r = -1 ∧ hasB l i = false) ∨ ∃ j : Nat, j ≤ 1000000000 ∧ r = j ∧ hasB l i = true) ∧ Below w.heap.size w w' := by
  have H := Lib.hid h
  have hpl : p < w.heap.size := World.block_lt_of_cell? w _ hp
  have hcl := Lib.hid (fun x (hx : Small x) (w' : World) (hw : Below w.heap.size w w') => has1_any x i p w' hx hi ((hw.cell (p := ⟨p, 0, none⟩) hpl).trans hp))
  have HS := Lib.hid hs
  clear h hs
  go_enter Try.func52, Try.ntmps52
  go_wp2_with fail
  go_loopw [8] (fun q wr => ∃ j : Nat, j ≤ l.length ∧ q = .int .i64 j ∧ Hid (∀ k, k < j → inB i (l.getD k (0, 0)) = false) ∧ Hid (Below w.heap.size w wr)) (fun q _ => l.length - (intOf q).toNat)
  case atStart => exact ⟨0, by omega, rfl, Lib.hid (fun k hk => absurd hk (Nat.not_lt_zero _)), Lib.hid (Below.refl _ _)⟩
  case round =>
    obtain ⟨j, hj, rfl, ha, hb⟩ := hrel
    by_cases hlt : j < l.length
    · have i0 : (0 : Int) ≤ (j : Int) := by omega
      have i1 : (j : Int) < (l.length : Int) := by omega
      obtain ⟨_, g', off', e', c0, c1⟩ := (H.out.below (B := 0) hb.out).cells j hlt
      cases e'
      have hc := Lib.hid (hcl.out _ (HS.out.at j hlt) wr hb.out)
      cases hm : inB i (l.getD j (0, 0))
      · have ha' : Hid (∀ k, k < j + 1 → inB i (l.getD k (0, 0)) = false) := Lib.hid (fun k hk => by
          rcases Nat.lt_or_ge k j with h | h
          · exact ha.out k h
          · obtain rfl : k = j := by omega
            exact hm)
        rw [hm] at hc
        generalize l.getD j (0, 0) = x at *
        obtain ⟨xa, xb⟩ := x
        dsimp only at *
        clear hm
        go_wp2_with fail
        refine hc.out.mono ?_
        rintro e w' ⟨rfl, hb'⟩
        have B2 := Lib.hid (hb.out.trans (hb'.mono hb.out.size))
        clear hb'
        go_wp2_with fail
        go_roundw
        case rel => exact ⟨j + 1, by omega, by go_num, ha', B2⟩
        case measure => simp [intOf]; omega
      · have hfb := Lib.hid (hasB_yes l i j hlt hm)
        rw [hm] at hc
        generalize l.getD j (0, 0) = x at *
        obtain ⟨xa, xb⟩ := x
        dsimp only at *
        clear hm
        go_wp2_with fail
        refine hc.out.mono ?_
        rintro e w' ⟨rfl, hb'⟩
        have B2 := Lib.hid (hb.out.trans (hb'.mono hb.out.size))
        clear hb'
        go_wp2_with fail
        go_ret
        exact ⟨_, rfl, .inr ⟨j, by omega, rfl, hfb.out⟩, B2.out⟩
    · obtain rfl : j = l.length := by omega
      go_wp2_with fail
      go_ret
      exact ⟨_, rfl, .inl ⟨rfl, hasB_no l i ha.out⟩, hb.out⟩

theorem containsHas_any (v : Value) (l : RL) (i : Int) (p : Nat) (w : World) (hs : Smalls l) (h : RunsAt w v l) (hl : l.length ≤ 1000000000) (hi : -9223372036854775808 ≤ i ∧ i ≤ 9223372036854775807) (hp : w.cell? ⟨p, 0, none⟩ = some (.int .i64 i)) :
    Calls Try.prog 48 #[v, .func (.func 49) #[] #[.pointer (some ⟨p, 0, none⟩)]] w fun e w' => e = .returned (.bool (hasB l i)) ∧ Below w.heap.size w w' := by
  rcases h with ⟨rfl, rfl⟩ | ⟨b, off, cap, rfl, hc⟩
  · have hN := Lib.hid (fun f w => indexNone_any none 0 f w)
    go_enter Try.func48, Try.ntmps48
    go_wp2_with fail
    refine (hN.out _ _).mono ?_
    rintro e w1 ⟨rfl, rfl⟩
    go_wp2_with fail
    go_ret
    exact ⟨rfl, Below.refl _ _⟩
  · have hN := Lib.hid (indexHas_any b off cap l i p w hs (.inr ⟨b, off, cap, rfl, hc⟩) hl hi hp)
    clear hc
    generalize hasB l i = q at *
    go_enter Try.func48, Try.ntmps48
    go_wp2_with fail
    refine hN.out.mono ?_
    rintro e w1 ⟨r, rfl, hr, b1⟩
    have B1 := Lib.hid b1
    rcases hr with ⟨rfl, rfl⟩ | ⟨j, hj, rfl, rfl⟩
    · clear b1
      go_wp2_with fail
      go_ret
      exact ⟨rfl, B1.out⟩
    · have j0 : (0 : Int) ≤ (j : Int) := by omega
      clear b1
      go_wp2_with fail
      go_ret
      exact ⟨rfl, B1.out⟩

set_option maxHeartbeats 1000000 in
theorem has_any (v : Value) (l : RL) (i : Int) (w : World) (hs : Smalls l) (h : RunsAt w v l) (hl : l.length ≤ 1000000000) (hi : -9223372036854775808 ≤ i ∧ i ≤ 9223372036854775807) :
    Calls Try.prog 25 #[v, .int .i64 i] w fun e w' => e = .returned (.bool (hasB l i)) ∧ Below w.heap.size w w' := by
  have hb : Below w.heap.size w (w.alloc (.cells #[.int .i64 i] 3)) := (Below.refl _ _).alloc (Nat.le_refl _) _
  have hC := Lib.hid (containsHas_any v l i w.heap.size (w.alloc (.cells #[.int .i64 i] 3)) hs (h.below (B := 0) hb) hl hi (box_cell _ _ _ _))
  have hB := Lib.hid hb
  clear h hb
  go_enter Try.func25, Try.ntmps25
  go_wp2_with fail
  refine hC.out.mono ?_
  rintro e w1 ⟨rfl, b1⟩
  have B1 := Lib.hid (hB.out.trans (b1.mono hB.out.size))
  clear b1
  go_wp2_with fail
  go_ret
  exact ⟨rfl, B1.out⟩

end Go.Proofs.Ytkpnimekhekpmaa
