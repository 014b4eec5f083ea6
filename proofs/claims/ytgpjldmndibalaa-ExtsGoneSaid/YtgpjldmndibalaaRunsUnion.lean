/- Lists of runs: Concat, Union. -/
import Derived.Test.YtgpjldmndibalaaRunsMinus
import Derived.Test.YtgpjldmndibalaaShelf2
import Derived.Deep.DeepMust
namespace Go.Proofs.Ytgpjldmndibalaa
set_option linter.unusedVariables false
open Go Go.RowKit

theorem grow_any (n : Nat) (w : World) (hn : n ≤ 1000000000) : Calls Try.prog 63 #[.slice none 0 0, .int .i64 (n : Int)] w fun e w' => ∃ v', e = .returned v' ∧ OwnRuns w.heap.size w' v' [] ∧ Below w.heap.size w w' := by
  by_cases h0 : n = 0
  · subst h0
    refine (Any8.slices_Grow_room Try.growRun none 0 0 0 w (Nat.le_refl _) (by omega) (by omega) (by omega)).mono ?_
    rintro e w' ⟨rfl, rfl⟩
    exact ⟨_, rfl, World.ownsRow_nil _ _ _ _, Below.refl _ _⟩
  · obtain ⟨i0', hi0, hz0, hz1, hz2⟩ := info_parts info_run
    refine (Any8.slices_Grow_grow Try.growRun i0' _ hi0 hz0 (by omega) none 0 0 n [] w (Nat.le_refl _) (by omega) (by rw [hz2]; omega) (by omega) (by simp) (fun _ => rfl) (by simp)).mono ?_
    rintro e w' ⟨rfl, rfl⟩
    have h1 := grownCap_le_maxLen w (0 + n) 0 (Try.growRun_ren.t 25) (by unfold maxLen; omega)
    have h2 := grownCap_ge w (0 + n) 0 (Try.growRun_ren.t 25)
    generalize grownCap w (0 + n) 0 (Try.growRun_ren.t 25) = c at *
    refine ⟨_, rfl, ⟨by simp [rcells], .inr ⟨w.heap.size, c, _, rfl, Nat.le_refl _, heap_alloc_new w.drew _, Nat.zero_le _, h1, ?_, by simp [rcells]⟩⟩, (below_dr (n := 1) (Below.refl _ _)).alloc (Nat.le_refl _) _⟩
    simp [Builtin.zeroCells, Value.cells]
    omega

set_option maxRecDepth 100000 in
set_option maxHeartbeats 4000000 in
theorem concat_any (p c : Nat) (va vb : Value) (a b : RL) (w : World) (c0 : w.cell? ⟨p, 0, none⟩ = some va) (c1 : w.cell? ⟨p, 1, none⟩ = some vb) (h1 : RunsAt w va a) (h2 : RunsAt w vb b) (hla : a.length ≤ 100000000) (hlb : b.length ≤ 100000000) :
    Calls Try.prog 47 #[.slice (some ⟨p, 0, none⟩) 2 2] w fun e w' => ∃ v', e = .returned v' ∧ OwnRuns w.heap.size w' v' (a ++ b) ∧ Below w.heap.size w w' := by
  go_enter Try.func47, Try.ntmps47
  go_wp2_with fail
  have ea : ∃ ad ac, va = .slice ad a.length ac := by
    rcases h1 with ⟨rfl, rfl⟩ | ⟨x, y, z, rfl, _⟩
    · exact ⟨_, _, rfl⟩
    · exact ⟨_, _, rfl⟩
  have eb : ∃ ad ac, vb = .slice ad b.length ac := by
    rcases h2 with ⟨rfl, rfl⟩ | ⟨x, y, z, rfl, _⟩
    · exact ⟨_, _, rfl⟩
    · exact ⟨_, _, rfl⟩
  obtain ⟨ad, ac, rfl⟩ := ea
  obtain ⟨bd, bc, rfl⟩ := eb
  have H1 := Lib.hid h1
  have H2 := Lib.hid h2
  clear h1 h2
  go_loopw [3, 11] (fun s q wr => ((q = .int .i64 0 ∧ s = .int .i64 0) ∨ (q = .int .i64 1 ∧ s = .int .i64 (a.length : Int)) ∨ (q = .int .i64 2 ∧ s = .int .i64 (a.length + b.length : Nat))) ∧ w = wr) (fun _ q _ => 2 - (intOf q).toNat)
  case atStart => exact ⟨.inl ⟨rfl, rfl⟩, rfl⟩
  case round =>
    obtain ⟨⟨rfl, rfl⟩ | ⟨rfl, rfl⟩ | ⟨rfl, rfl⟩, rfl⟩ := hrel
    · go_wp2_with fail
      go_roundw
      case rel => exact ⟨.inr (.inl ⟨rfl, rfl⟩), by first | rfl | trivial⟩
      case measure => simp [intOf]
    · go_wp2_with fail
      go_roundw
      case rel => exact ⟨.inr (.inr ⟨rfl, by simp⟩), by first | rfl | trivial⟩
      case measure => simp [intOf]
    · skip
      go_wp2_with fail
      refine (grow_any (a.length + b.length) _ (by omega)).mono ?_
      rintro e w1 ⟨v1, rfl, o1, b1⟩
      have O1 := Lib.hid o1
      have B1 := Lib.hid b1
      have z1 := b1.size
      obtain ⟨i0', hi0, hz0, hz1, hz2⟩ := info_parts info_run
      clear o1 b1
      go_wp2_with fail
      go_loopw [6, 27] (fun p q wr => ∃ (u : Value) (R : RL), u = p ∧ ((q = .int .i64 0 ∧ R = []) ∨ (q = .int .i64 1 ∧ R = a) ∨ (q = .int .i64 2 ∧ R = a ++ b)) ∧ R.length ≤ 200000000 ∧ Hid (OwnRuns w.heap.size wr u R) ∧ Hid (Below w.heap.size w wr) ∧ w.heap.size ≤ wr.heap.size) (fun _ q _ => 2 - (intOf q).toNat)
      case atStart => exact ⟨_, [], rfl, .inl ⟨rfl, rfl⟩, by simp, O1, B1, z1⟩
      case round =>
        obtain ⟨u, R, rfl, hq, hR, ho, hb, hsz⟩ := hrel
        have d0 := (hb.out.cell (p := ⟨p, 0, none⟩) (World.block_lt_of_cell? _ _ c0)).trans c0
        have d1 := (hb.out.cell (p := ⟨p, 1, none⟩) (World.block_lt_of_cell? _ _ c1)).trans c1
        rcases hq with ⟨rfl, hRe'⟩ | ⟨rfl, hRe'⟩ | ⟨rfl, hRe'⟩
        · have hRe := Lib.hid hRe'
          clear hRe'
          have HB' := (H1.out.below (B := 0) hb.out)
          rcases HB' with ⟨e1, rfl⟩ | ⟨gx, ox, cx, e1, hcx⟩
          · cases e1
            rcases ho.out.form with ⟨rfl, hR0⟩ | ⟨gr, co, rfl, hco⟩
            · go_wp2_with fail
              go_roundw
              case rel => exact ⟨_, _, rfl, .inr (.inl ⟨rfl, by simp [hRe.out]⟩), by first | (rw [hRe.out]; simp; omega) | (have := congrArg List.length hRe.out; simp at this ⊢; omega), ho, hb, hsz⟩
              case measure => simp [intOf]
            · go_wp2_with fail
              go_roundw
              case rel => exact ⟨_, _, rfl, .inr (.inl ⟨rfl, by simp [hRe.out]⟩), by first | (rw [hRe.out]; simp; omega) | (have := congrArg List.length hRe.out; simp at this ⊢; omega), ho, hb, hsz⟩
              case measure => simp [intOf]
          · cases e1
            have hne : ∀ j u, (rcells a)[j]? = some u → wr.cell? ((⟨gx, ox, none⟩ : Addr).add j) = some u := fun j u hu => by
              have e1 : (⟨gx, ox, none⟩ : Addr).add j = ⟨gx, ox + j, none⟩ := by unfold Addr.add; split <;> simp_all
              rw [e1]
              exact hcx j u hu
            have hone := rcells_one a
            have hrl := rcells_length a
            clear hcx
            go_wp2_with (first
              | (at_builtin; go_must (refine wpList_append_own _ rfl _ _ 26 rfl w.heap.size 32 i0' (.agg #[.int .i64 0, .int .i64 0]) 2 16 Try.underlying26 hi0 hz0 hz1 hz2 rfl (by decide) _ R.length _ rfl ho.out ⟨gx, ox, none⟩ a.length _ (rcells a) rfl hrl hne hone (by unfold maxLen; omega) (by omega) hsz ?_)))
            intro v' w5 hown hgrow _
            have B5 : Hid (Below w.heap.size w w5) := Lib.hid (hb.out.grown hgrow hsz (fun k hk => (ho.out.lt k hk).1))
            have O5 : Hid (OwnRuns w.heap.size w5 v' (R ++ a)) := Lib.hid (by
              unfold OwnRuns
              rw [List.length_append, rcells_append]
              exact hown)
            have z5 := B5.out.size
            clear hown hgrow
            go_wp2_with fail
            go_roundw
            case rel => exact ⟨v', _, rfl, .inr (.inl ⟨rfl, by simp [hRe.out]⟩), by first | (rw [hRe.out]; simp; omega) | (have := congrArg List.length hRe.out; simp at this ⊢; omega), O5, B5, z5⟩
            case measure => simp [intOf]
        · have hRe := Lib.hid hRe'
          clear hRe'
          have HB' := (H2.out.below (B := 0) hb.out)
          rcases HB' with ⟨e1, rfl⟩ | ⟨gx, ox, cx, e1, hcx⟩
          · cases e1
            rcases ho.out.form with ⟨rfl, hR0⟩ | ⟨gr, co, rfl, hco⟩
            · go_wp2_with fail
              go_roundw
              case rel => exact ⟨_, _, rfl, .inr (.inr ⟨rfl, by simp [hRe.out]⟩), by first | (rw [hRe.out]; simp; omega) | (have := congrArg List.length hRe.out; simp at this ⊢; omega), ho, hb, hsz⟩
              case measure => simp [intOf]
            · go_wp2_with fail
              go_roundw
              case rel => exact ⟨_, _, rfl, .inr (.inr ⟨rfl, by simp [hRe.out]⟩), by first | (rw [hRe.out]; simp; omega) | (have := congrArg List.length hRe.out; simp at this ⊢; omega), ho, hb, hsz⟩
              case measure => simp [intOf]
          · cases e1
            have hne : ∀ j u, (rcells b)[j]? = some u → wr.cell? ((⟨gx, ox, none⟩ : Addr).add j) = some u := fun j u hu => by
              have e1 : (⟨gx, ox, none⟩ : Addr).add j = ⟨gx, ox + j, none⟩ := by unfold Addr.add; split <;> simp_all
              rw [e1]
              exact hcx j u hu
            have hone := rcells_one b
            have hrl := rcells_length b
            clear hcx
            go_wp2_with (first
              | (at_builtin; go_must (refine wpList_append_own _ rfl _ _ 26 rfl w.heap.size 32 i0' (.agg #[.int .i64 0, .int .i64 0]) 2 16 Try.underlying26 hi0 hz0 hz1 hz2 rfl (by decide) _ R.length _ rfl ho.out ⟨gx, ox, none⟩ b.length _ (rcells b) rfl hrl hne hone (by unfold maxLen; omega) (by omega) hsz ?_)))
            intro v' w5 hown hgrow _
            have B5 : Hid (Below w.heap.size w w5) := Lib.hid (hb.out.grown hgrow hsz (fun k hk => (ho.out.lt k hk).1))
            have O5 : Hid (OwnRuns w.heap.size w5 v' (R ++ b)) := Lib.hid (by
              unfold OwnRuns
              rw [List.length_append, rcells_append]
              exact hown)
            have z5 := B5.out.size
            clear hown hgrow
            go_wp2_with fail
            go_roundw
            case rel => exact ⟨v', _, rfl, .inr (.inr ⟨rfl, by simp [hRe.out]⟩), by first | (rw [hRe.out]; simp; omega) | (have := congrArg List.length hRe.out; simp at this ⊢; omega), O5, B5, z5⟩
            case measure => simp [intOf]
        · have hRe := Lib.hid hRe'
          clear hRe'
          have O9 : Hid (OwnRuns w.heap.size wr u (a ++ b)) := Lib.hid (by rw [← hRe.out]; exact ho.out)
          go_wp2_with fail
          go_ret
          exact ⟨_, rfl, O9.out, hb.out⟩

def unionR (a b : RL) : RL := Runs.normR (a ++ b)

set_option maxHeartbeats 2000000 in
theorem union_any (va vb : Value) (a b : RL) (w : World) (ha : Smalls a) (hb : Smalls b) (h1 : RunsAt w va a) (h2 : RunsAt w vb b) (hla : a.length ≤ 100000000) (hlb : b.length ≤ 100000000) :
    Calls Try.prog 34 #[va, vb] w fun e w' => ∃ v', e = .returned v' ∧ OwnRuns w.heap.size w' v' (unionR a b) ∧ Below w.heap.size w w' := by
  have bA : Below w.heap.size w (w.alloc (.cells #[va, vb] 26)) := (Below.refl _ _).alloc (Nat.le_refl _) _
  have hC := Lib.hid (concat_any w.heap.size 2 va vb a b (w.alloc (.cells #[va, vb] 26)) (box_cell _ _ _ _) (box_cell _ _ _ _) (h1.below (B := 0) bA) (h2.below (B := 0) bA) hla hlb)
  have hN := Lib.hid (fun v w' (h : RunsAt w' v (a ++ b)) => normal_any v (a ++ b) w' (fun x hx => (List.mem_append.1 hx).elim (ha x) (hb x)) h (by simp; omega))
  have BA := Lib.hid bA
  have ea : ∃ ad an ac, va = .slice ad an ac := by
    rcases h1 with ⟨rfl, rfl⟩ | ⟨x, y, z, rfl, _⟩
    · exact ⟨_, _, _, rfl⟩
    · exact ⟨_, _, _, rfl⟩
  have eb : ∃ ad an ac, vb = .slice ad an ac := by
    rcases h2 with ⟨rfl, rfl⟩ | ⟨x, y, z, rfl, _⟩
    · exact ⟨_, _, _, rfl⟩
    · exact ⟨_, _, _, rfl⟩
  obtain ⟨ad, an, ac, rfl⟩ := ea
  obtain ⟨bd, bn, bc, rfl⟩ := eb
  clear h1 h2 bA
  go_enter Try.func34, Try.ntmps34
  go_wp2_with fail
  refine hC.out.mono ?_
  rintro e w1 ⟨v1, rfl, o1, b1⟩
  have B1 := Lib.hid (BA.out.trans (b1.mono BA.out.size))
  have hN1 := Lib.hid (hN.out v1 w1 o1.at)
  clear o1 b1
  go_wp2_with fail
  refine hN1.out.mono ?_
  rintro e w2 ⟨v2, rfl, o2, b2⟩
  have B2 := Lib.hid (B1.out.trans (b2.mono B1.out.size))
  have O2 : Hid (OwnRuns w.heap.size w2 v2 (unionR a b)) := Lib.hid (World.ownsRow.mono o2 B1.out.size)
  clear o2 b2
  go_wp2_with fail
  go_ret
  exact ⟨_, rfl, O2.out, B2.out⟩

end Go.Proofs.Ytgpjldmndibalaa
