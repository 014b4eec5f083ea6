/- Runs: may, end, Check, Has; those of the document. -/
import Derived.Test.YtgpjldmndibalaaRunsOps
import Derived.Test.YtgpjldmndibalaaRunsAt
namespace Go.Proofs.Ytgpjldmndibalaa
open Go Go.RowKit

/-- A run as a value. -/
def rval (x : Int × Int) : Value := .agg #[.int .i64 x.1, .int .i64 x.2]
def Small (x : Int × Int) : Prop := (-9223372036854775808 ≤ x.1 ∧ x.1 ≤ 9223372036854775807) ∧ (-9223372036854775808 ≤ x.2 ∧ x.2 ≤ 9223372036854775807)

theorem may_any (x : Int × Int) (hx : Small x) (w : World) : Calls Try.prog 52 #[.agg #[.int .i64 x.1, .int .i64 x.2]] w fun e w' => e = .returned (.bool (decide (Runs.may x))) ∧ w' = w.alloc (.cells #[.int .i64 x.1, .int .i64 x.2] 32) := by
  obtain ⟨a, c⟩ := x
  obtain ⟨⟨h1, h2⟩, h3, h4⟩ := hx
  dsimp only at *
  by_cases k1 : 0 ≤ a
  · by_cases k2 : 1 ≤ c
    · by_cases k3 : c ≤ 9223372036854775807 - a
      · have e : decide (Runs.may (a, c)) = true := decide_eq_true ⟨k1, k2, k3⟩
        rw [e]
        go_enter Try.func52, Try.ntmps52
        go_wp2_with fail
        go_ret
        exact ⟨rfl, rfl⟩
      · have e : decide (Runs.may (a, c)) = false := decide_eq_false (fun h => k3 h.2.2)
        rw [e]
        go_enter Try.func52, Try.ntmps52
        go_wp2_with fail
        go_ret
        exact ⟨rfl, rfl⟩
    · have e : decide (Runs.may (a, c)) = false := decide_eq_false (fun h => k2 h.2.1)
      rw [e]
      go_enter Try.func52, Try.ntmps52
      go_wp2_with fail
      go_ret
      exact ⟨rfl, rfl⟩
  · have e : decide (Runs.may (a, c)) = false := decide_eq_false (fun h => k1 h.1)
    rw [e]
    go_enter Try.func52, Try.ntmps52
    go_wp2_with fail
    go_ret
    exact ⟨rfl, rfl⟩

theorem may2_any (x : Int × Int) (hx : Small x) (w : World) : Calls Try.prog 56 #[.agg #[.int .i64 x.1, .int .i64 x.2]] w fun e w' => e = .returned (.bool (decide (Runs.may x))) ∧ w' = w.alloc (.cells #[.int .i64 x.1, .int .i64 x.2] 32) := by
  obtain ⟨a, c⟩ := x
  obtain ⟨⟨h1, h2⟩, h3, h4⟩ := hx
  dsimp only at *
  by_cases k1 : 0 ≤ a
  · by_cases k2 : 1 ≤ c
    · by_cases k3 : c ≤ 9223372036854775807 - a
      · have e : decide (Runs.may (a, c)) = true := decide_eq_true ⟨k1, k2, k3⟩
        rw [e]
        go_enter Try.func56, Try.ntmps56
        go_wp2_with fail
        go_ret
        exact ⟨rfl, rfl⟩
      · have e : decide (Runs.may (a, c)) = false := decide_eq_false (fun h => k3 h.2.2)
        rw [e]
        go_enter Try.func56, Try.ntmps56
        go_wp2_with fail
        go_ret
        exact ⟨rfl, rfl⟩
    · have e : decide (Runs.may (a, c)) = false := decide_eq_false (fun h => k2 h.2.1)
      rw [e]
      go_enter Try.func56, Try.ntmps56
      go_wp2_with fail
      go_ret
      exact ⟨rfl, rfl⟩
  · have e : decide (Runs.may (a, c)) = false := decide_eq_false (fun h => k1 h.1)
    rw [e]
    go_enter Try.func56, Try.ntmps56
    go_wp2_with fail
    go_ret
    exact ⟨rfl, rfl⟩

theorem end_any (x : Int × Int) (h : -9223372036854775808 ≤ Runs.fin x ∧ Runs.fin x ≤ 9223372036854775807) (w : World) : Calls Try.prog 48 #[.agg #[.int .i64 x.1, .int .i64 x.2]] w fun e w' => e = .returned (.int .i64 (Runs.fin x)) ∧ w' = w.alloc (.cells #[.int .i64 x.1, .int .i64 x.2] 32) := by
  obtain ⟨a, c⟩ := x
  unfold Runs.fin at *
  dsimp only at *
  go_enter Try.func48, Try.ntmps48
  go_wp2_with fail
  go_ret
  exact ⟨rfl, rfl⟩

/-- Normal's first closure: what may not be. -/
theorem normal1_any (x : Int × Int) (hx : Small x) (w : World) : Calls Try.prog 51 #[.agg #[.int .i64 x.1, .int .i64 x.2]] w fun e w' => e = .returned (.bool (!decide (Runs.may x))) ∧ Below w.heap.size w w' := by
  have hm := Lib.hid (fun w => may_any x hx w)
  clear hx
  obtain ⟨a, c⟩ := x
  generalize decide (Runs.may (a, c)) = r at *
  dsimp only at *
  go_enter Try.func51, Try.ntmps51
  go_wp2_with fail
  refine (hm.out _).mono ?_
  rintro e w' ⟨rfl, rfl⟩
  go_wp2_with fail
  go_ret
  exact ⟨rfl, ((Below.refl _ _).alloc (Nat.le_refl _) _).alloc (by simp) _⟩

/-- Are all runs of a list numbers of 64 bits? -/
def Smalls (l : RL) : Prop := ∀ x ∈ l, Small x
theorem Smalls.at {l : RL} (h : Smalls l) (i : Nat) (hi : i < l.length) : Small (l.getD i (0, 0)) := by
  have e : l.getD i (0, 0) = l[i] := by simp [List.getD, hi]
  rw [e]; exact h _ (List.getElem_mem hi)
theorem Smalls.row {l : RL} (h : Runs.Row l) : Smalls l := fun x hx => by
  have := h.may x hx
  unfold Runs.may Runs.top at this
  unfold Small; omega

/-- The runs lie there, cell by cell. -/
theorem RunsAt.cells {w : World} {ad : Option Addr} {n cap : Nat} {l : RL} (h : RunsAt w (.slice ad n cap) l) (i : Nat) (hi : i < l.length) : n = l.length ∧ ∃ g off, ad = some ⟨g, off, none⟩ ∧
    w.cell? ⟨g, off + i * 2, none⟩ = some (.int .i64 (l.getD i (0, 0)).1) ∧ w.cell? ⟨g, off + i * 2 + 1, none⟩ = some (.int .i64 (l.getD i (0, 0)).2) := by
  rcases h with ⟨h, rfl⟩ | ⟨b, off, c, h, hc⟩
  · simp at hi
  · cases h
    refine ⟨rfl, b, off, rfl, ?_, ?_⟩
    · have := hc (i * 2) _ (rcells_at l i hi).1
      exact this
    · have := hc (i * 2 + 1) _ (rcells_at l i hi).2
      rw [← Nat.add_assoc] at this
      exact this

/-- Is it in order as far as this place? -/
def okTo (l : RL) : Nat → Bool
  | 0 => true
  | i + 1 => okTo l i && decide (Runs.may (l.getD i (0, 0))) && (i == 0 || decide (Runs.fin (l.getD (i - 1) (0, 0)) < (l.getD i (0, 0)).1))

end Go.Proofs.Ytgpjldmndibalaa
