/- Lists of runs: Minus. -/
import Derived.Test.YtgpjldmndibalaaRunsMeet
namespace Go.Proofs.Ytgpjldmndibalaa
set_option linter.unusedVariables false
open Go Go.RowKit

theorem gaps_len (n : Int) (l : RL) : ∀ a, (Runs.gapsN n a l).length ≤ l.length + 1 := by
  induction l with
  | nil => intro a; unfold Runs.gapsN; split <;> simp
  | cons x l ih =>
    intro a
    have := ih (Runs.fin x)
    unfold Runs.gapsN
    split
    · split <;> simp
    · rw [List.length_append, List.length_cons]
      split
      · simp only [List.length_cons, List.length_nil]; omega
      · simp only [List.length_nil]; omega
theorem gaps_row (n : Int) (l : RL) (hl : Runs.Row l) (hn : n ≤ Runs.top) : Runs.Row (Runs.gapsN n 0 l) :=
  (Runs.gapsN_spec n hn l 0 (Int.le_refl _) hl (fun x hx => by have := hl.may x hx; unfold Runs.may at this; omega)).1

set_option maxHeartbeats 1000000 in
theorem minus_any (va vb : Value) (a b : RL) (w : World) (ha : Smalls a) (hb : Smalls b) (h1 : RunsAt w va a) (h2 : RunsAt w vb b) (hla : a.length ≤ 100000000) (hlb : b.length ≤ 100000000) :
    Calls Try.prog 60 #[va, vb] w fun e w' => ∃ v', e = .returned v' ∧ OwnRuns w.heap.size w' v' (Runs.minusR a b) ∧ Below w.heap.size w w' := by
  have hN := Lib.hid (normal_any vb b w hb h2 (by omega))
  have h1' := Lib.hid h1
  clear h2 h1
  go_enter Try.func60, Try.ntmps60
  go_wp2_with fail
  refine hN.out.mono ?_
  rintro e w1 ⟨v1, rfl, o1, b1⟩
  have B1 := Lib.hid b1
  have hG := Lib.hid (gaps_any v1 (Runs.normR b) Runs.top w1 (Runs.normR_spec b).1 o1.at (by have := norm_len b; omega) (by unfold Runs.top; omega))
  clear o1 b1
  unfold Runs.top at hG
  go_wp2_with fail
  refine hG.out.mono ?_
  rintro e w2 ⟨v2, rfl, o2, b2⟩
  have B2 := Lib.hid (B1.out.trans (b2.mono B1.out.size))
  have hM := Lib.hid (meet_any va v2 a (Runs.gapsN 9223372036854775807 0 (Runs.normR b)) w2 ha (Smalls.row (gaps_row _ _ (Runs.normR_spec b).1 (by unfold Runs.top; omega))) (h1'.out.below (B := 0) B2.out) o2.at (by omega) (by have := norm_len b; have := gaps_len 9223372036854775807 (Runs.normR b) 0; omega))
  clear o2 b2
  go_wp2_with fail
  refine hM.out.mono ?_
  rintro e w3 ⟨v3, rfl, o3, b3⟩
  have O3 : Hid (OwnRuns w.heap.size w3 v3 (Runs.minusR a b)) := Lib.hid (by
    have e := Runs.minus_eq a b
    rw [Runs.meet_eq] at e
    rw [← e]
    exact World.ownsRow.mono o3 B2.out.size)
  have B3 := Lib.hid (B2.out.trans (b3.mono B2.out.size))
  clear o3 b3
  go_wp2_with fail
  go_ret
  exact ⟨_, rfl, O3.out, B3.out⟩

end Go.Proofs.Ytgpjldmndibalaa
