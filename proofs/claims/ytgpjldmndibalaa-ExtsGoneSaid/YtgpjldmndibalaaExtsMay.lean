/- Exts: may. -/
import Derived.Test.YtgpjldmndibalaaExtsAt
namespace Go.Proofs.Ytgpjldmndibalaa
open Go Go.RowKit

set_option maxHeartbeats 2000000 in
theorem emay_any (x : Exts.E) (hx : SmallE x) (w : World) : Calls Try.prog 41 #[.agg #[.int .i64 x.1, .int .i64 x.2.1, .int .i64 x.2.2]] w fun e w' => e = .returned (.bool (decide (Exts.may x))) ∧ Below w.heap.size w w' := by
  have hb : Below w.heap.size w (w.alloc (.cells #[.int .i64 x.1, .int .i64 x.2.1, .int .i64 x.2.2] 37)) := (Below.refl _ _).alloc (Nat.le_refl _) _
  obtain ⟨a, b, c⟩ := x
  obtain ⟨⟨h1, h2⟩, ⟨h3, h4⟩, h5, h6⟩ := hx
  dsimp only at *
  by_cases k1 : 1 ≤ c
  · skip
    by_cases k2 : c ≤ 4096
    · skip
      have w1 : IntKind.i64.wrap (2048 - c) = 2048 - c := IntWalk.i64_in _ (by omega)
      have w2 : IntKind.i64.wrap (4096 - c) = 4096 - c := IntWalk.i64_in _ (by omega)
      by_cases k3 : 0 ≤ a
      · skip
        by_cases k4 : a ≤ 2048 - c
        · skip
          by_cases k5 : 1 ≤ b
          · skip
            by_cases k6 : b ≤ 4096 - c
            · skip
              rw [show decide (Exts.may (a, b, c)) = true from decide_eq_true ⟨k1, k2, k3, k4, k5, k6⟩]
              go_enter Try.func41, Try.ntmps41
              go_wp2_with fail
              go_ret
              exact ⟨rfl, hb⟩
            · skip
              rw [show decide (Exts.may (a, b, c)) = false from decide_eq_false (fun h => k6 h.2.2.2.2.2)]
              go_enter Try.func41, Try.ntmps41
              go_wp2_with fail
              go_ret
              exact ⟨rfl, hb⟩
          · skip
            rw [show decide (Exts.may (a, b, c)) = false from decide_eq_false (fun h => k5 h.2.2.2.2.1)]
            go_enter Try.func41, Try.ntmps41
            go_wp2_with fail
            go_ret
            exact ⟨rfl, hb⟩
        · skip
          rw [show decide (Exts.may (a, b, c)) = false from decide_eq_false (fun h => k4 h.2.2.2.1)]
          go_enter Try.func41, Try.ntmps41
          go_wp2_with fail
          go_ret
          exact ⟨rfl, hb⟩
      · skip
        rw [show decide (Exts.may (a, b, c)) = false from decide_eq_false (fun h => k3 h.2.2.1)]
        go_enter Try.func41, Try.ntmps41
        go_wp2_with fail
        go_ret
        exact ⟨rfl, hb⟩
    · skip
      rw [show decide (Exts.may (a, b, c)) = false from decide_eq_false (fun h => k2 h.2.1)]
      go_enter Try.func41, Try.ntmps41
      go_wp2_with fail
      go_ret
      exact ⟨rfl, hb⟩
  · skip
    rw [show decide (Exts.may (a, b, c)) = false from decide_eq_false (fun h => k1 h.1)]
    go_enter Try.func41, Try.ntmps41
    go_wp2_with fail
    go_ret
    exact ⟨rfl, hb⟩

end Go.Proofs.Ytgpjldmndibalaa
