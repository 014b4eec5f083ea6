/- The sums: three numbers joined; three texts put against one another. -/
import Derived.Test.YtiglcpfimljpjaaSumsAlive
import Derived.Test.YtiglcpfimljpjaaSumsLaws
namespace Go.Proofs.Ytiglcpfimljpjaa
open Go Go.RowKit

theorem SumsThree_walk (a b c : W32) (n m : Int) (w : World) :
    Calls Try.prog 6 #[.agg #[.int .u32 (u32 a), .int .u32 (u32 b), .int .u32 (u32 c)], .int .i64 n, .int .i64 m] w fun e w' => e = .returned (.bool true) ∧ Below w.heap.size w w' := by
  rcases (by omega : n < 0 ∨ (¬ n < 0 ∧ m < 0) ∨ (¬ n < 0 ∧ ¬ m < 0 ∧ 536870912 < n) ∨ (¬ n < 0 ∧ ¬ m < 0 ∧ ¬ 536870912 < n ∧ 536870912 < m) ∨ (¬ n < 0 ∧ ¬ m < 0 ∧ ¬ 536870912 < n ∧ ¬ 536870912 < m)) with h | ⟨h0, h⟩ | ⟨h0, h1, h⟩ | ⟨h0, h1, h2, h⟩ | ⟨h0, h1, h2, h3⟩
  case inr.inr.inr.inr =>
    obtain ⟨n, rfl⟩ := Int.eq_ofNat_of_zero_le (Int.not_lt.1 h0)
    obtain ⟨m, rfl⟩ := Int.eq_ofNat_of_zero_le (Int.not_lt.1 h1)
    have hn : n ≤ 1073741824 := by omega
    have hm : m ≤ 1073741824 := by omega
    have hnm : n + m ≤ 1073741824 := by omega
    have hass := Lib.hid (join_assoc a b c n m)
    go_enter Try.func6, Try.ntmps6
    go_wp2_with fail
    refine (join_yes a b n hn _).mono ?_
    rintro e w1 ⟨rfl, hb1⟩
    have q1 := hb1.size
    have c0 : ∀ k, w1.cell? ⟨w.heap.size, k, none⟩ = (w.alloc (.cells #[.int .u32 (u32 a), .int .u32 (u32 b), .int .u32 (u32 c)] 31)).cell? ⟨w.heap.size, k, none⟩ := fun k => hb1.cell (p := ⟨_, k, none⟩) (by simp)
    have c00 : w1.cell? ⟨w.heap.size, 0, none⟩ = some (.int .u32 (u32 a)) := by rw [c0]; simp
    have c01 : w1.cell? ⟨w.heap.size, 1, none⟩ = some (.int .u32 (u32 b)) := by rw [c0]; simp
    have c02 : w1.cell? ⟨w.heap.size, 2, none⟩ = some (.int .u32 (u32 c)) := by rw [c0]; simp
    clear c0
    have s1 : w.heap.size < w1.heap.size := by simp at q1; omega
    go_wp2_with fail
    refine (join_yes (join a b n) c m hm _).mono ?_
    rintro e w2 ⟨rfl, hb2⟩
    have q2 := hb2.size
    have c10 := (hb2.cell (p := ⟨w.heap.size, 0, none⟩) s1).trans c00
    have c11 := (hb2.cell (p := ⟨w.heap.size, 1, none⟩) s1).trans c01
    have c12 := (hb2.cell (p := ⟨w.heap.size, 2, none⟩) s1).trans c02
    have s2 : w.heap.size < w2.heap.size := by omega
    rw [hass.out]
    go_wp2_with fail
    refine (join_yes b c m hm _).mono ?_
    rintro e w3 ⟨rfl, hb3⟩
    have q3 := hb3.size
    have c20 := (hb3.cell (p := ⟨w.heap.size, 0, none⟩) s2).trans c10
    have s3 : w.heap.size < w3.heap.size := by omega
    go_wp2_with fail
    refine (join_yes a (join b c m) (n + m) hnm _).mono ?_
    rintro e w4 ⟨rfl, hb4⟩
    have q4 := hb4.size
    go_wp2_with fail
    refine (alive_any _).mono ?_
    rintro e w5 ⟨rfl, hb5⟩
    go_wp2_with fail
    go_ret
    exact ⟨rfl, ((((Below.refl _ _).alloc (Nat.le_refl _) _).trans (hb1.mono (by simp))).trans (hb2.mono (by omega))).trans ((hb3.mono (by omega)).trans ((hb4.mono (by omega)).trans (hb5.mono (by omega))))⟩
  all_goals
    go_enter Try.func6, Try.ntmps6
    go_wp2_with fail
    refine (alive_any _).mono ?_
    rintro e w5 ⟨rfl, hb5⟩
    go_wp2_with fail
    go_ret
    exact ⟨rfl, ((Below.refl _ _).alloc (Nat.le_refl _) _).trans (hb5.mono (by simp))⟩

end Go.Proofs.Ytiglcpfimljpjaa
