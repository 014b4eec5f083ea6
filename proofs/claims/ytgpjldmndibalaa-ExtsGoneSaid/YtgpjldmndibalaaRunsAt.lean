/- Lists of runs in memory; whether two are the same. -/
import Derived.Test.YtgpjldmndibalaaProg
import Derived.Test.YtgpjldmndibalaaRow
import Derived.StillTailTactics
import Derived.BigQuiet
import Derived.Deep.QuietTactic
namespace Go.Proofs.Ytgpjldmndibalaa
set_option linter.unusedVariables false
open Go Go.RowKit

abbrev RL := List (Int × Int)
/-- The cells of a list of runs. -/
def rcells (l : RL) : List Value := l.flatMap fun r => [.int .i64 r.1, .int .i64 r.2]
theorem rcells_length (l : RL) : (rcells l).length = l.length * 2 := by
  induction l with
  | nil => rfl
  | cons r l ih => simp only [rcells, List.flatMap_cons, List.length_append, List.length_cons, List.length_nil] at ih ⊢; omega
theorem rcells_append (a b : RL) : rcells (a ++ b) = rcells a ++ rcells b := by simp [rcells]
theorem rcells_at (l : RL) : ∀ i, i < l.length → (rcells l)[i * 2]? = some (.int .i64 (l.getD i (0, 0)).1) ∧ (rcells l)[i * 2 + 1]? = some (.int .i64 (l.getD i (0, 0)).2) := by
  induction l with
  | nil => intro i h; simp at h
  | cons r l ih =>
    intro i h
    cases i with
    | zero => simp [rcells, List.getD]
    | succ i =>
      have hi := ih i (by simpa using h)
      have e : rcells (r :: l) = .int .i64 r.1 :: .int .i64 r.2 :: rcells l := by simp [rcells]
      rw [e, show (i + 1) * 2 = i * 2 + 1 + 1 by omega]
      simpa [List.getD] using hi

/-- The value v leads to the runs l. -/
def RunsAt (w : World) (v : Value) (l : RL) : Prop :=
  (v = .slice none 0 0 ∧ l = []) ∨ ∃ b off cap, v = .slice (some ⟨b, off, none⟩) l.length cap ∧ ∀ j u, (rcells l)[j]? = some u → w.cell? ⟨b, off + j, none⟩ = some u

theorem RunsAt.below {w w' : World} {v : Value} {l : RL} {B : Nat} (h : RunsAt w v l) (hb : Below w.heap.size w w') : RunsAt w' v l := by
  rcases h with h | ⟨b, off, cap, rfl, hc⟩
  · exact .inl h
  · exact .inr ⟨b, off, cap, rfl, fun j u hu => (hb.cell (p := ⟨b, off + j, none⟩) (World.block_lt_of_cell? w _ (hc j u hu))).trans (hc j u hu)⟩
theorem RunsAt.own {w : World} {v : Value} {l : RL} {B E : Nat} (h : w.ownsRow B E 2 v l.length (rcells l)) : RunsAt w v l := by
  rcases h.2 with ⟨rfl, hn⟩ | ⟨g, cap, cur, rfl, hg, hh, h1, h2, h3, h4⟩
  · exact .inl ⟨rfl, List.eq_nil_of_length_eq_zero hn⟩
  · refine .inr ⟨g, 0, cap, rfl, fun j u hu => ?_⟩
    rw [cell_of_row w g (0 + j) _ _ _ hh, Nat.zero_add]
    have hj : j < (rcells l).length := (List.getElem?_eq_some_iff.1 hu).1
    rw [← h4] at hu
    rw [List.getElem?_take_of_lt (by rw [rcells_length] at hj; exact hj)] at hu
    simpa using hu

theorem same_no (a1 a2 : Option Addr) (n1 n2 c1 c2 : Nat) (h : n1 ≠ n2) (h1 : n1 ≤ 9223372036854775807) (h2 : n2 ≤ 9223372036854775807) (w : World) :
    Calls Try.prog 18 #[.slice a1 n1 c1, .slice a2 n2 c2] w fun e w' => e = .returned (.bool false) ∧ ∃ n, w' = w.drewN n := by
  have hb : ((n1 : Int) != (n2 : Int)) = true := by rw [bne_iff_ne]; omega
  go_enter Try.func18, Try.ntmps18
  go_wp2_with fail
  go_ret
  exact ⟨rfl, 0, rfl⟩

theorem same_zero (a1 a2 : Option Addr) (c1 c2 : Nat) (w : World) :
    Calls Try.prog 18 #[.slice a1 0 c1, .slice a2 0 c2] w fun e w' => e = .returned (.bool true) ∧ ∃ n, w' = w.drewN n := by
  go_enter Try.func18, Try.ntmps18
  go_wp2_with fail
  refine wp_loop_rounds 1 ?_
  rw [rounds_succ]
  go_wp2_with fail
  go_ret
  exact ⟨rfl, 0, rfl⟩

set_option maxHeartbeats 1000000 in
theorem same_some (w : World) (b1 o1 c1 b2 o2 c2 : Nat) (l1 l2 : RL) (hn : l2.length = l1.length) (hb : l1.length ≤ 9223372036854775807)
    (h1 : ∀ j u, (rcells l1)[j]? = some u → w.cell? ⟨b1, o1 + j, none⟩ = some u) (h2 : ∀ j u, (rcells l2)[j]? = some u → w.cell? ⟨b2, o2 + j, none⟩ = some u) :
    Calls Try.prog 18 #[.slice (some ⟨b1, o1, none⟩) l1.length c1, .slice (some ⟨b2, o2, none⟩) l1.length c2] w fun e w' => e = .returned (.bool (l1 == l2)) ∧ ∃ n, w' = w.drewN n := by
  have H1 := Lib.hid h1
  have H2 := Lib.hid h2
  have HN := Lib.hid hn
  clear h1 h2 hn
  go_enter Try.func18, Try.ntmps18
  go_wp2_with fail
  go_loopw [5] (fun q wr => ∃ i : Nat, i ≤ l1.length ∧ q = .int .i64 i ∧ Hid (l1.take i = l2.take i) ∧ Hid (∃ n, wr = w.drewN n)) (fun q _ => l1.length - (intOf q).toNat)
  case atStart => exact ⟨0, by omega, rfl, Lib.hid (by simp), Lib.hid ⟨0, rfl⟩⟩
  case round =>
    obtain ⟨i, hi, rfl, hp, hw⟩ := hrel
    by_cases hlt : i < l1.length
    · have hlt2 : i < l2.length := by rw [HN.out]; exact hlt
      obtain ⟨m, hm⟩ := hw.out
      have c1a := H1.out (i * 2) _ (rcells_at l1 i hlt).1
      have c1b := H1.out (i * 2 + 1) _ (rcells_at l1 i hlt).2
      have c2a := H2.out (i * 2) _ (rcells_at l2 i hlt2).1
      have c2b := H2.out (i * 2 + 1) _ (rcells_at l2 i hlt2).2
      generalize hx : l1.getD i (0, 0) = x at c1a c1b
      generalize hy : l2.getD i (0, 0) = y at c2a c2b
      have HX := Lib.hid hx
      have HY := Lib.hid hy
      obtain ⟨x1, x2⟩ := x
      obtain ⟨y1, y2⟩ := y
      have e1 : wr.cell? = w.cell? := by rw [hm]; rfl
      rw [← e1] at c1a c1b c2a c2b
      simp only [← Nat.add_assoc] at c1b c2b
      clear hx hy hm e1
      have i0 : (0 : Int) ≤ (i : Int) := by omega
      have i1 : (i : Int) < l1.length := by omega
      by_cases he : x1 = y1 ∧ x2 = y2
      · obtain ⟨rfl, rfl⟩ := he
        go_wp2_with fail
        go_quiet (fail)
        go_wp2_with fail
        go_roundw
        case rel =>
          refine ⟨i + 1, by omega, by go_num, ?_, ?_⟩
          · refine Lib.hid ?_
            rw [List.take_succ_eq_append_getElem hlt, List.take_succ_eq_append_getElem hlt2, hp.out]
            have := HX.out; have h2 := HY.out
            simp only [List.getD, List.getElem?_eq_getElem hlt, List.getElem?_eq_getElem hlt2, Option.getD_some] at this h2
            rw [this, h2]
          · obtain ⟨m, rfl⟩ := hw.out
            exact Lib.hid ⟨m + nq, World.drewN_drewN _ _ _⟩
        case measure => simp [intOf]; omega
      · have hne : Hid ((l1 == l2) = false) := by
          refine Lib.hid ?_
          rw [beq_eq_false_iff_ne]
          intro h
          rw [h] at HX
          have e := HX.out.symm.trans HY.out
          exact he ⟨congrArg Prod.fst e, congrArg Prod.snd e⟩
        by_cases hx1 : x1 = y1
        · subst hx1
          have hb : (x2 == y2) = false := by rw [beq_eq_false_iff_ne]; intro h; exact he ⟨rfl, h⟩
          clear he
          go_wp2_with fail
          go_quiet (fail)
          go_wp2_with fail
          go_ret
          refine ⟨by rw [hne.out]; rfl, ?_⟩
          obtain ⟨m, rfl⟩ := hw.out
          exact ⟨m + nq, World.drewN_drewN _ _ _⟩
        · have hb : (x1 == y1) = false := by rw [beq_eq_false_iff_ne]; exact hx1
          clear he hx1
          go_wp2_with fail
          go_quiet (fail)
          go_wp2_with fail
          go_ret
          refine ⟨by rw [hne.out]; rfl, ?_⟩
          obtain ⟨m, rfl⟩ := hw.out
          exact ⟨m + nq, World.drewN_drewN _ _ _⟩
    · have heq : Hid ((l1 == l2) = true) := by
        refine Lib.hid ?_
        rw [beq_iff_eq]
        have := hp.out
        rwa [List.take_of_length_le (by omega), List.take_of_length_le (by rw [HN.out]; omega)] at this
      go_wp2_with fail
      go_ret
      exact ⟨by rw [heq.out]; rfl, hw.out⟩

theorem same_any (w : World) (v1 v2 : Value) (l1 l2 : RL) (h1 : RunsAt w v1 l1) (h2 : RunsAt w v2 l2) (hn1 : l1.length ≤ 9223372036854775807) (hn2 : l2.length ≤ 9223372036854775807) :
    Calls Try.prog 18 #[v1, v2] w fun e w' => e = .returned (.bool (l1 == l2)) ∧ ∃ n, w' = w.drewN n := by
  have hs1 : ∃ a c, v1 = .slice a l1.length c := by
    rcases h1 with ⟨rfl, rfl⟩ | ⟨b, o, c, rfl, _⟩
    · exact ⟨_, _, rfl⟩
    · exact ⟨_, _, rfl⟩
  have hs2 : ∃ a c, v2 = .slice a l2.length c := by
    rcases h2 with ⟨rfl, rfl⟩ | ⟨b, o, c, rfl, _⟩
    · exact ⟨_, _, rfl⟩
    · exact ⟨_, _, rfl⟩
  by_cases hn : l1.length = l2.length
  · by_cases h0 : l1.length = 0
    · obtain ⟨a1, c1, rfl⟩ := hs1
      obtain ⟨a2, c2, rfl⟩ := hs2
      have e1 := List.eq_nil_of_length_eq_zero h0
      have e2 := List.eq_nil_of_length_eq_zero (hn ▸ h0)
      subst e1; subst e2
      exact (same_zero a1 a2 c1 c2 w).mono fun e w' ⟨he, hw⟩ => ⟨by rw [he]; rfl, hw⟩
    · rcases h1 with ⟨_, rfl⟩ | ⟨b1, o1, c1, rfl, g1⟩
      · simp at h0
      rcases h2 with ⟨_, rfl⟩ | ⟨b2, o2, c2, rfl, g2⟩
      · simp at hn; simp [hn] at h0
      rw [← hn]
      exact same_some w b1 o1 c1 b2 o2 c2 l1 l2 hn.symm hn1 g1 g2
  · obtain ⟨a1, c1, rfl⟩ := hs1
    obtain ⟨a2, c2, rfl⟩ := hs2
    refine (same_no a1 a2 _ _ c1 c2 hn hn1 hn2 w).mono fun e w' ⟨he, hw⟩ => ⟨?_, hw⟩
    have : (l1 == l2) = false := by rw [beq_eq_false_iff_ne]; intro h; exact hn (by rw [h])
    rw [he, this]

end Go.Proofs.Ytgpjldmndibalaa
