/- Whether two rows of exts are the same. -/
import Derived.Test.YtgpjldmndibalaaExtsAt
namespace Go.Proofs.Ytgpjldmndibalaa
set_option linter.unusedVariables false
open Go Go.RowKit

theorem esame_no (a1 a2 : Option Addr) (n1 n2 c1 c2 : Nat) (h : n1 ≠ n2) (h1 : n1 ≤ 9223372036854775807) (h2 : n2 ≤ 9223372036854775807) (w : World) :
    Calls Try.prog 30 #[.slice a1 n1 c1, .slice a2 n2 c2] w fun e w' => e = .returned (.bool false) ∧ ∃ n, w' = w.drewN n := by
  have hb : ((n1 : Int) != (n2 : Int)) = true := by rw [bne_iff_ne]; omega
  go_enter Try.func30, Try.ntmps30
  go_wp2_with fail
  go_ret
  exact ⟨rfl, 0, rfl⟩

theorem esame_zero (a1 a2 : Option Addr) (c1 c2 : Nat) (w : World) :
    Calls Try.prog 30 #[.slice a1 0 c1, .slice a2 0 c2] w fun e w' => e = .returned (.bool true) ∧ ∃ n, w' = w.drewN n := by
  go_enter Try.func30, Try.ntmps30
  go_wp2_with fail
  refine wp_loop_rounds 1 ?_
  rw [rounds_succ]
  go_wp2_with fail
  go_ret
  exact ⟨rfl, 0, rfl⟩

set_option maxHeartbeats 2000000 in
theorem esame_some (w : World) (b1 o1 c1 b2 o2 c2 : Nat) (l1 l2 : EL) (hn : l2.length = l1.length) (hb : l1.length ≤ 9223372036854775807)
    (h1 : ∀ j u, (ecells l1)[j]? = some u → w.cell? ⟨b1, o1 + j, none⟩ = some u) (h2 : ∀ j u, (ecells l2)[j]? = some u → w.cell? ⟨b2, o2 + j, none⟩ = some u) :
    Calls Try.prog 30 #[.slice (some ⟨b1, o1, none⟩) l1.length c1, .slice (some ⟨b2, o2, none⟩) l1.length c2] w fun e w' => e = .returned (.bool (l1 == l2)) ∧ ∃ n, w' = w.drewN n := by
  have H1 := Lib.hid h1
  have H2 := Lib.hid h2
  have HN := Lib.hid hn
  clear h1 h2 hn
  go_enter Try.func30, Try.ntmps30
  go_wp2_with fail
  go_loopw [5] (fun q wr => ∃ i : Nat, i ≤ l1.length ∧ q = .int .i64 i ∧ Hid (l1.take i = l2.take i) ∧ Hid (∃ n, wr = w.drewN n)) (fun q _ => l1.length - (intOf q).toNat)
  case atStart => exact ⟨0, by omega, rfl, Lib.hid (by simp), Lib.hid ⟨0, rfl⟩⟩
  case round =>
    obtain ⟨i, hi, rfl, hp, hw⟩ := hrel
    by_cases hlt : i < l1.length
    · have hlt2 : i < l2.length := by rw [HN.out]; exact hlt
      obtain ⟨m, hm⟩ := hw.out
      have c1a := H1.out (i * 3) _ (ecells_at l1 i hlt).1
      have c1b := H1.out (i * 3 + 1) _ (ecells_at l1 i hlt).2.1
      have c1c := H1.out (i * 3 + 2) _ (ecells_at l1 i hlt).2.2
      have c2a := H2.out (i * 3) _ (ecells_at l2 i hlt2).1
      have c2b := H2.out (i * 3 + 1) _ (ecells_at l2 i hlt2).2.1
      have c2c := H2.out (i * 3 + 2) _ (ecells_at l2 i hlt2).2.2
      generalize hx : l1.getD i (0, 0, 0) = x at c1a c1b c1c
      generalize hy : l2.getD i (0, 0, 0) = y at c2a c2b c2c
      have HX := Lib.hid hx
      have HY := Lib.hid hy
      obtain ⟨x1, x2, x3⟩ := x
      obtain ⟨y1, y2, y3⟩ := y
      have e1 : wr.cell? = w.cell? := by rw [hm]; rfl
      rw [← e1] at c1a c1b c1c c2a c2b c2c
      simp only [← Nat.add_assoc] at c1b c1c c2b c2c
      clear hx hy hm e1
      have i0 : (0 : Int) ≤ (i : Int) := by omega
      have i1 : (i : Int) < l1.length := by omega
      by_cases he : x1 = y1 ∧ x2 = y2 ∧ x3 = y3
      · obtain ⟨rfl, rfl, rfl⟩ := he
        go_wp2_with fail
        go_quiet (fail)
        go_wp2_with fail
        go_roundw
        case rel =>
          refine ⟨i + 1, by omega, by go_num, ?_, ?_⟩
          · refine Lib.hid ?_
            rw [List.take_succ_eq_append_getElem hlt, List.take_succ_eq_append_getElem hlt2, hp.out]
            have := HX.out; have h2 := HY.out
            simp only [List.getD, List.getElem?_eq_getElem hlt, List.getElem?_eq_getElem hlt2, Option.getD_some] at this h2
            rw [this, h2]
          · obtain ⟨m, rfl⟩ := hw.out
            exact Lib.hid ⟨m + nq, World.drewN_drewN _ _ _⟩
        case measure => simp [intOf]; omega
      · have hne : Hid ((l1 == l2) = false) := by
          refine Lib.hid ?_
          rw [beq_eq_false_iff_ne]
          intro h
          rw [h] at HX
          have e := HX.out.symm.trans HY.out
          exact he ⟨congrArg Prod.fst e, congrArg (fun z => z.2.1) e, congrArg (fun z => z.2.2) e⟩
        by_cases hx1 : x1 = y1
        · subst hx1
          by_cases hx2 : x2 = y2
          · subst hx2
            have hb : (x3 == y3) = false := by rw [beq_eq_false_iff_ne]; intro h; exact he ⟨rfl, rfl, h⟩
            clear he
            go_wp2_with fail
            go_quiet (fail)
            go_wp2_with fail
            go_ret
            refine ⟨by rw [hne.out]; rfl, ?_⟩
            obtain ⟨m, rfl⟩ := hw.out
            exact ⟨m + nq, World.drewN_drewN _ _ _⟩
          · have hb : (x2 == y2) = false := by rw [beq_eq_false_iff_ne]; exact hx2
            clear he hx2
            go_wp2_with fail
            go_quiet (fail)
            go_wp2_with fail
            go_ret
            refine ⟨by rw [hne.out]; rfl, ?_⟩
            obtain ⟨m, rfl⟩ := hw.out
            exact ⟨m + nq, World.drewN_drewN _ _ _⟩
        · have hb : (x1 == y1) = false := by rw [beq_eq_false_iff_ne]; exact hx1
          clear he hx1
          go_wp2_with fail
          go_quiet (fail)
          go_wp2_with fail
          go_ret
          refine ⟨by rw [hne.out]; rfl, ?_⟩
          obtain ⟨m, rfl⟩ := hw.out
          exact ⟨m + nq, World.drewN_drewN _ _ _⟩
    · have heq : Hid ((l1 == l2) = true) := by
        refine Lib.hid ?_
        rw [beq_iff_eq]
        have := hp.out
        rwa [List.take_of_length_le (by omega), List.take_of_length_le (by rw [HN.out]; omega)] at this
      go_wp2_with fail
      go_ret
      exact ⟨by rw [heq.out]; rfl, hw.out⟩

theorem esame_any (w : World) (v1 v2 : Value) (l1 l2 : EL) (h1 : ExtsAt w v1 l1) (h2 : ExtsAt w v2 l2) (hn1 : l1.length ≤ 9223372036854775807) (hn2 : l2.length ≤ 9223372036854775807) :
    Calls Try.prog 30 #[v1, v2] w fun e w' => e = .returned (.bool (l1 == l2)) ∧ ∃ n, w' = w.drewN n := by
  have hs1 : ∃ a c, v1 = .slice a l1.length c := by
    rcases h1 with ⟨rfl, rfl⟩ | ⟨b, o, c, rfl, _⟩
    · exact ⟨_, _, rfl⟩
    · exact ⟨_, _, rfl⟩
  have hs2 : ∃ a c, v2 = .slice a l2.length c := by
    rcases h2 with ⟨rfl, rfl⟩ | ⟨b, o, c, rfl, _⟩
    · exact ⟨_, _, rfl⟩
    · exact ⟨_, _, rfl⟩
  by_cases hn : l1.length = l2.length
  · by_cases h0 : l1.length = 0
    · obtain ⟨a1, c1, rfl⟩ := hs1
      obtain ⟨a2, c2, rfl⟩ := hs2
      have e1 := List.eq_nil_of_length_eq_zero h0
      have e2 := List.eq_nil_of_length_eq_zero (hn ▸ h0)
      subst e1; subst e2
      exact (esame_zero a1 a2 c1 c2 w).mono fun e w' ⟨he, hw⟩ => ⟨by rw [he]; rfl, hw⟩
    · rcases h1 with ⟨_, rfl⟩ | ⟨b1, o1, c1, rfl, g1⟩
      · simp at h0
      rcases h2 with ⟨_, rfl⟩ | ⟨b2, o2, c2, rfl, g2⟩
      · simp at hn; simp [hn] at h0
      rw [← hn]
      exact esame_some w b1 o1 c1 b2 o2 c2 l1 l2 hn.symm hn1 g1 g2
  · obtain ⟨a1, c1, rfl⟩ := hs1
    obtain ⟨a2, c2, rfl⟩ := hs2
    refine (esame_no a1 a2 _ _ c1 c2 hn hn1 hn2 w).mono fun e w' ⟨he, hw⟩ => ⟨?_, hw⟩
    have : (l1 == l2) = false := by rw [beq_eq_false_iff_ne]; intro h; exact hn (by rw [h])
    rw [he, this]
theorem esame_b (w : World) (v1 v2 : Value) (l1 l2 : EL) (h1 : ExtsAt w v1 l1) (h2 : ExtsAt w v2 l2) (hn1 : l1.length ≤ 9223372036854775807) (hn2 : l2.length ≤ 9223372036854775807) (r : Bool) (hr : (l1 == l2) = r) :
    Calls Try.prog 30 #[v1, v2] w fun e w' => e = .returned (.bool r) ∧ Below w.heap.size w w' := by
  refine (esame_any w v1 v2 l1 l2 h1 h2 hn1 hn2).mono ?_
  rintro e w' ⟨rfl, k, rfl⟩
  exact ⟨by rw [hr], below_dr (Below.refl _ _)⟩

end Go.Proofs.Ytgpjldmndibalaa
