/- RunsNormal's walk. -/
import Derived.Test.YtkpnimekhekpmaaRunsRead
namespace Go.Proofs.Ytkpnimekhekpmaa
open Go Go.RowKit

theorem OwnRuns.slice {B : Nat} {w : World} {v : Value} {l : RL} (h : OwnRuns B w v l) : ∃ ad n c, v = .slice ad n c := by
  rcases h.form with ⟨rfl, _⟩ | ⟨g, co, rfl, _⟩
  · exact ⟨_, _, _, rfl⟩
  · exact ⟨_, _, _, rfl⟩
theorem okTo_row (l : RL) : ∀ n, n ≤ l.length → okTo l n = true → Runs.Row (l.take n)
  | 0, _, _ => by rw [List.take_zero]; trivial
  | n + 1, hn, h => by
    unfold okTo at h
    simp only [Bool.and_eq_true, decide_eq_true_eq, Bool.or_eq_true, beq_iff_eq] at h
    have h1 := okTo_row l n (by omega) h.1.1
    rw [List.take_succ_eq_append_getElem (by omega : n < l.length)]
    have e : l.getD n (0, 0) = l[n] := by simp [List.getD, show n < l.length by omega]
    rw [e] at h
    refine Runs.row_snoc h1 h.1.2 (fun y hy => ?_)
    rcases h.2 with h2 | h2
    · subst h2; simp at hy
    · obtain ⟨m, rfl⟩ : ∃ m, n = m + 1 := by
        cases n with
        | zero => simp at hy
        | succ m => exact ⟨m, rfl⟩
      rw [Nat.add_sub_cancel] at h2
      have e2 : l.getD m (0, 0) = l[m] := by simp [List.getD, show m < l.length by omega]
      rw [e2] at h2
      rw [List.take_succ_eq_append_getElem (by omega : m < l.length)] at h1 hy
      obtain ⟨_, rz, hz⟩ := Runs.row_append_iff.1 h1
      rcases List.mem_append.1 hy with h3 | h3
      · have h4 := hz y h3 l[m] (by simp)
        have h5 := rz.1
        unfold Runs.may at h5
        unfold Runs.fin at *
        omega
      · obtain rfl := List.mem_singleton.1 h3
        exact h2
theorem row_okTo (l : RL) (h : Runs.Row l) : ∀ n, n ≤ l.length → okTo l n = true
  | 0, _ => rfl
  | n + 1, hn => by
    unfold okTo
    rw [row_okTo l h n (by omega), Bool.true_and]
    have e : l.getD n (0, 0) = l[n] := by simp [List.getD, show n < l.length by omega]
    rw [e, decide_eq_true (h.may _ (List.getElem_mem _)), Bool.true_and]
    cases n with
    | zero => rfl
    | succ m =>
      rw [Nat.add_sub_cancel]
      have e2 : l.getD m (0, 0) = l[m] := by simp [List.getD, show m < l.length by omega]
      rw [e2]
      have h1 : Runs.Row (l.take (m + 1) ++ l.drop (m + 1)) := by rwa [List.take_append_drop]
      have h2 := (Runs.row_append_iff.1 h1).2.2 l[m] (by rw [List.take_succ_eq_append_getElem (show m < l.length by omega)]; exact List.mem_append_right _ (List.mem_singleton.2 rfl)) l[m + 1] (by rw [List.drop_eq_getElem_cons (show m + 1 < l.length by omega)]; exact List.mem_cons_self)
      simp [h2]
theorem check_row {l : RL} : okTo l l.length = true ↔ Runs.Row l :=
  ⟨fun h => by have := okTo_row l l.length (Nat.le_refl _) h; rwa [List.take_length] at this, fun h => row_okTo l h _ (Nat.le_refl _)⟩
theorem hasB_same {a b : RL} (i : Int) (h : Runs.mem a i ↔ Runs.mem b i) : hasB a i = hasB b i := by
  cases h1 : hasB a i
  · cases h2 : hasB b i
    · rfl
    · rw [(hasB_mem a i).2 (h.2 ((hasB_mem b i).1 h2))] at h1; cases h1
  · exact ((hasB_mem b i).2 (h.1 ((hasB_mem a i).1 h1))).symm
theorem hasB_norm (l : RL) (i : Int) : hasB (Runs.normR l) i = hasB l i := hasB_same i ((Runs.normR_spec l).2 i)

set_option maxRecDepth 100000 in
set_option maxHeartbeats 4000000 in
theorem RunsNormal_walk {w : World} (ad : Option Addr) (cap : Nat) (l : RL) (i : Int) (h : RunsIn w (.slice ad l.length cap) l) (hi : -9223372036854775808 ≤ i ∧ i ≤ 9223372036854775807) :
    Calls Try.prog 6 #[.slice ad l.length cap, .int .i64 i] w fun e w' => e = .returned (.bool true) ∧ Below w.heap.size w w' := by
  have hlen := h.len
  by_cases hbig : 200 < l.length
  · go_enter Try.func6, Try.ntmps6
    go_wp2_with fail
    go_ret
    exact ⟨rfl, Below.refl _ _⟩
  · have hnl := norm_len l
    have H := Lib.hid h
    have hRow := Lib.hid (Runs.normR_spec l).1
    have hHB := Lib.hid (hasB_norm l i)
    have hNN := Lib.hid (Runs.normR_row _ (Runs.normR_spec l).1)
    have q0 := Lib.hid (normal_any _ l w h.small h.at_ (by omega))
    have hLL := Lib.hid (fun (hr : Runs.Row l) => Runs.normR_row l hr)
    clear h hlen
    generalize Runs.normR l = N at *
    --WALK
    have L_0 := Lib.hid H.out.at_
    go_enter Try.func6, Try.ntmps6
    have q1 := Lib.hid (q0.out)
    go_wp2_with fail
    refine q1.out.mono ?_
    rintro e w1 ⟨v1, rfl, o1, b1⟩
    have L_1 := Lib.hid (L_0.out.below (B := 0) b1)
    have Y1 := Lib.hid b1
    have N_1 := Lib.hid (OwnRuns.at o1)
    obtain ⟨ad1, n1, c1, rfl⟩ := o1.slice
    clear o1 b1 q1 L_0
    have q2 := Lib.hid (check_any _ N _ (Smalls.row hRow.out) N_1.out (by omega))
    rw [check_row.2 hRow.out] at q2
    go_wp2_with fail
    refine q2.out.mono ?_
    rintro e w2 ⟨rfl, b2⟩
    have L_2 := Lib.hid (L_1.out.below (B := 0) b2)
    have N_2 := Lib.hid (N_1.out.below (B := 0) b2)
    have Y2 := Lib.hid (Y1.out.trans (b2.mono Y1.out.size))
    clear b2 q2 L_1 N_1 Y1
    have q3 := Lib.hid (has_any _ N i _ (Smalls.row hRow.out) N_2.out (by omega) hi)
    rw [hHB.out] at q3
    go_wp2_with fail
    refine q3.out.mono ?_
    rintro e w3 ⟨rfl, b3⟩
    have L_3 := Lib.hid (L_2.out.below (B := 0) b3)
    have N_3 := Lib.hid (N_2.out.below (B := 0) b3)
    have Y3 := Lib.hid (Y2.out.trans (b3.mono Y2.out.size))
    clear b3 q3 L_2 N_2 Y2
    have q4 := Lib.hid (has_any _ l i _ H.out.small L_3.out (by omega) hi)
    go_wp2_with fail
    refine q4.out.mono ?_
    rintro e w4 ⟨rfl, b4⟩
    have L_4 := Lib.hid (L_3.out.below (B := 0) b4)
    have N_4 := Lib.hid (N_3.out.below (B := 0) b4)
    have Y4 := Lib.hid (Y3.out.trans (b4.mono Y3.out.size))
    clear b4 q4 L_3 N_3 Y3
    have q5 := Lib.hid (normal_any _ N _ (Smalls.row hRow.out) N_4.out (by omega))
    rw [hNN.out] at q5
    go_wp2_with fail
    refine q5.out.mono ?_
    rintro e w5 ⟨v5, rfl, o5, b5⟩
    have L_5 := Lib.hid (L_4.out.below (B := 0) b5)
    have N_5 := Lib.hid (N_4.out.below (B := 0) b5)
    have Y5 := Lib.hid (Y4.out.trans (b5.mono Y4.out.size))
    have M_5 := Lib.hid (OwnRuns.at o5)
    obtain ⟨ad5, n5, c5, rfl⟩ := o5.slice
    clear o5 b5 q5 L_4 N_4 Y4
    have q6 := Lib.hid (same_b _ _ _ N N M_5.out N_5.out (by omega) (by omega) true (by simp))
    go_wp2_with fail
    refine q6.out.mono ?_
    rintro e w6 ⟨rfl, b6⟩
    have L_6 := Lib.hid (L_5.out.below (B := 0) b6)
    have N_6 := Lib.hid (N_5.out.below (B := 0) b6)
    have Y6 := Lib.hid (Y5.out.trans (b6.mono Y5.out.size))
    clear b6 q6 L_5 N_5 M_5 Y5
    by_cases hc : okTo l l.length = true
    · have q7 := Lib.hid (check_any _ l _ H.out.small L_6.out (by omega))
      rw [hc] at q7
      go_wp2_with fail
      refine q7.out.mono ?_
      rintro e w7 ⟨rfl, b7⟩
      have L_7 := Lib.hid (L_6.out.below (B := 0) b7)
      have N_7 := Lib.hid (N_6.out.below (B := 0) b7)
      have Y7 := Lib.hid (Y6.out.trans (b7.mono Y6.out.size))
      clear b7 q7 L_6 N_6 Y6
      have q8 := Lib.hid (same_b _ _ _ N l N_7.out L_7.out (by omega) (by omega) true (by rw [hLL.out (check_row.1 hc)]; simp))
      go_wp2_with fail
      refine q8.out.mono ?_
      rintro e w8 ⟨rfl, b8⟩
      have L_8 := Lib.hid (L_7.out.below (B := 0) b8)
      have Y8 := Lib.hid (Y7.out.trans (b8.mono Y7.out.size))
      clear b8 q8 L_7 N_7 Y7
      have q9 := Lib.hid (alive_any w8)
      go_wp2_with fail
      refine q9.out.mono ?_
      rintro e w9 ⟨rfl, b9⟩
      have L_9 := Lib.hid (L_8.out.below (B := 0) b9)
      have Y9 := Lib.hid (Y8.out.trans (b9.mono Y8.out.size))
      clear b9 q9 L_8 Y8
      go_wp2_with fail
      go_ret
      exact ⟨rfl, Y9.out⟩
    · have hc2 : okTo l l.length = false := by simpa using hc
      have q7 := Lib.hid (check_any _ l _ H.out.small L_6.out (by omega))
      rw [hc2] at q7
      go_wp2_with fail
      refine q7.out.mono ?_
      rintro e w7 ⟨rfl, b7⟩
      have L_7 := Lib.hid (L_6.out.below (B := 0) b7)
      have N_7 := Lib.hid (N_6.out.below (B := 0) b7)
      have Y7 := Lib.hid (Y6.out.trans (b7.mono Y6.out.size))
      clear b7 q7 L_6 N_6 Y6
      have q8 := Lib.hid (alive_any w7)
      go_wp2_with fail
      refine q8.out.mono ?_
      rintro e w8 ⟨rfl, b8⟩
      have L_8 := Lib.hid (L_7.out.below (B := 0) b8)
      have N_8 := Lib.hid (N_7.out.below (B := 0) b8)
      have Y8 := Lib.hid (Y7.out.trans (b8.mono Y7.out.size))
      clear b8 q8 L_7 N_7 Y7
      go_wp2_with fail
      go_ret
      exact ⟨rfl, Y8.out⟩

end Go.Proofs.Ytkpnimekhekpmaa
