/- RunsCount's walk. -/
import Derived.Test.YtkpnimekhekpmaaRunsCounts
namespace Go.Proofs.Ytkpnimekhekpmaa
open Go Go.RowKit

theorem OwnInts.slice {B : Nat} {w : World} {v : Value} {l : List Int} (h : OwnInts B w v l) : ∃ ad c, v = .slice ad l.length c := by
  rcases h.2 with ⟨rfl, h0⟩ | ⟨g, cap, cur, rfl, _⟩
  · exact ⟨none, 0, by rw [h0]⟩
  · exact ⟨_, _, rfl⟩
theorem sortI_up (l : List Int) (i : Nat) (h : i + 1 < (sortI l).length) : (sortI l).getD i 0 ≤ (sortI l).getD (i + 1) 0 := by
  have hp : (sortI l).Pairwise (fun x y => decide (x ≤ y) = true) := List.pairwise_mergeSort (fun a b c h1 h2 => by simp at *; omega) (fun a b => by simp; omega) l
  rw [List.pairwise_iff_getElem] at hp
  have := hp i (i + 1) (by omega) h (by omega)
  simpa [List.getD, h, show i < (sortI l).length by omega] using this

set_option maxRecDepth 100000 in
set_option maxHeartbeats 8000000 in
theorem RunsCount_walk {w : World} (ad : Option Addr) (cap : Nat) (a : RL) (bd : Option Addr) (bcap : Nat) (b : RL) (h1 : RunsIn w (.slice ad a.length cap) a) (h2 : RunsIn w (.slice bd b.length bcap) b) :
    Calls Try.prog 9 #[.slice ad a.length cap, .slice bd b.length bcap] w fun e w' => e = .returned (.bool true) ∧ Below w.heap.size w w' := by
  have l1 := h1.len
  have l2 := h2.len
  by_cases ea : 100 < (a.length : Int)
  · go_enter Try.func9, Try.ntmps9
    go_wp2_with fail
    go_ret
    exact ⟨rfl, Below.refl _ _⟩
  by_cases eb : 100 < (b.length : Int)
  · go_enter Try.func9, Try.ntmps9
    go_wp2_with fail
    go_ret
    exact ⟨rfl, Below.refl _ _⟩
  have S1 := Lib.hid h1.small
  have S2 := Lib.hid h2.small
  have z1 : (a.length : Int) ≤ 100 := by omega
  have z2 : (b.length : Int) ≤ 100 := by omega
  have len_A : Hid (a.length ≤ 100) := Lib.hid (by omega)
  have len_B : Hid (b.length ≤ 100) := Lib.hid (by omega)
  have len_E : Hid ([((0 : Int), (1099511627776 : Int))].length ≤ 1) := Lib.hid (by decide)
  have bE : Below w.heap.size w (w.alloc (.cells #[.int .i64 0, .int .i64 1099511627776] 30)) := (Below.refl _ _).alloc (Nat.le_refl _) _
  have A_0 := Lib.hid (h1.at_.below (B := 0) bE)
  have B_0 := Lib.hid (h2.at_.below (B := 0) bE)
  have E_0 := Lib.hid (runsAt_lit w [(0, 1099511627776)] #[.int .i64 0, .int .i64 1099511627776] rfl 1)
  have Y0 := Lib.hid bE
  clear h1 h2 bE
  have hXt : ∀ (l : RL) i, Runs.mem (Runs.meetR l [(0, 1099511627776)]) i → i < (1099511627776 : Int) := fun l i hi => by
    obtain ⟨x, hx, h⟩ := ((meet_mem _ _ i).1 hi).2
    obtain rfl := List.mem_singleton.1 hx
    have := h.2.2
    unfold Runs.fin at this
    omega
  have hcs0 := counts_M (Runs.meetR a [(0, 1099511627776)]) (Runs.meetR b [(0, 1099511627776)]) 1099511627776 (by decide) (by decide) (hXt a) (hXt b)
  have hcs := hcs0.1
  have hbX := hcs0.2
  clear hcs0
  have bx := count_top (Runs.meetR a [(0, 1099511627776)])
  have by_ := count_top (Runs.meetR b [(0, 1099511627776)])
  have bu := count_top (unionR (Runs.meetR a [(0, 1099511627776)]) (Runs.meetR b [(0, 1099511627776)]))
  have bm := count_top (Runs.meetR (Runs.meetR a [(0, 1099511627776)]) (Runs.meetR b [(0, 1099511627776)]))
  have bn := count_top (Runs.minusR (Runs.meetR a [(0, 1099511627776)]) (Runs.meetR b [(0, 1099511627776)]))
  have br := count_top (Runs.restR (Runs.meetR a [(0, 1099511627776)]) 1099511627776)
  have hcl := Lib.hid (count_lens (Runs.meetR a [(0, 1099511627776)]))
  have hsm := Lib.hid (fun j => sumL_take (lensR (Runs.meetR a [(0, 1099511627776)])) (fun x hx => by have := lens_pos _ x hx; omega) j)
  have hup := Lib.hid (fun j => sortI_up ((Runs.normR (Runs.meetR a [(0, 1099511627776)])).map (·.2)) j)
  have hll : (lensR (Runs.meetR a [(0, 1099511627776)])).length ≤ 201 := by
    have h1 := meet_len a [(0, 1099511627776)]
    have h2 := norm_len (Runs.meetR a [(0, 1099511627776)])
    unfold lensR
    rw [sortI_len, List.length_map]
    simp only [List.length_cons, List.length_nil] at h1
    omega
  have eN : sortI ((Runs.normR (Runs.meetR a [(0, 1099511627776)])).map (·.2)) = lensR (Runs.meetR a [(0, 1099511627776)]) := rfl
  rw [eN] at hup
  clear eN hXt
  obtain ⟨n, hn⟩ : ∃ n, Hid (countR (Runs.meetR a [(0, 1099511627776)]) = n) := ⟨_, Lib.hid rfl⟩
  obtain ⟨ny, hny⟩ : ∃ n, Hid (countR (Runs.meetR b [(0, 1099511627776)]) = n) := ⟨_, Lib.hid rfl⟩
  obtain ⟨cu, hcu⟩ : ∃ n, Hid (countR (unionR (Runs.meetR a [(0, 1099511627776)]) (Runs.meetR b [(0, 1099511627776)])) = n) := ⟨_, Lib.hid rfl⟩
  obtain ⟨cm, hcm⟩ : ∃ n, Hid (countR (Runs.meetR (Runs.meetR a [(0, 1099511627776)]) (Runs.meetR b [(0, 1099511627776)])) = n) := ⟨_, Lib.hid rfl⟩
  obtain ⟨cn, hcn⟩ : ∃ n, Hid (countR (Runs.minusR (Runs.meetR a [(0, 1099511627776)]) (Runs.meetR b [(0, 1099511627776)])) = n) := ⟨_, Lib.hid rfl⟩
  obtain ⟨cr, hcr⟩ : ∃ n, Hid (countR (Runs.restR (Runs.meetR a [(0, 1099511627776)]) 1099511627776) = n) := ⟨_, Lib.hid rfl⟩
  obtain ⟨N, hN⟩ : ∃ N, Hid (lensR (Runs.meetR a [(0, 1099511627776)]) = N) := ⟨_, Lib.hid rfl⟩
  rw [hn.out, hny.out, hcu.out, hcm.out, hcn.out, hcr.out] at hcs
  rw [hn.out] at bx hcl
  rw [hn.out, hny.out] at hbX
  rw [hny.out] at by_
  rw [hcu.out] at bu
  rw [hcm.out] at bm
  rw [hcn.out] at bn
  rw [hcr.out] at br
  rw [hN.out] at hcl hsm hup hll
  unfold Runs.top at bx by_ bu bm bn br
  have w1 : IntKind.i64.wrap (cu + cm) = cu + cm := IntWalk.i64_in _ (by omega)
  have w2 : IntKind.i64.wrap (n + ny) = n + ny := IntWalk.i64_in _ (by omega)
  have w3 : IntKind.i64.wrap (cn + cm) = cn + cm := IntWalk.i64_in _ (by omega)
  have w4 : IntKind.i64.wrap (n + cr) = n + cr := IntWalk.i64_in _ (by omega)
  have e1 := Lib.hid hcs.1
  have e2 := Lib.hid hcs.2.1
  have e3 := Lib.hid hcs.2.2
  have W1 := Lib.hid w1
  have W2 := Lib.hid w2
  have W3 := Lib.hid w3
  have W4 := Lib.hid w4
  clear hcs w1 w2 w3 w4 by_ bu bm bn br
  go_enter Try.func9, Try.ntmps9
  have q1 := Lib.hid (meet_any _ _ a [(0, 1099511627776)] _ S1.out (smallB_ok _ (by decide)) A_0.out E_0.out (by have := len_A.out; omega) (by have := len_E.out; omega))
  go_wp2_with fail
  refine q1.out.mono ?_
  rintro e w1 ⟨v1, rfl, o1, b1⟩
  have A_1 := Lib.hid (A_0.out.below (B := 0) b1)
  have B_1 := Lib.hid (B_0.out.below (B := 0) b1)
  have E_1 := Lib.hid (E_0.out.below (B := 0) b1)
  have Y1 := Lib.hid (Y0.out.trans (b1.mono Y0.out.size))
  have X_1 := Lib.hid (OwnRuns.at o1)
  obtain ⟨ad1, n1, c1, rfl⟩ := o1.slice
  clear o1 b1 q1 A_0 B_0 E_0 Y0
  have len_X : Hid ((Runs.meetR a [(0, 1099511627776)]).length ≤ 101) := Lib.hid (by have h0 := meet_len a [(0, 1099511627776)]; have h1 := len_A.out; have h2 := len_E.out; omega)
  have q2 := Lib.hid (meet_any _ _ b [(0, 1099511627776)] _ S2.out (smallB_ok _ (by decide)) B_1.out E_1.out (by have := len_B.out; omega) (by have := len_E.out; omega))
  go_wp2_with fail
  refine q2.out.mono ?_
  rintro e w2 ⟨v2, rfl, o2, b2⟩
  have A_2 := Lib.hid (A_1.out.below (B := 0) b2)
  have B_2 := Lib.hid (B_1.out.below (B := 0) b2)
  have E_2 := Lib.hid (E_1.out.below (B := 0) b2)
  have X_2 := Lib.hid (X_1.out.below (B := 0) b2)
  have Y2 := Lib.hid (Y1.out.trans (b2.mono Y1.out.size))
  have V_2 := Lib.hid (OwnRuns.at o2)
  obtain ⟨ad2, n2, c2, rfl⟩ := o2.slice
  clear o2 b2 q2 A_1 B_1 E_1 X_1 Y1
  have len_V : Hid ((Runs.meetR b [(0, 1099511627776)]).length ≤ 101) := Lib.hid (by have h0 := meet_len b [(0, 1099511627776)]; have h1 := len_B.out; have h2 := len_E.out; omega)
  have q3 := Lib.hid (count_any _ (Runs.meetR a [(0, 1099511627776)]) _ (Smalls.row (meet_row a [(0, 1099511627776)])) X_2.out (by have := len_X.out; omega))
  rw [hn.out] at q3
  go_wp2_with fail
  refine q3.out.mono ?_
  rintro e w3 ⟨rfl, b3⟩
  have X_3 := Lib.hid (X_2.out.below (B := 0) b3)
  have V_3 := Lib.hid (V_2.out.below (B := 0) b3)
  have Y3 := Lib.hid (Y2.out.trans (b3.mono Y2.out.size))
  clear b3 q3 A_2 B_2 E_2 X_2 V_2 Y2
  have q4 := Lib.hid (lengths_any _ (Runs.meetR a [(0, 1099511627776)]) _ (Smalls.row (meet_row a [(0, 1099511627776)])) X_3.out (by have := len_X.out; omega))
  rw [hN.out] at q4
  go_wp2_with fail
  refine q4.out.mono ?_
  rintro e w4 ⟨v4, rfl, o4, b4⟩
  have X_4 := Lib.hid (X_3.out.below (B := 0) b4)
  have V_4 := Lib.hid (V_3.out.below (B := 0) b4)
  have Y4 := Lib.hid (Y3.out.trans (b4.mono Y3.out.size))
  have O := Lib.hid o4
  obtain ⟨ld, lc, rfl⟩ := o4.slice
  clear o4 b4 q4 X_3 V_3 Y3
  go_wp2_with fail
  go_loopw [9, 11] (fun p q wr => ∃ (s : Int) (j : Nat), p = .int .i64 s ∧ q = .int .i64 j ∧ j ≤ N.length ∧ Hid (s = sumL (N.take j)) ∧ Hid (Below w4.heap.size w4 wr)) (fun _ q _ => N.length - (intOf q).toNat)
  case atStart => exact ⟨0, 0, rfl, rfl, by omega, Lib.hid (by simp [sumL]), Lib.hid (Below.refl _ _)⟩
  case round =>
    obtain ⟨s, j, rfl, rfl, hj, hs, hb⟩ := hrel
    by_cases hlt : j < N.length
    · have i0 : (0 : Int) ≤ (j : Int) := by omega
      have i1 : (j : Int) < (N.length : Int) := by omega
      have OB : OwnInts _ wr (.slice ld N.length lc) N := own_belowG O.out hb.out
      obtain ⟨_, g, rfl, c0⟩ := OB.cells j hlt
      have htk : sumL (N.take (j + 1)) = s + N.getD j 0 := by
        rw [List.take_succ_eq_append_getElem hlt, sumL_append, ← hs.out]
        simp [sumL, List.getD, hlt]
      have hb0 := (hsm.out (j + 1))
      rw [htk, hcl.out] at hb0
      have hw : IntKind.i64.wrap (s + N.getD j 0) = s + N.getD j 0 := IntWalk.i64_in _ (by omega)
      have htk' := Lib.hid htk.symm
      clear htk
      by_cases k0 : j = 0
      · have c0' : wr.cell? ⟨g, 0, none⟩ = some (.int .i64 (N.getD j 0)) := by have := c0; rwa [k0] at this ⊢
        have kd : decide ((0 : Int) < (j : Int)) = false := decide_eq_false (by omega)
        generalize N.getD j 0 = x at *
        clear c0
        go_upto_region 11 with fail
        go_quiet (fail)
        have hb2 := Lib.hid (hb.out.trans (below_dr (n := nq) (Below.refl wr.heap.size wr) |>.mono hb.out.size))
        clear hb
        go_wp2_with fail
        go_roundw
        case rel => exact ⟨s + x, j + 1, rfl, by go_num, by omega, htk', hb2⟩
        case measure => simp [intOf]; omega
      · obtain ⟨_, g', e', d0⟩ := OB.cells (j - 1) (by omega)
        cases e'
        have hu := hup.out (j - 1) (by omega)
        rw [show j - 1 + 1 = j by omega] at hu
        have kd : decide ((0 : Int) < (j : Int)) = true := decide_eq_true (by omega)
        have kn : (0 : Int) < (j : Int) := by omega
        have kN : 0 < j := by omega
        have kw : IntKind.i64.wrap ((j : Int) - 1) = ((j - 1 : Nat) : Int) := by
          rw [IntWalk.i64_in _ (by omega)]
          omega
        have kj : ((j - 1 : Nat) : Int) < (N.length : Int) := by omega
        have kj0 : (0 : Int) ≤ ((j - 1 : Nat) : Int) := by omega
        have kf : decide (N.getD j 0 < N.getD (j - 1) 0) = false := decide_eq_false (by omega)
        have kg : ¬ N.getD j 0 < N.getD (j - 1) 0 := by omega
        generalize N.getD j 0 = x at *
        generalize N.getD (j - 1) 0 = y at *
        generalize hJ : j - 1 = j1 at *
        clear hu hup
        go_upto_region 11 with fail
        go_quiet (fail)
        have hb2 := Lib.hid (hb.out.trans (below_dr (n := nq) (Below.refl wr.heap.size wr) |>.mono hb.out.size))
        clear hb
        go_wp2_with fail
        go_roundw
        case rel => exact ⟨s + x, j + 1, rfl, by go_num, by omega, htk', hb2⟩
        case measure => simp [intOf]; omega
    · obtain rfl : j = N.length := by omega
      have hsn : s = n := by
        have h1 := hs.out
        rw [List.take_length, hcl.out] at h1
        exact h1
      subst hsn
      have X_9 := Lib.hid (X_4.out.below (B := 0) hb.out)
      have V_9 := Lib.hid (V_4.out.below (B := 0) hb.out)
      have Y_9 := Lib.hid (Y4.out.trans (hb.out.mono Y4.out.size))
      have OB : OwnInts _ wr (.slice ld N.length lc) N := own_belowG O.out hb.out
      have w1 := W1.out
      have w2 := W2.out
      have w3 := W3.out
      have w4 := W4.out
      have e1' := e1.out
      have e2' := e2.out
      have e3' := e3.out
      by_cases hz : N.length = 0
      · have kd : ¬ (0 : Int) < (N.length : Int) := by omega
        have hlast : N.getLastD 0 = 0 := by rw [List.eq_nil_of_length_eq_zero hz]; rfl
        have HL := Lib.hid hlast
        clear hb OB hs hlast
        have q21 := Lib.hid (union_any _ _ (Runs.meetR a [(0, 1099511627776)]) (Runs.meetR b [(0, 1099511627776)]) _ (Smalls.row (meet_row a [(0, 1099511627776)])) (Smalls.row (meet_row b [(0, 1099511627776)])) X_9.out V_9.out (by have := len_X.out; omega) (by have := len_V.out; omega))
        go_wp2_with fail
        refine q21.out.mono ?_
        rintro e w21 ⟨v21, rfl, o21, b21⟩
        have X_21 := Lib.hid (X_9.out.below (B := 0) b21)
        have V_21 := Lib.hid (V_9.out.below (B := 0) b21)
        have Y21 := Lib.hid (Y_9.out.trans (b21.mono Y_9.out.size))
        have U_21 := Lib.hid (OwnRuns.at o21)
        obtain ⟨ad21, n21, c21, rfl⟩ := o21.slice
        clear o21 b21 q21 X_9 V_9 Y_9
        have len_U : Hid ((unionR (Runs.meetR a [(0, 1099511627776)]) (Runs.meetR b [(0, 1099511627776)])).length ≤ 202) := Lib.hid (by have h0 := union_len (Runs.meetR a [(0, 1099511627776)]) (Runs.meetR b [(0, 1099511627776)]); have h1 := len_X.out; have h2 := len_V.out; omega)
        have q22 := Lib.hid (count_any _ (unionR (Runs.meetR a [(0, 1099511627776)]) (Runs.meetR b [(0, 1099511627776)])) _ (Smalls.row (union_row (Runs.meetR a [(0, 1099511627776)]) (Runs.meetR b [(0, 1099511627776)]))) U_21.out (by have := len_U.out; omega))
        rw [hcu.out] at q22
        go_wp2_with fail
        refine q22.out.mono ?_
        rintro e w22 ⟨rfl, b22⟩
        have X_22 := Lib.hid (X_21.out.below (B := 0) b22)
        have V_22 := Lib.hid (V_21.out.below (B := 0) b22)
        have Y22 := Lib.hid (Y21.out.trans (b22.mono Y21.out.size))
        clear b22 q22 X_21 V_21 U_21 Y21
        have q23 := Lib.hid (meet_any _ _ (Runs.meetR a [(0, 1099511627776)]) (Runs.meetR b [(0, 1099511627776)]) _ (Smalls.row (meet_row a [(0, 1099511627776)])) (Smalls.row (meet_row b [(0, 1099511627776)])) X_22.out V_22.out (by have := len_X.out; omega) (by have := len_V.out; omega))
        go_wp2_with fail
        refine q23.out.mono ?_
        rintro e w23 ⟨v23, rfl, o23, b23⟩
        have X_23 := Lib.hid (X_22.out.below (B := 0) b23)
        have V_23 := Lib.hid (V_22.out.below (B := 0) b23)
        have Y23 := Lib.hid (Y22.out.trans (b23.mono Y22.out.size))
        have M_23 := Lib.hid (OwnRuns.at o23)
        obtain ⟨ad23, n23, c23, rfl⟩ := o23.slice
        clear o23 b23 q23 X_22 V_22 Y22
        have len_M : Hid ((Runs.meetR (Runs.meetR a [(0, 1099511627776)]) (Runs.meetR b [(0, 1099511627776)])).length ≤ 202) := Lib.hid (by have h0 := meet_len (Runs.meetR a [(0, 1099511627776)]) (Runs.meetR b [(0, 1099511627776)]); have h1 := len_X.out; have h2 := len_V.out; omega)
        have q24 := Lib.hid (count_any _ (Runs.meetR (Runs.meetR a [(0, 1099511627776)]) (Runs.meetR b [(0, 1099511627776)])) _ (Smalls.row (meet_row (Runs.meetR a [(0, 1099511627776)]) (Runs.meetR b [(0, 1099511627776)]))) M_23.out (by have := len_M.out; omega))
        rw [hcm.out] at q24
        go_wp2_with fail
        refine q24.out.mono ?_
        rintro e w24 ⟨rfl, b24⟩
        have X_24 := Lib.hid (X_23.out.below (B := 0) b24)
        have V_24 := Lib.hid (V_23.out.below (B := 0) b24)
        have Y24 := Lib.hid (Y23.out.trans (b24.mono Y23.out.size))
        clear b24 q24 X_23 V_23 M_23 Y23
        have q25 := Lib.hid (count_any _ (Runs.meetR b [(0, 1099511627776)]) _ (Smalls.row (meet_row b [(0, 1099511627776)])) V_24.out (by have := len_V.out; omega))
        rw [hny.out] at q25
        go_wp2_with fail
        refine q25.out.mono ?_
        rintro e w25 ⟨rfl, b25⟩
        have X_25 := Lib.hid (X_24.out.below (B := 0) b25)
        have V_25 := Lib.hid (V_24.out.below (B := 0) b25)
        have Y25 := Lib.hid (Y24.out.trans (b25.mono Y24.out.size))
        clear b25 q25 X_24 V_24 Y24
        have q26 := Lib.hid (minus_any _ _ (Runs.meetR a [(0, 1099511627776)]) (Runs.meetR b [(0, 1099511627776)]) _ (Smalls.row (meet_row a [(0, 1099511627776)])) (Smalls.row (meet_row b [(0, 1099511627776)])) X_25.out V_25.out (by have := len_X.out; omega) (by have := len_V.out; omega))
        go_wp2_with fail
        refine q26.out.mono ?_
        rintro e w26 ⟨v26, rfl, o26, b26⟩
        have X_26 := Lib.hid (X_25.out.below (B := 0) b26)
        have V_26 := Lib.hid (V_25.out.below (B := 0) b26)
        have Y26 := Lib.hid (Y25.out.trans (b26.mono Y25.out.size))
        have D_26 := Lib.hid (OwnRuns.at o26)
        obtain ⟨ad26, n26, c26, rfl⟩ := o26.slice
        clear o26 b26 q26 X_25 V_25 Y25
        have len_D : Hid ((Runs.minusR (Runs.meetR a [(0, 1099511627776)]) (Runs.meetR b [(0, 1099511627776)])).length ≤ 203) := Lib.hid (by have h0 := minus_len (Runs.meetR a [(0, 1099511627776)]) (Runs.meetR b [(0, 1099511627776)]); have h1 := len_X.out; have h2 := len_V.out; omega)
        have q27 := Lib.hid (count_any _ (Runs.minusR (Runs.meetR a [(0, 1099511627776)]) (Runs.meetR b [(0, 1099511627776)])) _ (Smalls.row (minus_row (Runs.meetR a [(0, 1099511627776)]) (Runs.meetR b [(0, 1099511627776)]))) D_26.out (by have := len_D.out; omega))
        rw [hcn.out] at q27
        go_wp2_with fail
        refine q27.out.mono ?_
        rintro e w27 ⟨rfl, b27⟩
        have X_27 := Lib.hid (X_26.out.below (B := 0) b27)
        have V_27 := Lib.hid (V_26.out.below (B := 0) b27)
        have Y27 := Lib.hid (Y26.out.trans (b27.mono Y26.out.size))
        clear b27 q27 X_26 V_26 D_26 Y26
        have q28 := Lib.hid (meet_any _ _ (Runs.meetR a [(0, 1099511627776)]) (Runs.meetR b [(0, 1099511627776)]) _ (Smalls.row (meet_row a [(0, 1099511627776)])) (Smalls.row (meet_row b [(0, 1099511627776)])) X_27.out V_27.out (by have := len_X.out; omega) (by have := len_V.out; omega))
        go_wp2_with fail
        refine q28.out.mono ?_
        rintro e w28 ⟨v28, rfl, o28, b28⟩
        have X_28 := Lib.hid (X_27.out.below (B := 0) b28)
        have V_28 := Lib.hid (V_27.out.below (B := 0) b28)
        have Y28 := Lib.hid (Y27.out.trans (b28.mono Y27.out.size))
        have M2_28 := Lib.hid (OwnRuns.at o28)
        obtain ⟨ad28, n28, c28, rfl⟩ := o28.slice
        clear o28 b28 q28 X_27 V_27 Y27
        have len_M2 : Hid ((Runs.meetR (Runs.meetR a [(0, 1099511627776)]) (Runs.meetR b [(0, 1099511627776)])).length ≤ 202) := Lib.hid (by have h0 := meet_len (Runs.meetR a [(0, 1099511627776)]) (Runs.meetR b [(0, 1099511627776)]); have h1 := len_X.out; have h2 := len_V.out; omega)
        have q29 := Lib.hid (count_any _ (Runs.meetR (Runs.meetR a [(0, 1099511627776)]) (Runs.meetR b [(0, 1099511627776)])) _ (Smalls.row (meet_row (Runs.meetR a [(0, 1099511627776)]) (Runs.meetR b [(0, 1099511627776)]))) M2_28.out (by have := len_M2.out; omega))
        rw [hcm.out] at q29
        go_wp2_with fail
        refine q29.out.mono ?_
        rintro e w29 ⟨rfl, b29⟩
        have X_29 := Lib.hid (X_28.out.below (B := 0) b29)
        have Y29 := Lib.hid (Y28.out.trans (b29.mono Y28.out.size))
        clear b29 q29 X_28 V_28 M2_28 Y28
        have q30 := Lib.hid (complement_any _ (Runs.meetR a [(0, 1099511627776)]) 1099511627776 _ (Smalls.row (meet_row a [(0, 1099511627776)])) X_29.out (by have := len_X.out; omega) (by omega))
        go_wp2_with fail
        refine q30.out.mono ?_
        rintro e w30 ⟨v30, rfl, o30, b30⟩
        have X_30 := Lib.hid (X_29.out.below (B := 0) b30)
        have Y30 := Lib.hid (Y29.out.trans (b30.mono Y29.out.size))
        have R_30 := Lib.hid (OwnRuns.at o30)
        obtain ⟨ad30, n30, c30, rfl⟩ := o30.slice
        clear o30 b30 q30 X_29 Y29
        have len_R : Hid ((Runs.restR (Runs.meetR a [(0, 1099511627776)]) 1099511627776).length ≤ 102) := Lib.hid (by have h1 := rest_len (Runs.meetR a [(0, 1099511627776)]) 1099511627776 (by decide); have h2 := len_X.out; omega)
        have q31 := Lib.hid (count_any _ (Runs.restR (Runs.meetR a [(0, 1099511627776)]) 1099511627776) _ (Smalls.row (Runs.restR_spec (Runs.meetR a [(0, 1099511627776)]) 1099511627776 (by decide)).1) R_30.out (by have := len_R.out; omega))
        rw [hcr.out] at q31
        go_wp2_with fail
        refine q31.out.mono ?_
        rintro e w31 ⟨rfl, b31⟩
        have X_31 := Lib.hid (X_30.out.below (B := 0) b31)
        have Y31 := Lib.hid (Y30.out.trans (b31.mono Y30.out.size))
        clear b31 q31 X_30 R_30 Y30
        have q32 := Lib.hid (largest_any _ (Runs.meetR a [(0, 1099511627776)]) _ (Smalls.row (meet_row a [(0, 1099511627776)])) X_31.out (by have := len_X.out; omega))
        rw [hN.out] at q32
        rw [HL.out] at q32
        go_wp2_with fail
        refine q32.out.mono ?_
        rintro e w32 ⟨rfl, b32⟩
        have Y32 := Lib.hid (Y31.out.trans (b32.mono Y31.out.size))
        clear b32 q32 X_31 Y31
        have q33 := Lib.hid (alive_any w32)
        go_wp2_with fail
        refine q33.out.mono ?_
        rintro e w33 ⟨rfl, b33⟩
        have Y33 := Lib.hid (Y32.out.trans (b33.mono Y32.out.size))
        clear b33 q33 Y32
        go_wp2_with fail
        go_ret
        exact ⟨rfl, Y33.out⟩
      · obtain ⟨_, g, rfl, c0⟩ := OB.cells (N.length - 1) (by omega)
        have kn : (0 : Int) < (N.length : Int) := by omega
        have kw : IntKind.i64.wrap ((N.length : Int) - 1) = ((N.length - 1 : Nat) : Int) := by
          rw [IntWalk.i64_in _ (by omega)]
          omega
        have kj : ((N.length - 1 : Nat) : Int) < (N.length : Int) := by omega
        have kj0 : (0 : Int) ≤ ((N.length - 1 : Nat) : Int) := by omega
        have hlast : N.getD (N.length - 1) 0 = N.getLastD 0 := by
          rcases List.eq_nil_or_concat N with h | ⟨M, z, h⟩
          · rw [h] at hz; exact absurd rfl hz
          · rw [h]; simp [List.getD]
        rw [hlast] at c0
        obtain ⟨z, HL⟩ : ∃ z, Hid (N.getLastD 0 = z) := ⟨_, Lib.hid rfl⟩
        rw [HL.out] at c0
        generalize hJ : N.length - 1 = j1 at *
        clear hb OB hs hlast
        have q21 := Lib.hid (union_any _ _ (Runs.meetR a [(0, 1099511627776)]) (Runs.meetR b [(0, 1099511627776)]) _ (Smalls.row (meet_row a [(0, 1099511627776)])) (Smalls.row (meet_row b [(0, 1099511627776)])) X_9.out V_9.out (by have := len_X.out; omega) (by have := len_V.out; omega))
        go_wp2_with fail
        refine q21.out.mono ?_
        rintro e w21 ⟨v21, rfl, o21, b21⟩
        have X_21 := Lib.hid (X_9.out.below (B := 0) b21)
        have V_21 := Lib.hid (V_9.out.below (B := 0) b21)
        have Y21 := Lib.hid (Y_9.out.trans (b21.mono Y_9.out.size))
        have U_21 := Lib.hid (OwnRuns.at o21)
        obtain ⟨ad21, n21, c21, rfl⟩ := o21.slice
        clear o21 b21 q21 X_9 V_9 Y_9
        have len_U : Hid ((unionR (Runs.meetR a [(0, 1099511627776)]) (Runs.meetR b [(0, 1099511627776)])).length ≤ 202) := Lib.hid (by have h0 := union_len (Runs.meetR a [(0, 1099511627776)]) (Runs.meetR b [(0, 1099511627776)]); have h1 := len_X.out; have h2 := len_V.out; omega)
        have q22 := Lib.hid (count_any _ (unionR (Runs.meetR a [(0, 1099511627776)]) (Runs.meetR b [(0, 1099511627776)])) _ (Smalls.row (union_row (Runs.meetR a [(0, 1099511627776)]) (Runs.meetR b [(0, 1099511627776)]))) U_21.out (by have := len_U.out; omega))
        rw [hcu.out] at q22
        go_wp2_with fail
        refine q22.out.mono ?_
        rintro e w22 ⟨rfl, b22⟩
        have X_22 := Lib.hid (X_21.out.below (B := 0) b22)
        have V_22 := Lib.hid (V_21.out.below (B := 0) b22)
        have Y22 := Lib.hid (Y21.out.trans (b22.mono Y21.out.size))
        clear b22 q22 X_21 V_21 U_21 Y21
        have q23 := Lib.hid (meet_any _ _ (Runs.meetR a [(0, 1099511627776)]) (Runs.meetR b [(0, 1099511627776)]) _ (Smalls.row (meet_row a [(0, 1099511627776)])) (Smalls.row (meet_row b [(0, 1099511627776)])) X_22.out V_22.out (by have := len_X.out; omega) (by have := len_V.out; omega))
        go_wp2_with fail
        refine q23.out.mono ?_
        rintro e w23 ⟨v23, rfl, o23, b23⟩
        have X_23 := Lib.hid (X_22.out.below (B := 0) b23)
        have V_23 := Lib.hid (V_22.out.below (B := 0) b23)
        have Y23 := Lib.hid (Y22.out.trans (b23.mono Y22.out.size))
        have M_23 := Lib.hid (OwnRuns.at o23)
        obtain ⟨ad23, n23, c23, rfl⟩ := o23.slice
        clear o23 b23 q23 X_22 V_22 Y22
        have len_M : Hid ((Runs.meetR (Runs.meetR a [(0, 1099511627776)]) (Runs.meetR b [(0, 1099511627776)])).length ≤ 202) := Lib.hid (by have h0 := meet_len (Runs.meetR a [(0, 1099511627776)]) (Runs.meetR b [(0, 1099511627776)]); have h1 := len_X.out; have h2 := len_V.out; omega)
        have q24 := Lib.hid (count_any _ (Runs.meetR (Runs.meetR a [(0, 1099511627776)]) (Runs.meetR b [(0, 1099511627776)])) _ (Smalls.row (meet_row (Runs.meetR a [(0, 1099511627776)]) (Runs.meetR b [(0, 1099511627776)]))) M_23.out (by have := len_M.out; omega))
        rw [hcm.out] at q24
        go_wp2_with fail
        refine q24.out.mono ?_
        rintro e w24 ⟨rfl, b24⟩
        have X_24 := Lib.hid (X_23.out.below (B := 0) b24)
        have V_24 := Lib.hid (V_23.out.below (B := 0) b24)
        have Y24 := Lib.hid (Y23.out.trans (b24.mono Y23.out.size))
        clear b24 q24 X_23 V_23 M_23 Y23
        have q25 := Lib.hid (count_any _ (Runs.meetR b [(0, 1099511627776)]) _ (Smalls.row (meet_row b [(0, 1099511627776)])) V_24.out (by have := len_V.out; omega))
        rw [hny.out] at q25
        go_wp2_with fail
        refine q25.out.mono ?_
        rintro e w25 ⟨rfl, b25⟩
        have X_25 := Lib.hid (X_24.out.below (B := 0) b25)
        have V_25 := Lib.hid (V_24.out.below (B := 0) b25)
        have Y25 := Lib.hid (Y24.out.trans (b25.mono Y24.out.size))
        clear b25 q25 X_24 V_24 Y24
        have q26 := Lib.hid (minus_any _ _ (Runs.meetR a [(0, 1099511627776)]) (Runs.meetR b [(0, 1099511627776)]) _ (Smalls.row (meet_row a [(0, 1099511627776)])) (Smalls.row (meet_row b [(0, 1099511627776)])) X_25.out V_25.out (by have := len_X.out; omega) (by have := len_V.out; omega))
        go_wp2_with fail
        refine q26.out.mono ?_
        rintro e w26 ⟨v26, rfl, o26, b26⟩
        have X_26 := Lib.hid (X_25.out.below (B := 0) b26)
        have V_26 := Lib.hid (V_25.out.below (B := 0) b26)
        have Y26 := Lib.hid (Y25.out.trans (b26.mono Y25.out.size))
        have D_26 := Lib.hid (OwnRuns.at o26)
        obtain ⟨ad26, n26, c26, rfl⟩ := o26.slice
        clear o26 b26 q26 X_25 V_25 Y25
        have len_D : Hid ((Runs.minusR (Runs.meetR a [(0, 1099511627776)]) (Runs.meetR b [(0, 1099511627776)])).length ≤ 203) := Lib.hid (by have h0 := minus_len (Runs.meetR a [(0, 1099511627776)]) (Runs.meetR b [(0, 1099511627776)]); have h1 := len_X.out; have h2 := len_V.out; omega)
        have q27 := Lib.hid (count_any _ (Runs.minusR (Runs.meetR a [(0, 1099511627776)]) (Runs.meetR b [(0, 1099511627776)])) _ (Smalls.row (minus_row (Runs.meetR a [(0, 1099511627776)]) (Runs.meetR b [(0, 1099511627776)]))) D_26.out (by have := len_D.out; omega))
        rw [hcn.out] at q27
        go_wp2_with fail
        refine q27.out.mono ?_
        rintro e w27 ⟨rfl, b27⟩
        have X_27 := Lib.hid (X_26.out.below (B := 0) b27)
        have V_27 := Lib.hid (V_26.out.below (B := 0) b27)
        have Y27 := Lib.hid (Y26.out.trans (b27.mono Y26.out.size))
        clear b27 q27 X_26 V_26 D_26 Y26
        have q28 := Lib.hid (meet_any _ _ (Runs.meetR a [(0, 1099511627776)]) (Runs.meetR b [(0, 1099511627776)]) _ (Smalls.row (meet_row a [(0, 1099511627776)])) (Smalls.row (meet_row b [(0, 1099511627776)])) X_27.out V_27.out (by have := len_X.out; omega) (by have := len_V.out; omega))
        go_wp2_with fail
        refine q28.out.mono ?_
        rintro e w28 ⟨v28, rfl, o28, b28⟩
        have X_28 := Lib.hid (X_27.out.below (B := 0) b28)
        have V_28 := Lib.hid (V_27.out.below (B := 0) b28)
        have Y28 := Lib.hid (Y27.out.trans (b28.mono Y27.out.size))
        have M2_28 := Lib.hid (OwnRuns.at o28)
        obtain ⟨ad28, n28, c28, rfl⟩ := o28.slice
        clear o28 b28 q28 X_27 V_27 Y27
        have len_M2 : Hid ((Runs.meetR (Runs.meetR a [(0, 1099511627776)]) (Runs.meetR b [(0, 1099511627776)])).length ≤ 202) := Lib.hid (by have h0 := meet_len (Runs.meetR a [(0, 1099511627776)]) (Runs.meetR b [(0, 1099511627776)]); have h1 := len_X.out; have h2 := len_V.out; omega)
        have q29 := Lib.hid (count_any _ (Runs.meetR (Runs.meetR a [(0, 1099511627776)]) (Runs.meetR b [(0, 1099511627776)])) _ (Smalls.row (meet_row (Runs.meetR a [(0, 1099511627776)]) (Runs.meetR b [(0, 1099511627776)]))) M2_28.out (by have := len_M2.out; omega))
        rw [hcm.out] at q29
        go_wp2_with fail
        refine q29.out.mono ?_
        rintro e w29 ⟨rfl, b29⟩
        have X_29 := Lib.hid (X_28.out.below (B := 0) b29)
        have Y29 := Lib.hid (Y28.out.trans (b29.mono Y28.out.size))
        clear b29 q29 X_28 V_28 M2_28 Y28
        have q30 := Lib.hid (complement_any _ (Runs.meetR a [(0, 1099511627776)]) 1099511627776 _ (Smalls.row (meet_row a [(0, 1099511627776)])) X_29.out (by have := len_X.out; omega) (by omega))
        go_wp2_with fail
        refine q30.out.mono ?_
        rintro e w30 ⟨v30, rfl, o30, b30⟩
        have X_30 := Lib.hid (X_29.out.below (B := 0) b30)
        have Y30 := Lib.hid (Y29.out.trans (b30.mono Y29.out.size))
        have R_30 := Lib.hid (OwnRuns.at o30)
        obtain ⟨ad30, n30, c30, rfl⟩ := o30.slice
        clear o30 b30 q30 X_29 Y29
        have len_R : Hid ((Runs.restR (Runs.meetR a [(0, 1099511627776)]) 1099511627776).length ≤ 102) := Lib.hid (by have h1 := rest_len (Runs.meetR a [(0, 1099511627776)]) 1099511627776 (by decide); have h2 := len_X.out; omega)
        have q31 := Lib.hid (count_any _ (Runs.restR (Runs.meetR a [(0, 1099511627776)]) 1099511627776) _ (Smalls.row (Runs.restR_spec (Runs.meetR a [(0, 1099511627776)]) 1099511627776 (by decide)).1) R_30.out (by have := len_R.out; omega))
        rw [hcr.out] at q31
        go_wp2_with fail
        refine q31.out.mono ?_
        rintro e w31 ⟨rfl, b31⟩
        have X_31 := Lib.hid (X_30.out.below (B := 0) b31)
        have Y31 := Lib.hid (Y30.out.trans (b31.mono Y30.out.size))
        clear b31 q31 X_30 R_30 Y30
        have q32 := Lib.hid (largest_any _ (Runs.meetR a [(0, 1099511627776)]) _ (Smalls.row (meet_row a [(0, 1099511627776)])) X_31.out (by have := len_X.out; omega))
        rw [hN.out] at q32
        rw [HL.out] at q32
        go_wp2_with fail
        refine q32.out.mono ?_
        rintro e w32 ⟨rfl, b32⟩
        have Y32 := Lib.hid (Y31.out.trans (b32.mono Y31.out.size))
        clear b32 q32 X_31 Y31
        have q33 := Lib.hid (alive_any w32)
        go_wp2_with fail
        refine q33.out.mono ?_
        rintro e w33 ⟨rfl, b33⟩
        have Y33 := Lib.hid (Y32.out.trans (b33.mono Y32.out.size))
        clear b33 q33 Y32
        go_wp2_with fail
        go_ret
        exact ⟨rfl, Y33.out⟩

end Go.Proofs.Ytkpnimekhekpmaa
