/- RunsTurned's walk. -/
import Derived.Test.YtkpnimekhekpmaaRunsCounts
namespace Go.Proofs.Ytkpnimekhekpmaa
open Go Go.RowKit

def turned (l : RL) (k : Nat) : RL := (l.drop k).reverse ++ l.take k ++ [l.getD k (0, 0)]
theorem turned_mem (l : RL) (k : Nat) (hk : k < l.length) (i : Int) : Runs.mem (turned l k) i ↔ Runs.mem l i := by
  unfold turned
  have hr : ∀ a : RL, Runs.mem a.reverse i ↔ Runs.mem a i := fun a => Runs.mem_perm (List.reverse_perm a) i
  have h1 : Runs.mem l i ↔ Runs.mem (l.take k) i ∨ Runs.mem (l.drop k) i := by
    rw [← Runs.mem_append, List.take_append_drop]
  have h2 : Runs.mem [l.getD k (0, 0)] i → Runs.mem (l.drop k) i := fun h => by
    have := (Runs.mem_one _ i).1 h
    rw [show l.getD k (0, 0) = l[k] by simp [List.getD, hk]] at this
    rw [List.drop_eq_getElem_cons hk, Runs.mem_cons]
    exact .inl this
  rw [Runs.mem_append, Runs.mem_append, hr, h1]
  constructor
  · rintro ((h | h) | h)
    · exact .inr h
    · exact .inl h
    · exact .inr (h2 h)
  · rintro (h | h)
    · exact .inl (.inr h)
    · exact .inl (.inl h)
theorem turned_norm (l : RL) (k : Nat) (hk : k < l.length) : Runs.normR (turned l k) = Runs.normR l := Runs.normR_same (turned_mem l k hk)
theorem turned_len (l : RL) (k : Nat) (hk : k < l.length) : (turned l k).length = l.length + 1 := by
  simp [turned]; omega
theorem turned_small (l : RL) (k : Nat) (hk : k < l.length) (h : Smalls l) : Smalls (turned l k) := fun x hx => by
  unfold turned at hx
  rcases List.mem_append.1 hx with h1 | h1
  · rcases List.mem_append.1 h1 with h2 | h2
    · exact h x (List.mem_of_mem_drop (List.mem_reverse.1 h2))
    · exact h x (List.mem_of_mem_take h2)
  · obtain rfl := List.mem_singleton.1 h1
    exact h.at k hk
theorem turned_count (l : RL) (k : Nat) (hk : k < l.length) : countR (turned l k) = countR l := by
  unfold countR; rw [turned_norm l k hk]
theorem turned_rest (l : RL) (k : Nat) (hk : k < l.length) (n : Int) (hn : n ≤ Runs.top) : Runs.restR (turned l k) n = Runs.restR l n := by
  rw [← Runs.gaps_rest _ n hn, ← Runs.gaps_rest _ n hn, turned_norm l k hk]

set_option maxRecDepth 100000 in
set_option maxHeartbeats 8000000 in
/-- Behind the reckoning of k. -/
theorem RunsTurned_walk {w : World} (ad : Option Addr) (cap : Nat) (l : RL) (k : Int) (h : RunsIn w (.slice ad l.length cap) l) (hk : -9223372036854775808 ≤ k ∧ k ≤ 9223372036854775807) :
    Calls Try.prog 4 #[.slice ad l.length cap, .int .i64 k] w fun e w' => e = .returned (.bool true) ∧ Below w.heap.size w w' := by
  have hlen := h.len
  have qA := Lib.hid alive_any
  by_cases hbig : 100 < (l.length : Int)
  · go_enter Try.func4, Try.ntmps4
    go_wp2_with fail
    refine (qA.out _).mono ?_
    rintro e w1 ⟨rfl, b1⟩
    have Y1 := Lib.hid b1
    clear b1
    go_wp2_with fail
    go_ret
    exact ⟨rfl, Y1.out⟩
  by_cases hz : l.length = 0
  · have hz' : (l.length : Int) = 0 := by omega
    go_enter Try.func4, Try.ntmps4
    go_wp2_with fail
    refine (qA.out _).mono ?_
    rintro e w1 ⟨rfl, b1⟩
    have Y1 := Lib.hid b1
    clear b1
    go_wp2_with fail
    go_ret
    exact ⟨rfl, Y1.out⟩
  have hz' : ¬ (l.length : Int) = 0 := by omega
  obtain ⟨m, hm, hm0, hm1⟩ : ∃ m, k.tmod (l.length : Int) = m ∧ m < (l.length : Int) ∧ -(l.length : Int) < m := ⟨_, rfl, Int.tmod_lt_of_pos k (by omega), by
    have h1 := Int.natAbs_tmod k (l.length : Int)
    have h2 : (k.natAbs % (l.length : Int).natAbs) < (l.length : Int).natAbs := Nat.mod_lt _ (by omega)
    omega⟩
  have hw : IntKind.i64.wrap (m + (l.length : Int)) = m + (l.length : Int) := IntWalk.i64_in _ (by omega)
  have hmw : IntKind.i64.wrap m = m := IntWalk.i64_in _ (by omega)
  obtain ⟨i0', hi0, hz0, hz1, hz2⟩ := info_parts info_run
  have room : l.length ≤ cap ∧ cap ≤ 9223372036854775807 := ⟨h.room, h.top⟩
  have HS := Lib.hid h.small
  have H := Lib.hid h.at_
  clear h
  go_enter Try.func4, Try.ntmps4
  go_upto_if 21 with fail
  go_cut [1] from 7 to 28 (fun p wx => ∃ kk : Nat, p = .int .i64 (kk : Int) ∧ kk < l.length ∧ w = wx)
  case first =>
    by_cases hneg : m < 0
    · go_wp2_with fail
      go_meet
      case rel => exact ⟨(m + l.length).toNat, by rw [Int.toNat_of_nonneg (by omega)], by omega, rfl⟩
    · go_wp2_with fail
      go_meet
      case rel => exact ⟨m.toNat, by rw [Int.toNat_of_nonneg (by omega)], by omega, rfl⟩
  obtain ⟨kk, rfl, hkk, rfl⟩ := hcut
  clear hm hm0 hm1 hw hmw
  have hkk1 : (kk : Int) < (l.length : Int) := by omega
  have hlw : IntKind.i64.wrap ((l.length : Int) - 1) = (l.length : Int) - 1 := IntWalk.i64_in _ (by omega)
  go_wp2_with fail
  clear hlw hz'
  go_loopw [5, 6] (fun p q wr => ∃ (u : Value) (R : RL) (i : Int) (m : Nat), u = p ∧ q = .int .i64 i ∧ i = m - 1 ∧ kk ≤ m ∧ m ≤ l.length ∧ R.length ≤ 100 ∧ Hid (R = (l.drop m).reverse) ∧ Hid (OwnRuns w.heap.size wr u R) ∧ Hid (Below w.heap.size w wr) ∧ w.heap.size ≤ wr.heap.size) (fun _ q _ => (intOf q + 1).toNat)
  case atStart => exact ⟨_, [], _, l.length, rfl, rfl, rfl, by omega, by omega, by simp, Lib.hid (by simp), Lib.hid (World.ownsRow_nil _ _ _ _), Lib.hid (Below.refl _ _), Nat.le_refl _⟩
  case round =>
    obtain ⟨u, R, i, m, rfl, rfl, hi, hm1, hm2, hRl, hR, ho, hb, hsz⟩ := hrel
    by_cases hlt : kk < m
    · obtain ⟨j, rfl⟩ : ∃ j, m = j + 1 := ⟨m - 1, by omega⟩
      obtain rfl : i = (j : Int) := by omega
      clear hi
      have c1 : (kk : Int) ≤ (j : Int) := by omega
      have c2 : (j : Int) < (l.length : Int) := by omega
      have c3 : (0 : Int) ≤ (j : Int) := by omega
      obtain ⟨_, g, off, rfl, d0, d1⟩ := (H.out.below (B := 0) hb.out).cells j (by omega)
      have hR2 : Hid (R ++ [l.getD j (0, 0)] = (l.drop j).reverse) := Lib.hid (by
        rw [hR.out, List.drop_eq_getElem_cons (show j < l.length by omega), List.reverse_cons]
        simp [List.getD, show j < l.length by omega])
      generalize l.getD j (0, 0) = x at *
      obtain ⟨xa, xb⟩ := x
      dsimp only at *
      have G : (wr.alloc (.cells #[.int .i64 xa, .int .i64 xb] 30)).ownsRow w.heap.size 30 2 u R.length (rcells R) := own_belowR ho.out ((Below.refl _ _).alloc (Nat.le_refl _) _)
      have NN : ∀ jj uu, [Value.int .i64 xa, Value.int .i64 xb][jj]? = some uu → (wr.alloc (.cells #[.int .i64 xa, .int .i64 xb] 30)).cell? ((⟨wr.heap.size, 0, none⟩ : Addr).add jj) = some uu := fun jj uu hjj => by
        have hadd : (⟨wr.heap.size, 0, none⟩ : Addr).add jj = ⟨wr.heap.size, jj, none⟩ := by unfold Addr.add; split <;> simp_all
        rw [hadd, World.cell?_alloc_at _ _ _ _ rfl]
        simpa using hjj
      have hone := rcells_one [(xa, xb)]
      go_wp2_with (first
        | (at_builtin; refine wpList_append_own _ rfl _ _ 22 rfl w.heap.size 30 i0' (.agg #[.int .i64 0, .int .i64 0]) 2 16 Try.underlying22 hi0 hz0 hz1 hz2 rfl (by decide) _ R.length _ rfl G ⟨wr.heap.size, 0, none⟩ 1 1 [.int .i64 xa, .int .i64 xb] rfl rfl NN hone (by unfold maxLen; omega) (by omega) (by simp; omega) ?_))
      intro v' w5 hown hgrow _
      have B5 : Hid (Below w.heap.size w w5) := Lib.hid ((hb.out.alloc hsz (.cells #[.int .i64 xa, .int .i64 xb] 30)).grown hgrow (by simp; omega) (fun k hk => (ho.out.lt k hk).1))
      have O5 : Hid (OwnRuns w.heap.size w5 v' (R ++ [(xa, xb)])) := Lib.hid (own_more rfl hown)
      have z5 := B5.out.size
      have hR3 : (R ++ [(xa, xb)]).length ≤ 100 := by
        have := congrArg List.length hR2.out
        rw [List.length_reverse, List.length_drop] at this
        omega
      clear hown hgrow G NN
      have hjw : IntKind.i64.wrap ((j : Int) - 1) = (j : Int) - 1 := IntWalk.i64_in _ (by omega)
      go_wp2_with fail
      go_roundw
      case rel => exact ⟨v', _, (j : Int) - 1, j, rfl, rfl, rfl, by omega, by omega, hR3, hR2, O5, B5, z5⟩
      case measure => simp [intOf]
    · obtain rfl : m = kk := by omega
      subst hi
      have c2 : (m : Int) - 1 < (m : Int) := by omega
      have c3 : ¬ (m : Int) ≤ (m : Int) - 1 := by omega
      have c0 : (0 : Int) ≤ (m : Int) := by omega
      have c4 : (m : Int) ≤ (cap : Int) := by omega
      obtain ⟨_, g, off, rfl, d0, d1⟩ := H.out.cells m hkk
      have hTN := Lib.hid (turned_norm l m hkk)
      have hTC := Lib.hid (turned_count l m hkk)
      have hTR := Lib.hid (turned_rest l m hkk 1000 (by decide))
      have lenT := Lib.hid (turned_len l m hkk)
      have hgl : g < w.heap.size := World.block_lt_of_cell? w _ d0
      have hne : ∀ j u, (rcells (l.take m))[j]? = some u → wr.cell? ((⟨g, off, none⟩ : Addr).add j) = some u := fun j u hu => by
        have e1 : (⟨g, off, none⟩ : Addr).add j = ⟨g, off + j, none⟩ := by unfold Addr.add; split <;> simp_all
        rw [e1]
        rcases (H.out.below (B := 0) hb.out) with ⟨e2, _⟩ | ⟨g2, o2, c2, e2, hc2⟩
        · cases e2
        · cases e2
          refine hc2 j u ?_
          rw [← List.take_append_drop m l, rcells_append, List.getElem?_append_left (List.getElem?_eq_some_iff.1 hu).1]
          exact hu
      have hone := rcells_one (l.take m)
      have hrl : (rcells (l.take m)).length = m * 2 := by rw [rcells_length, List.length_take]; omega
      go_wp2_with (first
        | (at_builtin; refine wpList_append_own _ rfl _ _ 22 rfl w.heap.size 30 i0' (.agg #[.int .i64 0, .int .i64 0]) 2 16 Try.underlying22 hi0 hz0 hz1 hz2 rfl (by decide) _ R.length _ rfl ho.out ⟨g, off, none⟩ m _ (rcells (l.take m)) rfl hrl hne hone (by unfold maxLen; omega) (by omega) hsz ?_))
      intro v' w5 hown hgrow _
      have B5 : Hid (Below w.heap.size w w5) := Lib.hid (hb.out.grown hgrow hsz (fun k hk => (ho.out.lt k hk).1))
      obtain ⟨R5, hR5⟩ : ∃ R5, R5 = (l.drop m).reverse ++ l.take m := ⟨_, rfl⟩
      have l5 : R5.length = R.length + m := by
        have := congrArg List.length hR.out
        rw [hR5, List.length_append, ← this, List.length_take]; omega
      have O5 : Hid (w5.ownsRow w.heap.size 30 2 v' R5.length (rcells R5)) := Lib.hid (by
        rw [l5, hR5, rcells_append, ← hR.out]
        exact hown)
      have z5 := B5.out.size
      have l5' : R5.length ≤ 200 := by omega
      have hT : Hid (R5 ++ [l.getD m (0, 0)] = turned l m) := Lib.hid (by rw [hR5]; rfl)
      clear hown hgrow hne hrl hone ho hb hR hR5 l5
      have d0' := (B5.out.cell (p := ⟨g, off + m * 2, none⟩) hgl).trans d0
      have d1' := (B5.out.cell (p := ⟨g, off + m * 2 + 1, none⟩) hgl).trans d1
      generalize l.getD m (0, 0) = x at *
      obtain ⟨xa, xb⟩ := x
      dsimp only at *
      clear d0 d1
      have G : (w5.alloc (.cells #[.int .i64 xa, .int .i64 xb] 30)).ownsRow w.heap.size 30 2 v' R5.length (rcells R5) := own_belowR O5.out ((Below.refl _ _).alloc (Nat.le_refl _) _)
      have NN : ∀ jj uu, [Value.int .i64 xa, Value.int .i64 xb][jj]? = some uu → (w5.alloc (.cells #[.int .i64 xa, .int .i64 xb] 30)).cell? ((⟨w5.heap.size, 0, none⟩ : Addr).add jj) = some uu := fun jj uu hjj => by
        have hadd : (⟨w5.heap.size, 0, none⟩ : Addr).add jj = ⟨w5.heap.size, jj, none⟩ := by unfold Addr.add; split <;> simp_all
        rw [hadd, World.cell?_alloc_at _ _ _ _ rfl]
        simpa using hjj
      have hone := rcells_one [(xa, xb)]
      go_wp2_with (first
        | (at_builtin; refine wpList_append_own _ rfl _ _ 22 rfl w.heap.size 30 i0' (.agg #[.int .i64 0, .int .i64 0]) 2 16 Try.underlying22 hi0 hz0 hz1 hz2 rfl (by decide) _ R5.length _ rfl G ⟨w5.heap.size, 0, none⟩ 1 1 [.int .i64 xa, .int .i64 xb] rfl rfl NN hone (by unfold maxLen; omega) (by omega) (by simp; omega) ?_))
      intro v6 w6 hown hgrow _
      have Y_9 : Hid (Below w.heap.size w w6) := Lib.hid ((B5.out.alloc z5 (.cells #[.int .i64 xa, .int .i64 xb] 30)).grown hgrow (by simp; omega) (fun k hk => (O5.out.lt k hk).1))
      have O6 : OwnRuns w.heap.size w6 v6 (turned l m) := by
        rw [← hT.out]
        exact own_more rfl hown
      have T_9 := Lib.hid (OwnRuns.at O6)
      have L_9 := Lib.hid (H.out.below (B := 0) Y_9.out)
      obtain ⟨td, tn, tc, rfl⟩ := O6.slice
      clear hown hgrow G NN O6 O5 B5
      have q21 := Lib.hid (normal_any _ (turned l m) _ (turned_small l m (by omega) HS.out) T_9.out (by have := lenT.out; omega))
      rw [hTN.out] at q21
      go_wp2_with fail
      refine q21.out.mono ?_
      rintro e w21 ⟨v21, rfl, o21, b21⟩
      have T_21 := Lib.hid (T_9.out.below (B := 0) b21)
      have L_21 := Lib.hid (L_9.out.below (B := 0) b21)
      have Y21 := Lib.hid (Y_9.out.trans (b21.mono Y_9.out.size))
      have A_21 := Lib.hid (OwnRuns.at o21)
      obtain ⟨ad21, n21, c21, rfl⟩ := o21.slice
      clear o21 b21 q21 T_9 L_9 Y_9
      have q22 := Lib.hid (normal_any _ l _ HS.out L_21.out (by omega))
      go_wp2_with fail
      refine q22.out.mono ?_
      rintro e w22 ⟨v22, rfl, o22, b22⟩
      have T_22 := Lib.hid (T_21.out.below (B := 0) b22)
      have L_22 := Lib.hid (L_21.out.below (B := 0) b22)
      have A_22 := Lib.hid (A_21.out.below (B := 0) b22)
      have Y22 := Lib.hid (Y21.out.trans (b22.mono Y21.out.size))
      have B_22 := Lib.hid (OwnRuns.at o22)
      obtain ⟨ad22, n22, c22, rfl⟩ := o22.slice
      clear o22 b22 q22 T_21 L_21 A_21 Y21
      have q23 := Lib.hid (same_b _ _ _ (Runs.normR l) (Runs.normR l) A_22.out B_22.out (by have := norm_len l; omega) (by have := norm_len l; omega) true (by simp))
      go_wp2_with fail
      refine q23.out.mono ?_
      rintro e w23 ⟨rfl, b23⟩
      have T_23 := Lib.hid (T_22.out.below (B := 0) b23)
      have L_23 := Lib.hid (L_22.out.below (B := 0) b23)
      have Y23 := Lib.hid (Y22.out.trans (b23.mono Y22.out.size))
      clear b23 q23 T_22 L_22 A_22 B_22 Y22
      have q24 := Lib.hid (count_any _ (turned l m) _ (turned_small l m (by omega) HS.out) T_23.out (by have := lenT.out; omega))
      rw [hTC.out] at q24
      go_wp2_with fail
      refine q24.out.mono ?_
      rintro e w24 ⟨rfl, b24⟩
      have T_24 := Lib.hid (T_23.out.below (B := 0) b24)
      have L_24 := Lib.hid (L_23.out.below (B := 0) b24)
      have Y24 := Lib.hid (Y23.out.trans (b24.mono Y23.out.size))
      clear b24 q24 T_23 L_23 Y23
      have q25 := Lib.hid (count_any _ l _ HS.out L_24.out (by omega))
      go_wp2_with fail
      refine q25.out.mono ?_
      rintro e w25 ⟨rfl, b25⟩
      have T_25 := Lib.hid (T_24.out.below (B := 0) b25)
      have L_25 := Lib.hid (L_24.out.below (B := 0) b25)
      have Y25 := Lib.hid (Y24.out.trans (b25.mono Y24.out.size))
      clear b25 q25 T_24 L_24 Y24
      have q26 := Lib.hid (complement_any _ (turned l m) 1000 _ (turned_small l m (by omega) HS.out) T_25.out (by have := lenT.out; omega) (by omega))
      rw [hTR.out] at q26
      go_wp2_with fail
      refine q26.out.mono ?_
      rintro e w26 ⟨v26, rfl, o26, b26⟩
      have T_26 := Lib.hid (T_25.out.below (B := 0) b26)
      have L_26 := Lib.hid (L_25.out.below (B := 0) b26)
      have Y26 := Lib.hid (Y25.out.trans (b26.mono Y25.out.size))
      have C_26 := Lib.hid (OwnRuns.at o26)
      obtain ⟨ad26, n26, c26, rfl⟩ := o26.slice
      clear o26 b26 q26 T_25 L_25 Y25
      have q27 := Lib.hid (complement_any _ l 1000 _ HS.out L_26.out (by omega) (by omega))
      go_wp2_with fail
      refine q27.out.mono ?_
      rintro e w27 ⟨v27, rfl, o27, b27⟩
      have T_27 := Lib.hid (T_26.out.below (B := 0) b27)
      have L_27 := Lib.hid (L_26.out.below (B := 0) b27)
      have C_27 := Lib.hid (C_26.out.below (B := 0) b27)
      have Y27 := Lib.hid (Y26.out.trans (b27.mono Y26.out.size))
      have D_27 := Lib.hid (OwnRuns.at o27)
      obtain ⟨ad27, n27, c27, rfl⟩ := o27.slice
      clear o27 b27 q27 T_26 L_26 C_26 Y26
      have q28 := Lib.hid (same_b _ _ _ (Runs.restR l 1000) (Runs.restR l 1000) C_27.out D_27.out (by have := rest_len l 1000 (by decide); omega) (by have := rest_len l 1000 (by decide); omega) true (by simp))
      go_wp2_with fail
      refine q28.out.mono ?_
      rintro e w28 ⟨rfl, b28⟩
      have Y28 := Lib.hid (Y27.out.trans (b28.mono Y27.out.size))
      clear b28 q28 T_27 L_27 C_27 D_27 Y27
      have q29 := Lib.hid (alive_any w28)
      go_wp2_with fail
      refine q29.out.mono ?_
      rintro e w29 ⟨rfl, b29⟩
      have Y29 := Lib.hid (Y28.out.trans (b29.mono Y28.out.size))
      clear b29 q29 Y28
      go_wp2_with fail
      go_ret
      exact ⟨rfl, Y29.out⟩

end Go.Proofs.Ytkpnimekhekpmaa
