/- Lists of runs: gaps. -/
import Derived.Test.YtgpjldmndibalaaRunsNorm
namespace Go.Proofs.Ytgpjldmndibalaa
open Go Go.RowKit

theorem gaps_step (n : Int) (l : RL) (j : Nat) (hj : j < l.length) (a : Int) : Runs.gapsN n a (l.drop j) = if n ≤ (l.getD j (0, 0)).1 then (if a < n then [(a, n - a)] else []) else (if a < (l.getD j (0, 0)).1 then [(a, (l.getD j (0, 0)).1 - a)] else []) ++ Runs.gapsN n (Runs.fin (l.getD j (0, 0))) (l.drop (j + 1)) := by
  rw [List.drop_eq_getElem_cons hj]
  have e : l.getD j (0, 0) = l[j] := by simp [List.getD, hj]
  rw [e]
  rfl
theorem gaps_end (n : Int) (l : RL) (a : Int) : Runs.gapsN n a (l.drop l.length) = if a < n then [(a, n - a)] else [] := by
  rw [List.drop_length]
  rfl

set_option maxRecDepth 100000 in
set_option maxHeartbeats 4000000 in
theorem gaps_any (v : Value) (l : RL) (n : Int) (w : World) (hr : Runs.Row l) (h : RunsAt w v l) (hl : l.length ≤ 1000000000) (hn : -9223372036854775808 ≤ n ∧ n ≤ 9223372036854775807) :
    Calls Try.prog 68 #[v, .int .i64 n] w fun e w' => ∃ v', e = .returned v' ∧ OwnRuns w.heap.size w' v' (Runs.gapsN n 0 l) ∧ Below w.heap.size w w' := by
  obtain ⟨i0', hi0, hz0, hz1, hz2⟩ := info_parts info_run
  have H := Lib.hid h
  have HR := Lib.hid hr
  obtain ⟨ad, cap, rfl⟩ : ∃ ad cap, v = .slice ad l.length cap := by
    rcases h with ⟨rfl, rfl⟩ | ⟨b, off, cap, rfl, _⟩
    · exact ⟨_, _, rfl⟩
    · exact ⟨_, _, rfl⟩
  clear h hr
  go_enter Try.func68, Try.ntmps68
  go_wp2_with fail
  go_loopw [5, 6, 11] (fun p q r wr => ∃ (u : Value) (j : Nat) (at_ : Int) (R : RL), u = p ∧ q = .int .i64 at_ ∧ r = .int .i64 j ∧ j ≤ l.length ∧ R.length ≤ j ∧ 0 ≤ at_ ∧ at_ ≤ 9223372036854775807 ∧ Hid (R ++ Runs.gapsN n at_ (l.drop j) = Runs.gapsN n 0 l) ∧ Hid (OwnRuns w.heap.size wr u R) ∧ Hid (Below w.heap.size w wr) ∧ w.heap.size ≤ wr.heap.size) (fun _ _ r _ => l.length - (intOf r).toNat)
  case atStart => exact ⟨_, 0, 0, [], rfl, rfl, rfl, by omega, by simp, by omega, by omega, Lib.hid (by simp), Lib.hid (World.ownsRow_nil _ _ _ _), Lib.hid (Below.refl _ _), Nat.le_refl _⟩
  case round =>
    obtain ⟨u, j, at_, R, rfl, rfl, rfl, hj, hRj, ha0, ha1, he, ho, hb, hsz⟩ := hrel
    by_cases hlt : j < l.length
    · have i0 : (0 : Int) ≤ (j : Int) := by omega
      have i1 : (j : Int) < (l.length : Int) := by omega
      have hst := Lib.hid (gaps_step n l j hlt at_)
      obtain ⟨hll, g, off, rfl, c0, c1⟩ := (H.out.below (B := 0) hb.out).cells j hlt
      clear hll
      have hmx : Runs.may (l.getD j (0, 0)) := HR.out.may _ (by
        have : l.getD j (0, 0) = l[j] := by simp [List.getD, hlt]
        rw [this]
        exact List.getElem_mem hlt)
      generalize l.getD j (0, 0) = x at *
      obtain ⟨xa, xb⟩ := x
      have hfx : Runs.fin (xa, xb) = xa + xb := rfl
      unfold Runs.may Runs.top at hmx
      dsimp only at *
      have hex := Lib.hid (fun w => end_b (xa, xb) (by rw [hfx]; omega) w)
      have HM := Lib.hid hmx
      have ho1 : Hid ((wr.alloc (.cells #[.int .i64 xa, .int .i64 xb] 32)).ownsRow w.heap.size 32 2 u R.length (rcells R)) := Lib.hid (own_belowR ho.out ((Below.refl _ _).alloc (Nat.le_refl _) _))
      have hb1 : Hid (Below w.heap.size w (wr.alloc (.cells #[.int .i64 xa, .int .i64 xb] 32))) := Lib.hid (hb.out.alloc hsz _)
      have hs1 : w.heap.size ≤ (wr.alloc (.cells #[.int .i64 xa, .int .i64 xb] 32)).heap.size := hb1.out.size
      have hHF := Lib.hid hfx
      clear hfx hmx
      by_cases hnx : n ≤ xa
      · rw [if_pos hnx] at hst
        by_cases han : at_ < n
        · have hmw : IntKind.i64.wrap (n - at_) = n - at_ := IntWalk.i64_in _ (by omega)
          have G : ((wr.alloc (.cells #[.int .i64 xa, .int .i64 xb] 32)).alloc (.cells #[.int .i64 at_, .int .i64 (n - at_)] 32)).ownsRow w.heap.size 32 2 u R.length (rcells R) := own_belowR ho1.out ((Below.refl _ _).alloc (Nat.le_refl _) _)
          have N : ∀ jj uu, [Value.int .i64 at_, Value.int .i64 (n - at_)][jj]? = some uu → ((wr.alloc (.cells #[.int .i64 xa, .int .i64 xb] 32)).alloc (.cells #[.int .i64 at_, .int .i64 (n - at_)] 32)).cell? ((⟨wr.heap.size + 1, 0, none⟩ : Addr).add jj) = some uu := fun jj uu hjj => by
            have hadd : (⟨wr.heap.size + 1, 0, none⟩ : Addr).add jj = ⟨wr.heap.size + 1, jj, none⟩ := by unfold Addr.add; split <;> simp_all
            rw [hadd, World.cell?_alloc_at _ _ _ _ (by simp)]
            simpa using hjj
          have hone := rcells_one [(at_, n - at_)]
          go_wp2_with (first
            | (at_builtin; refine wpList_append_own _ rfl _ _ 26 rfl w.heap.size 32 i0' (.agg #[.int .i64 0, .int .i64 0]) 2 16 Try.underlying26 hi0 hz0 hz1 hz2 rfl (by decide) _ R.length _ rfl G ⟨wr.heap.size + 1, 0, none⟩ 1 1 [.int .i64 at_, .int .i64 (n - at_)] rfl rfl N hone (by unfold maxLen; omega) (by omega) (by simp; omega) ?_))
          intro v' w5 hown hgrow _
          have B5 : Hid (Below w.heap.size w w5) := Lib.hid ((hb1.out.alloc hs1 (.cells #[.int .i64 at_, .int .i64 (n - at_)] 32)).grown hgrow (by simp; omega) (fun k hk => (ho.out.lt k hk).1))
          have O5 : Hid (OwnRuns w.heap.size w5 v' (Runs.gapsN n 0 l)) := Lib.hid (by
            rw [← he.out, hst.out, if_pos han]
            exact own_more rfl hown)
          clear hown hgrow
          go_wp2_with fail
          go_ret
          exact ⟨_, rfl, O5.out, B5.out⟩
        · have O5 : Hid (OwnRuns w.heap.size (wr.alloc (.cells #[.int .i64 xa, .int .i64 xb] 32)) u (Runs.gapsN n 0 l)) := Lib.hid (by
            rw [← he.out, hst.out, if_neg han, List.append_nil]
            exact ho1.out)
          go_wp2_with fail
          go_ret
          exact ⟨_, rfl, O5.out, hb1.out⟩
      · rw [if_neg hnx] at hst
        by_cases hax : at_ < xa
        · have hmw : IntKind.i64.wrap (xa - at_) = xa - at_ := IntWalk.i64_in _ (by have := HM.out; omega)
          rw [if_pos hax] at hst
          have G : ((wr.alloc (.cells #[.int .i64 xa, .int .i64 xb] 32)).alloc (.cells #[.int .i64 at_, .int .i64 (xa - at_)] 32)).ownsRow w.heap.size 32 2 u R.length (rcells R) := own_belowR ho1.out ((Below.refl _ _).alloc (Nat.le_refl _) _)
          have N : ∀ jj uu, [Value.int .i64 at_, Value.int .i64 (xa - at_)][jj]? = some uu → ((wr.alloc (.cells #[.int .i64 xa, .int .i64 xb] 32)).alloc (.cells #[.int .i64 at_, .int .i64 (xa - at_)] 32)).cell? ((⟨wr.heap.size + 1, 0, none⟩ : Addr).add jj) = some uu := fun jj uu hjj => by
            have hadd : (⟨wr.heap.size + 1, 0, none⟩ : Addr).add jj = ⟨wr.heap.size + 1, jj, none⟩ := by unfold Addr.add; split <;> simp_all
            rw [hadd, World.cell?_alloc_at _ _ _ _ (by simp)]
            simpa using hjj
          have hone := rcells_one [(at_, xa - at_)]
          go_wp2_with (first
            | (at_builtin; refine wpList_append_own _ rfl _ _ 26 rfl w.heap.size 32 i0' (.agg #[.int .i64 0, .int .i64 0]) 2 16 Try.underlying26 hi0 hz0 hz1 hz2 rfl (by decide) _ R.length _ rfl G ⟨wr.heap.size + 1, 0, none⟩ 1 1 [.int .i64 at_, .int .i64 (xa - at_)] rfl rfl N hone (by unfold maxLen; omega) (by omega) (by simp; omega) ?_))
          intro v' w5 hown hgrow _
          have B5 : Hid (Below w.heap.size w w5) := Lib.hid ((hb1.out.alloc hs1 (.cells #[.int .i64 at_, .int .i64 (xa - at_)] 32)).grown hgrow (by simp; omega) (fun k hk => (ho.out.lt k hk).1))
          have bx0 : w5.cell? ⟨wr.heap.size, 0, none⟩ = some (.int .i64 xa) := hgrow.cell (by rw [World.cell?_alloc_past _ _ _ (by simp), box_cell]; rfl) (fun e => by have := (ho.out.lt _ e.symm).2; dsimp only at this; omega)
          have bx1 : w5.cell? ⟨wr.heap.size, 1, none⟩ = some (.int .i64 xb) := hgrow.cell (by rw [World.cell?_alloc_past _ _ _ (by simp), box_cell]; rfl) (fun e => by have := (ho.out.lt _ e.symm).2; dsimp only at this; omega)
          have O5 : Hid (OwnRuns w.heap.size w5 v' (R ++ [(at_, xa - at_)])) := Lib.hid (own_more rfl hown)
          clear hown hgrow
          go_wp2_with fail
          refine (hex.out _).mono ?_
          rintro e w6 ⟨rfl, b6⟩
          have O6 : Hid (OwnRuns w.heap.size w6 v' (R ++ [(at_, xa - at_)])) := Lib.hid (own_belowR O5.out b6)
          have B6 : Hid (Below w.heap.size w w6) := Lib.hid (B5.out.trans (b6.mono B5.out.size))
          have z6 := B6.out.size
          have he6 : Hid ((R ++ [(at_, xa - at_)]) ++ Runs.gapsN n (Runs.fin (xa, xb)) (l.drop (j + 1)) = Runs.gapsN n 0 l) := Lib.hid (by rw [← he.out, hst.out, List.append_assoc])
          clear b6
          go_wp2_with fail
          go_roundw
          case rel => exact ⟨v', j + 1, Runs.fin (xa, xb), _, rfl, rfl, by go_num, by omega, by simp; omega, by have := HM.out; have := hHF.out; omega, by have := HM.out; have := hHF.out; omega, he6, O6, B6, z6⟩
          case measure => simp [intOf]; omega
        · rw [if_neg hax, List.nil_append] at hst
          go_wp2_with fail
          refine (hex.out _).mono ?_
          rintro e w6 ⟨rfl, b6⟩
          have b7 : Below wr.heap.size wr w6 := ((Below.refl wr.heap.size wr).alloc (Nat.le_refl _) _).trans (b6.mono (by simp))
          have O6 : Hid (OwnRuns w.heap.size w6 u R) := Lib.hid (own_belowR ho.out b7)
          have B6 : Hid (Below w.heap.size w w6) := Lib.hid (hb.out.trans (b7.mono hsz))
          have z6 := B6.out.size
          have he6 : Hid (R ++ Runs.gapsN n (Runs.fin (xa, xb)) (l.drop (j + 1)) = Runs.gapsN n 0 l) := Lib.hid (by rw [← he.out, hst.out])
          clear b6 b7
          go_wp2_with fail
          go_roundw
          case rel => exact ⟨u, j + 1, Runs.fin (xa, xb), R, rfl, rfl, by go_num, by omega, by omega, by have := HM.out; have := hHF.out; omega, by have := HM.out; have := hHF.out; omega, he6, O6, B6, z6⟩
          case measure => simp [intOf]; omega
    · obtain rfl : j = l.length := by omega
      have hst := Lib.hid (gaps_end n l at_)
      have hfu : ∃ ado co, u = .slice ado R.length co := by
        rcases ho.out.2 with ⟨rfl, h0⟩ | ⟨g, cap, cur, rfl, _⟩
        · exact ⟨none, 0, by rw [h0]⟩
        · exact ⟨_, _, rfl⟩
      by_cases han : at_ < n
      · have hmw : IntKind.i64.wrap (n - at_) = n - at_ := IntWalk.i64_in _ (by omega)
        have G : (wr.alloc (.cells #[.int .i64 at_, .int .i64 (n - at_)] 32)).ownsRow w.heap.size 32 2 u R.length (rcells R) := own_belowR ho.out ((Below.refl _ _).alloc (Nat.le_refl _) _)
        have N : ∀ jj uu, [Value.int .i64 at_, Value.int .i64 (n - at_)][jj]? = some uu → (wr.alloc (.cells #[.int .i64 at_, .int .i64 (n - at_)] 32)).cell? ((⟨wr.heap.size, 0, none⟩ : Addr).add jj) = some uu := fun jj uu hjj => by
          have hadd : (⟨wr.heap.size, 0, none⟩ : Addr).add jj = ⟨wr.heap.size, jj, none⟩ := by unfold Addr.add; split <;> simp_all
          rw [hadd, World.cell?_alloc_at _ _ _ _ rfl]
          simpa using hjj
        have hone := rcells_one [(at_, n - at_)]
        clear hfu
        go_wp2_with (first
          | (at_builtin; refine wpList_append_own _ rfl _ _ 26 rfl w.heap.size 32 i0' (.agg #[.int .i64 0, .int .i64 0]) 2 16 Try.underlying26 hi0 hz0 hz1 hz2 rfl (by decide) _ R.length _ rfl G ⟨wr.heap.size, 0, none⟩ 1 1 [.int .i64 at_, .int .i64 (n - at_)] rfl rfl N hone (by unfold maxLen; omega) (by omega) (by simp; omega) ?_))
        intro v' w5 hown hgrow _
        have B5 : Hid (Below w.heap.size w w5) := Lib.hid ((hb.out.alloc hsz (.cells #[.int .i64 at_, .int .i64 (n - at_)] 32)).grown hgrow (by simp; omega) (fun k hk => (ho.out.lt k hk).1))
        have O5 : Hid (OwnRuns w.heap.size w5 v' (Runs.gapsN n 0 l)) := Lib.hid (by
          rw [← he.out, hst.out, if_pos han]
          exact own_more rfl hown)
        clear hown hgrow
        go_wp2_with fail
        go_ret
        exact ⟨_, rfl, O5.out, B5.out⟩
      · have O5 : Hid (OwnRuns w.heap.size wr u (Runs.gapsN n 0 l)) := Lib.hid (by
          rw [← he.out, hst.out, if_neg han, List.append_nil]
          exact ho.out)
        go_wp2_with fail
        go_ret
        exact ⟨_, rfl, O5.out, hb.out⟩

end Go.Proofs.Ytgpjldmndibalaa
