/- The document's cut. -/
import Derived.Test.YtgpjldmndibalaaRunsRefNorm
namespace Go.Proofs.Ytgpjldmndibalaa
open Go Go.RowKit

theorem OwnRuns.below' {B : Nat} {w w' : World} {v : Value} {l : RL} (h : OwnRuns B w v l) (hb : Below w.heap.size w w') : OwnRuns B w' v l := own_belowR h hb
theorem cut_next (l : RL) (x : Int × Int) (j : Nat) (hj : j < l.length) : Runs.cutR (l.take (j + 1)) x = Runs.cutR (l.take j) x ++ Runs.cutOne (l.getD j (0, 0)) x := by
  unfold Runs.cutR
  rw [List.take_succ_eq_append_getElem hj, List.flatMap_append]
  simp [List.getD, hj]
theorem rcut_len (l : RL) (x : Int × Int) : (Runs.cutR l x).length ≤ 2 * l.length := by
  unfold Runs.cutR
  induction l with
  | nil => simp
  | cons y l ih =>
    have h : (Runs.cutOne y x).length ≤ 2 := by
      unfold Runs.cutOne
      rw [List.length_append]
      have h1 : ∀ (c : Prop) [Decidable c] (z : Int × Int), (if c then [z] else []).length ≤ 1 := fun c _ z => by split <;> simp
      have := h1 (y.1 < min (Runs.fin y) x.1) (y.1, min (Runs.fin y) x.1 - y.1)
      have := h1 (max y.1 (Runs.fin x) < Runs.fin y) (max y.1 (Runs.fin x), Runs.fin y - max y.1 (Runs.fin x))
      omega
    simp only [List.flatMap_cons, List.length_append, List.length_cons]
    omega

set_option maxRecDepth 100000 in
set_option maxHeartbeats 8000000 in
theorem cut_any (v : Value) (l : RL) (x : Int × Int) (w : World) (hl : Runs.Row l) (hx : Runs.may x) (h : RunsAt w v l) (hn : l.length ≤ 100000000) :
    Calls Try.prog 69 #[v, .agg #[.int .i64 x.1, .int .i64 x.2]] w fun e w' => ∃ v', e = .returned v' ∧ OwnRuns w.heap.size w' v' (Runs.cutR l x) ∧ Below w.heap.size w w' := by
  obtain ⟨i0', hi0, hz0, hz1, hz2⟩ := info_parts info_run
  obtain ⟨ad, cap, rfl⟩ : ∃ ad cap, v = .slice ad l.length cap := by
    rcases h with ⟨rfl, rfl⟩ | ⟨b, off, cap, rfl, _⟩
    · exact ⟨_, _, rfl⟩
    · exact ⟨_, _, rfl⟩
  have H := Lib.hid h
  have hlm := Lib.hid (fun i (hi : i < l.length) => (by
    have : l.getD i (0, 0) = l[i] := by simp [List.getD, hi]
    rw [this]
    exact hl.may _ (List.getElem_mem hi) : Runs.may (l.getD i (0, 0))))
  have hcn := Lib.hid (cut_next l x)
  have hcl := Lib.hid (fun j => rcut_len (l.take j) x)
  have bA : Below w.heap.size w (w.alloc (.cells #[.int .i64 x.1, .int .i64 x.2] 32)) := (Below.refl _ _).alloc (Nat.le_refl _) _
  have hxm := hx
  unfold Runs.may Runs.top at hxm
  have BA := Lib.hid bA
  clear h hl bA hx
  obtain ⟨xa, xb⟩ := x
  dsimp only at *
  go_enter Try.func69, Try.ntmps69
  have zX : w.heap.size < (w.alloc (.cells #[.int .i64 xa, .int .i64 xb] 32)).heap.size := by simp
  have x0 : (w.alloc (.cells #[.int .i64 xa, .int .i64 xb] 32)).cell? ⟨w.heap.size, 0, none⟩ = some (.int .i64 xa) := box_cell _ _ _ _
  have x1 : (w.alloc (.cells #[.int .i64 xa, .int .i64 xb] 32)).cell? ⟨w.heap.size, 1, none⟩ = some (.int .i64 xb) := box_cell _ _ _ _
  go_wp2_with fail
  generalize w.alloc (.cells #[.int .i64 xa, .int .i64 xb] 32) = wA at *
  obtain ⟨X, hX⟩ : ∃ X, w.heap.size = X := ⟨_, rfl⟩
  rw [hX] at x0 x1 zX ⊢
  have X0 := Lib.hid x0
  have X1 := Lib.hid x1
  clear x0 x1
  go_loopw [5, 6] (fun p q wr => ∃ (u : Value) (j : Nat), u = p ∧ q = .int .i64 j ∧ j ≤ l.length ∧ Hid (OwnRuns wA.heap.size wr u (Runs.cutR (l.take j) (xa, xb))) ∧ Hid (Below wA.heap.size wA wr)) (fun _ q _ => l.length - (intOf q).toNat)
  case atStart => exact ⟨_, 0, rfl, rfl, by omega, Lib.hid (World.ownsRow_nil _ _ _ _), Lib.hid (Below.refl _ _)⟩
  case round =>
    obtain ⟨u, j, rfl, rfl, hj, ho, hb⟩ := hrel
    by_cases hlt : j < l.length
    · have i0 : (0 : Int) ≤ (j : Int) := by omega
      have i1 : (j : Int) < (l.length : Int) := by omega
      obtain ⟨hll, g, off, rfl, c0, c1⟩ := (H.out.below (B := 0) (BA.out.trans (hb.out.mono BA.out.size))).cells j hlt
      clear hll
      have hmy := hlm.out j hlt
      have hnx := Lib.hid (hcn.out j hlt)
      have hRl := hcl.out j
      have hsz := hb.out.size
      rw [List.length_take] at hRl
      generalize l.getD j (0, 0) = y at *
      generalize Runs.cutR (l.take j) (xa, xb) = R at *
      obtain ⟨ya, yb⟩ := y
      unfold Runs.may Runs.top at hmy
      unfold Runs.cutOne Runs.fin at hnx
      dsimp only at *
      have wy : IntKind.i64.wrap (ya + yb) = ya + yb := IntWalk.i64_in _ (by omega)
      have wx : IntKind.i64.wrap (xa + xb) = xa + xb := IntWalk.i64_in _ (by omega)
      obtain ⟨m, hm⟩ : ∃ m, min (ya + yb) xa = m := ⟨_, rfl⟩
      obtain ⟨n, hn1⟩ : ∃ n, max ya (xa + xb) = n := ⟨_, rfl⟩
      have hm' : (if xa < ya + yb then xa else ya + yb) = m := by rw [← hm]; split <;> omega
      have hn' : (if ya < xa + xb then xa + xb else ya) = n := by rw [← hn1]; split <;> omega
      rw [hm, hn1] at hnx
      have wm : IntKind.i64.wrap (m - ya) = m - ya := IntWalk.i64_in _ (by omega)
      have wn : IntKind.i64.wrap (ya + yb - n) = ya + yb - n := IntWalk.i64_in _ (by omega)
      have y0 : (wr.alloc (.cells #[.int .i64 ya, .int .i64 yb] 32)).cell? ⟨wr.heap.size, 0, none⟩ = some (.int .i64 ya) := box_cell _ _ _ _
      have y1 : (wr.alloc (.cells #[.int .i64 ya, .int .i64 yb] 32)).cell? ⟨wr.heap.size, 1, none⟩ = some (.int .i64 yb) := box_cell _ _ _ _
      go_upto_region 6 with fail
      go_quiet (fail)
      have bq : Below wr.heap.size wr ((wr.alloc (.cells #[.int .i64 ya, .int .i64 yb] 32)).drewN nq) := below_dr ((Below.refl _ _).alloc (Nat.le_refl _) _)
      generalize (wr.alloc (.cells #[.int .i64 ya, .int .i64 yb] 32)).drewN nq = wq at *
      have hoq := Lib.hid (OwnRuns.below' ho.out bq)
      have hbq := Lib.hid (hb.out.trans (bq.mono hsz))
      clear ho hb y0 y1 c0 c1 bq
      have x0 := (hbq.out.cell (p := ⟨X, 0, none⟩) zX).trans X0.out
      have x1 := (hbq.out.cell (p := ⟨X, 1, none⟩) zX).trans X1.out
      have zq := hbq.out.size
      go_upto_if 33 with fail
      go_cut [5] from 28 to 44 (fun p wx => ∃ (u' : Value) (R' : RL), u' = p ∧ R'.length ≤ R.length + 1 ∧ Hid (R' = R ++ (if ya < m then [(ya, m - ya)] else [])) ∧ Hid (OwnRuns wA.heap.size wx u' R') ∧ Hid (Below wA.heap.size wA wx))
      case first =>
        by_cases k : ya < m
        · skip
          have G : (wq.alloc (.cells #[.int .i64 ya, .int .i64 (m - ya)] 32)).ownsRow wA.heap.size 32 2 u R.length (rcells R) := own_belowR hoq.out ((Below.refl _ _).alloc (Nat.le_refl _) _)
          have NN : ∀ jj uu, [Value.int .i64 ya, Value.int .i64 (m - ya)][jj]? = some uu → (wq.alloc (.cells #[.int .i64 ya, .int .i64 (m - ya)] 32)).cell? ((⟨wq.heap.size, 0, none⟩ : Addr).add jj) = some uu := fun jj uu hjj => by
            have hadd : (⟨wq.heap.size, 0, none⟩ : Addr).add jj = ⟨wq.heap.size, jj, none⟩ := by unfold Addr.add; split <;> simp_all
            rw [hadd, World.cell?_alloc_at _ _ _ _ rfl]
            simpa using hjj
          have hone := rcells_one [(ya, m - ya)]
          go_wp2_with (first
            | (at_builtin; refine wpList_append_own _ rfl _ _ 26 rfl wA.heap.size 32 i0' (.agg #[.int .i64 0, .int .i64 0]) 2 16 Try.underlying26 hi0 hz0 hz1 hz2 rfl (by decide) _ R.length _ rfl G ⟨wq.heap.size, 0, none⟩ 1 1 [.int .i64 ya, .int .i64 (m - ya)] rfl rfl NN hone (by unfold maxLen; omega) (by omega) (by simp; omega) ?_))
          intro v' w5 hown hgrow _
          have B5 : Hid (Below wA.heap.size wA w5) := Lib.hid ((hbq.out.alloc hbq.out.size (.cells #[.int .i64 ya, .int .i64 (m - ya)] 32)).grown hgrow (by have := hbq.out.size; simp; omega) (fun k hk => (World.ownsRow.lt hoq.out k hk).1))
          have O5 : Hid (OwnRuns wA.heap.size w5 v' (R ++ [(ya, m - ya)])) := Lib.hid (own_more rfl hown)
          clear hown hgrow
          go_wp2_with fail
          go_meet
          case rel => exact ⟨v', _, rfl, by simp, Lib.hid (by rw [if_pos k]), O5, B5⟩
        · go_wp2_with fail
          go_meet
          case rel => exact ⟨u, R, rfl, by omega, Lib.hid (by rw [if_neg (by omega), List.append_nil]), hoq, hbq⟩
      obtain ⟨u', R', rfl, hR', hRe, ho', hb'⟩ := hcut
      clear hoq hbq x0 x1
      have x0 := (hb'.out.cell (p := ⟨X, 0, none⟩) zX).trans X0.out
      have x1 := (hb'.out.cell (p := ⟨X, 1, none⟩) zX).trans X1.out
      have zc := hb'.out.size
      by_cases k : n < ya + yb
      · rw [if_pos k] at hnx
        have G : (wc.alloc (.cells #[.int .i64 n, .int .i64 (ya + yb - n)] 32)).ownsRow wA.heap.size 32 2 u' R'.length (rcells R') := own_belowR ho'.out ((Below.refl _ _).alloc (Nat.le_refl _) _)
        have NN : ∀ jj uu, [Value.int .i64 n, Value.int .i64 (ya + yb - n)][jj]? = some uu → (wc.alloc (.cells #[.int .i64 n, .int .i64 (ya + yb - n)] 32)).cell? ((⟨wc.heap.size, 0, none⟩ : Addr).add jj) = some uu := fun jj uu hjj => by
          have hadd : (⟨wc.heap.size, 0, none⟩ : Addr).add jj = ⟨wc.heap.size, jj, none⟩ := by unfold Addr.add; split <;> simp_all
          rw [hadd, World.cell?_alloc_at _ _ _ _ rfl]
          simpa using hjj
        have hone := rcells_one [(n, ya + yb - n)]
        go_wp2_with (first
          | (at_builtin; refine wpList_append_own _ rfl _ _ 26 rfl wA.heap.size 32 i0' (.agg #[.int .i64 0, .int .i64 0]) 2 16 Try.underlying26 hi0 hz0 hz1 hz2 rfl (by decide) _ R'.length _ rfl G ⟨wc.heap.size, 0, none⟩ 1 1 [.int .i64 n, .int .i64 (ya + yb - n)] rfl rfl NN hone (by unfold maxLen; omega) (by omega) (by simp; omega) ?_))
        intro v' w5 hown hgrow _
        have B5 : Hid (Below wA.heap.size wA w5) := Lib.hid ((hb'.out.alloc hb'.out.size (.cells #[.int .i64 n, .int .i64 (ya + yb - n)] 32)).grown hgrow (by have := hb'.out.size; simp; omega) (fun k hk => (World.ownsRow.lt ho'.out k hk).1))
        have O5 : Hid (OwnRuns wA.heap.size w5 v' (R' ++ [(n, ya + yb - n)])) := Lib.hid (own_more rfl hown)
        clear hown hgrow
        have O9 : Hid (OwnRuns wA.heap.size w5 v' (Runs.cutR (l.take (j + 1)) (xa, xb))) := Lib.hid (by
          rw [hnx.out, ← List.append_assoc, ← hRe.out]
          exact O5.out)
        clear O5 ho' hb'
        go_wp2_with fail
        go_roundw
        case rel => exact ⟨v', j + 1, rfl, by go_num, by omega, O9, B5⟩
        case measure => simp [intOf]; omega
      · rw [if_neg k] at hnx
        have O9 : Hid (OwnRuns wA.heap.size wc u' (Runs.cutR (l.take (j + 1)) (xa, xb))) := Lib.hid (by
          rw [hnx.out, List.append_nil, ← hRe.out]
          exact ho'.out)
        clear ho'
        go_wp2_with fail
        go_roundw
        case rel => exact ⟨u', j + 1, rfl, by go_num, by omega, O9, hb'⟩
        case measure => simp [intOf]; omega
    · obtain rfl : j = l.length := by omega
      have O9 : Hid (OwnRuns w.heap.size wr u (Runs.cutR l (xa, xb))) := Lib.hid (by
        have := ho.out
        rw [List.take_length] at this
        exact World.ownsRow.mono this BA.out.size)
      have B9 := Lib.hid (BA.out.trans (hb.out.mono BA.out.size))
      go_wp2_with fail
      go_ret
      exact ⟨_, rfl, O9.out, B9.out⟩

end Go.Proofs.Ytgpjldmndibalaa
