/- Lists of runs: Normal. -/
import Derived.Test.YtgpjldmndibalaaRunsSort
import Derived.Test.YtgpjldmndibalaaRunsOps
import Derived.Deep.CutRange
import Derived.Deep.Onto
import Derived.Deep.RegionHeld3
namespace Go.Proofs.Ytgpjldmndibalaa
open Go Go.RowKit

theorem sort_v (B : Nat) (v : Value) (l : RL) (w : World) (h : OwnRuns B w v l) (hl : l.length ≤ 1000000000) (hB : B ≤ w.heap.size) :
    Calls Try.prog 53 #[v, .func (.func 54) #[] #[]] w fun e w' => e = .returned (.tuple #[]) ∧ ∃ s : RL, s.Perm l ∧ s.Pairwise (fun x y => x.1 ≤ y.1) ∧ OwnRuns B w' v s ∧ Below B w w' := by
  by_cases h0 : l.length = 0
  · obtain rfl := List.eq_nil_of_length_eq_zero h0
    obtain ⟨ad, cap, rfl⟩ : ∃ ad cap, v = .slice ad 0 cap := by
      rcases h.2 with ⟨rfl, _⟩ | ⟨g, cap, cur, rfl, _⟩
      · exact ⟨_, _, rfl⟩
      · exact ⟨_, _, rfl⟩
    refine (sortNone_any ad cap _ w).mono ?_
    rintro e w' ⟨rfl, rfl⟩
    exact ⟨rfl, [], List.Perm.refl _, List.Pairwise.nil, h, Below.refl _ _⟩
  · obtain ⟨g, cap, rfl, _⟩ : ∃ g cap, v = .slice (some ⟨g, 0, none⟩) l.length cap ∧ B ≤ g ∧ g < w.heap.size := World.ownsRow.form h (by omega)
    exact sort_own B g cap l w h hl hB

theorem end_b (x : Int × Int) (h : -9223372036854775808 ≤ Runs.fin x ∧ Runs.fin x ≤ 9223372036854775807) (w : World) : Calls Try.prog 48 #[.agg #[.int .i64 x.1, .int .i64 x.2]] w fun e w' => e = .returned (.int .i64 (Runs.fin x)) ∧ Below w.heap.size w w' := by
  refine (end_any x h w).mono ?_
  rintro e w' ⟨rfl, rfl⟩
  exact ⟨rfl, (Below.refl _ _).alloc (Nat.le_refl _) _⟩
theorem may_fin {x : Int × Int} (h : Runs.may x) : -9223372036854775808 ≤ Runs.fin x ∧ Runs.fin x ≤ 9223372036854775807 := by
  unfold Runs.may Runs.top at h
  unfold Runs.fin
  omega
theorem merge_next (s : RL) (j : Nat) (hj : j < s.length) : Runs.mergeN (s.take (j + 1)) = Runs.mstep (Runs.mergeN (s.take j)) (s.getD j (0, 0)) := by
  unfold Runs.mergeN
  rw [List.take_succ_eq_append_getElem hj, List.foldl_append]
  simp [List.getD, hj]
theorem merge_len (l out : RL) : (l.foldl Runs.mstep out).length ≤ out.length + l.length := by
  induction l generalizing out with
  | nil => simp
  | cons x l ih =>
    have h1 : (Runs.mstep out x).length ≤ out.length + 1 := by
      rcases List.eq_nil_or_concat out with rfl | ⟨a, z, rfl⟩
      · simp [Runs.mstep_nil]
      · rw [List.concat_eq_append, Runs.mstep_snoc]
        split <;> simp <;> omega
    have := ih (Runs.mstep out x)
    simp only [List.foldl_cons, List.length_cons]
    omega
theorem Rises.take {s : RL} (h : Runs.Rises s) (j : Nat) : Runs.Rises (s.take j) := ⟨List.Pairwise.sublist (List.take_sublist _ _) h.1, fun x hx => h.2 x (List.mem_of_mem_take hx)⟩
/-- What is known of the merged head. -/
theorem merge_told {s : RL} (h : Runs.Rises s) (j : Nat) (hj : j < s.length) : (∀ z ∈ Runs.mergeN (s.take j), Runs.may z) ∧ Runs.may (s.getD j (0, 0)) ∧ (Runs.mergeN (s.take j)).length ≤ j := by
  refine ⟨(Runs.mergeN_spec _ (Rises.take h j)).1.may, h.2 _ ?_, ?_⟩
  · have : s.getD j (0, 0) = s[j] := by simp [List.getD, hj]
    rw [this]
    exact List.getElem_mem hj
  · have := merge_len (s.take j) []
    rw [List.length_take] at this
    unfold Runs.mergeN
    simp only [List.length_nil] at this
    omega
theorem own_more {B : Nat} {w : World} {v : Value} {R : RL} {n : Nat} {xa xb : Int} (hn : n = R.length) (h : w.ownsRow B 32 2 v (n + 1) (rcells R ++ [.int .i64 xa, .int .i64 xb])) : OwnRuns B w v (R ++ [(xa, xb)]) := by
  subst hn
  unfold OwnRuns
  rw [rcells_append, List.length_append]
  exact h
theorem filter_mem (l : RL) (i : Int) : Runs.mem (l.filter mayB) i ↔ Runs.mem l i := Runs.mem_filter l i

set_option maxRecDepth 100000 in
set_option maxHeartbeats 4000000 in
theorem normal_any (v : Value) (l : RL) (w : World) (hs : Smalls l) (h : RunsAt w v l) (hl : l.length ≤ 1000000000) :
    Calls Try.prog 39 #[v] w fun e w' => ∃ v', e = .returned v' ∧ OwnRuns w.heap.size w' v' (Runs.normR l) ∧ Below w.heap.size w w' := by
  obtain ⟨i0', hi0, hz0, hz1, hz2⟩ := info_parts info_run
  have hc := Lib.hid (clone_any v l w h hl)
  have HS := Lib.hid hs
  clear h hs
  go_enter Try.func39, Try.ntmps39
  go_wp2_with fail
  refine hc.out.mono ?_
  rintro e w1 ⟨v1, rfl, h1, b1⟩
  have hd := Lib.hid (deleteBad_any w.heap.size v1 l w1 HS.out h1 hl b1.size)
  have B1 := Lib.hid b1
  clear b1 h1 hc
  go_wp2_with fail
  refine hd.out.mono ?_
  rintro e w2 ⟨v2, rfl, h2, b2⟩
  have hl2 : (l.filter mayB).length ≤ 1000000000 := Nat.le_trans (List.length_filter_le _ _) hl
  have hb2 := B1.out.trans b2
  have ht := Lib.hid (sort_v w.heap.size v2 (l.filter mayB) w2 h2 hl2 hb2.size)
  have B2 := Lib.hid hb2
  clear b2 h2 hd hb2 B1
  go_wp2_with fail
  refine ht.out.mono ?_
  rintro e w3 ⟨rfl, s, hp, hpw, h3, b3⟩
  have B3 := Lib.hid (B2.out.trans b3)
  have hsl : s.length ≤ 1000000000 := by rw [hp.length_eq]; exact hl2
  have hris : Hid (Runs.Rises s) := Lib.hid ⟨hpw, fun x hx => by
    have := (List.mem_filter.mp (hp.mem_iff.mp hx)).2
    simpa [mayB] using this⟩
  have hmeq : Hid (Runs.mergeN s = Runs.normR l) := Lib.hid (Runs.mergeN_eq l s hris.out (fun i => (Runs.mem_perm hp i).trans (filter_mem l i)))
  have hat := Lib.hid h3.at
  clear b3 ht B2 hp hpw h3
  obtain ⟨ad, cap, rfl⟩ : ∃ ad cap, v2 = .slice ad s.length cap := by
    rcases hat.out with ⟨rfl, rfl⟩ | ⟨b, off, cap, rfl, _⟩
    · exact ⟨_, _, rfl⟩
    · exact ⟨_, _, rfl⟩
  go_wp2_with fail
  go_loopw [3, 14] (fun p q wr => ∃ (u : Value) (j : Nat), u = p ∧ j ≤ s.length ∧ q = .int .i64 j ∧ Hid (OwnRuns w3.heap.size wr u (Runs.mergeN (s.take j))) ∧ Hid (Below w3.heap.size w3 wr) ∧ w3.heap.size ≤ wr.heap.size) (fun _ q _ => s.length - (intOf q).toNat)
  case atStart => exact ⟨_, 0, rfl, by omega, rfl, Lib.hid (World.ownsRow_nil _ _ _ _), Lib.hid (Below.refl _ _), Nat.le_refl _⟩
  case round =>
    obtain ⟨u, j, rfl, hj, rfl, ho, hb, hsz⟩ := hrel
    by_cases hlt : j < s.length
    · have i0 : (0 : Int) ≤ (j : Int) := by omega
      have i1 : (j : Int) < (s.length : Int) := by omega
      obtain ⟨hmz, hmx, hrl⟩ := merge_told hris.out j hlt
      have hnx := Lib.hid (merge_next s j hlt)
      obtain ⟨hll, g, off, rfl, c0, c1⟩ := (hat.out.below (B := 0) hb.out).cells j hlt
      clear hll
      generalize Runs.mergeN (s.take j) = R at *
      generalize s.getD j (0, 0) = x at *
      rcases List.eq_nil_or_concat R with rfl | ⟨a, z, rfl⟩
      · rw [Runs.mstep_nil] at hnx
        obtain ⟨ado, co, rfl⟩ : ∃ ado co, u = .slice ado 0 co := by
          rcases ho.out.2 with ⟨rfl, _⟩ | ⟨g, cap, cur, rfl, _⟩
          · exact ⟨_, _, rfl⟩
          · exact ⟨_, _, rfl⟩
        obtain ⟨xa, xb⟩ := x
        dsimp only at *
        have hone := rcells_one [(xa, xb)]
        have hwr : w3.heap.size ≤ wr.heap.size := hsz
        clear hmz
        have G : ∀ nq, (((wr.alloc (.cells #[.int .i64 xa, .int .i64 xb] 32)).drewN nq).alloc (.cells #[.int .i64 xa, .int .i64 xb] 32)).ownsRow w3.heap.size 32 2 (.slice ado 0 co) 0 [] := fun nq => own_belowR ho.out ((below_dr ((Below.refl _ _).alloc (Nat.le_refl _) _)).alloc (by simp) _)
        have N : ∀ nq, ∀ jj uu, [Value.int .i64 xa, Value.int .i64 xb][jj]? = some uu → (((wr.alloc (.cells #[.int .i64 xa, .int .i64 xb] 32)).drewN nq).alloc (.cells #[.int .i64 xa, .int .i64 xb] 32)).cell? ((⟨wr.heap.size + 1, 0, none⟩ : Addr).add jj) = some uu := fun nq jj uu hjj => by
          have hadd : (⟨wr.heap.size + 1, 0, none⟩ : Addr).add jj = ⟨wr.heap.size + 1, jj, none⟩ := by unfold Addr.add; split <;> simp_all
          rw [hadd, World.cell?_alloc_at _ _ _ _ (by simp)]
          simpa using hjj
        go_wp2_with fail
        go_quiet (fail)
        go_wp2_with (first
          | (at_builtin; refine wpList_append_own _ rfl _ _ 26 rfl w3.heap.size 32 i0' (.agg #[.int .i64 0, .int .i64 0]) 2 16 Try.underlying26 hi0 hz0 hz1 hz2 rfl (by decide) _ 0 _ rfl (G nq) ⟨wr.heap.size + 1, 0, none⟩ 1 1 [.int .i64 xa, .int .i64 xb] rfl rfl (N nq) hone (by unfold maxLen; omega) (by omega) (by simp; omega) ?_))
        intro v' w4 hown hgrow _
        have B4 : Hid (Below w3.heap.size w3 w4) := Lib.hid ((hb.out.trans (((below_dr ((Below.refl _ wr).alloc (Nat.le_refl _) (.cells #[.int .i64 xa, .int .i64 xb] 32)) (n := nq)).alloc (by simp) (.cells #[.int .i64 xa, .int .i64 xb] 32)).mono hwr)).grown hgrow (by simp; omega) (fun k hk => (ho.out.lt k hk).1))
        have O4 : Hid (OwnRuns w3.heap.size w4 v' (Runs.mergeN (s.take (j + 1)))) := Lib.hid (by
          rw [hnx.out]
          exact own_more (R := []) rfl hown)
        have z4 := B4.out.size
        clear hown hgrow
        go_wp2_with fail
        go_roundw
        case rel => exact ⟨v', j + 1, rfl, by omega, by go_num, O4, B4, z4⟩
        case measure => simp [intOf]; omega
      · rw [List.concat_eq_append] at *
        rw [Runs.mstep_snoc] at hnx
        have hmz' := may_fin (hmz z (by simp))
        have hmx' := may_fin hmx
        have hla : a.length < 1000000000 := by simp at hrl; omega
        have hone := rcells_one [x]
        obtain ⟨xa, xb⟩ := x
        obtain ⟨za, zb⟩ := z
        have hez := Lib.hid (fun w => end_b (za, zb) hmz' w)
        have hex := Lib.hid (fun w => end_b (xa, xb) hmx' w)
        obtain ⟨gr, co, rfl, hg1, hg2⟩ : ∃ gr co, u = .slice (some ⟨gr, 0, none⟩) (a.length + 1) co ∧ w3.heap.size ≤ gr ∧ gr < wr.heap.size := by
          obtain ⟨gr, co, e, h⟩ := World.ownsRow.form ho.out (by simp)
          exact ⟨gr, co, by simpa using e, h⟩
        have ho' : wr.ownsRow w3.heap.size 32 2 (.slice (some ⟨gr, 0, none⟩) (a.length + 1) co) (a.length + 1) (rcells (a ++ [(za, zb)])) := by
          have := ho.out
          unfold OwnRuns at this
          rwa [show (a ++ [(za, zb)]).length = a.length + 1 by simp] at this
        have hco : a.length + 1 ≤ co := by
          rcases ho'.2 with ⟨hv, _⟩ | ⟨g', cap', cur, hv, _, _, h1, _⟩
          · cases hv
          · cases hv; exact h1
        obtain ⟨y0, y1⟩ := rcells_at (a ++ [(za, zb)]) a.length (by simp)
        have hgd : (a ++ [(za, zb)]).getD a.length (0, 0) = (za, zb) := by simp [List.getD]
        rw [hgd] at y0 y1
        have z0 := own_cellAt2 ho' y0
        have z1 := own_cellAt2 ho' y1
        have HO := Lib.hid ho'
        have hfz : Hid (Runs.fin (za, zb) = za + zb) := Lib.hid rfl
        have hfx : Hid (Runs.fin (xa, xb) = xa + xb) := Lib.hid rfl
        have hmzz := Lib.hid (hmz (za, zb) (by simp))
        have hmxx := Lib.hid hmx
        clear hmz hmx hmz' hmx' hrl ho ho' y0 y1 hgd
        dsimp only at *
        have k0 : (0 : Int) ≤ (a.length : Int) := by omega
        have k1 : (a.length : Int) < (a.length : Int) + 1 := by omega
        go_upto_region 8 with fail
        have bx0 : (wr.alloc (.cells #[.int .i64 xa, .int .i64 xb] 32)).cell? ⟨wr.heap.size, 0, none⟩ = some (.int .i64 xa) := box_cell _ _ _ _
        have bx1 : (wr.alloc (.cells #[.int .i64 xa, .int .i64 xb] 32)).cell? ⟨wr.heap.size, 1, none⟩ = some (.int .i64 xb) := box_cell _ _ _ _
        have bA : Below wr.heap.size wr (wr.alloc (.cells #[.int .i64 xa, .int .i64 xb] 32)) := (Below.refl _ _).alloc (Nat.le_refl _) _
        have sA : (wr.alloc (.cells #[.int .i64 xa, .int .i64 xb] 32)).heap.size = wr.heap.size + 1 := by simp
        have zA0 := (bA.cell (p := ⟨gr, a.length * 2, none⟩) hg2).trans z0
        have zA1 := (bA.cell (p := ⟨gr, a.length * 2 + 1, none⟩) hg2).trans z1
        generalize wr.alloc _ = wx at *
        generalize hX : wr.heap.size = X at *
        clear z0 z1 c0 c1
        go_region_held3 (fun w' => w'.cell? ⟨X, 0, none⟩ = some (.int .i64 xa) ∧ w'.cell? ⟨gr, a.length * 2, none⟩ = some (.int .i64 za) ∧ w'.cell? ⟨gr, a.length * 2 + 1, none⟩ = some (.int .i64 zb))
          (first | exact ⟨bx0, zA0, zA1⟩ | exact ⟨(b4.cell (p := ⟨X, 0, none⟩) (by simp; omega)).trans bx0, (b4.cell (p := ⟨gr, a.length * 2, none⟩) (by simp; omega)).trans zA0, (b4.cell (p := ⟨gr, a.length * 2 + 1, none⟩) (by simp; omega)).trans zA1⟩)
          (first | (go_at_call 48; refine (hez.out _).mono ?_; rintro e w4 ⟨rfl, b4'⟩; have b4 : Below wx.heap.size wx w4 := ⟨b4'.os, b4'.tape, b4'.output, b4'.size, b4'.block⟩))
        have BY : Below X wr w4 := bA.trans (b4.mono (by omega))
        have hb4 := Lib.hid (hb.out.trans (BY.mono hsz))
        have ho4' := own_belowR HO.out (hX ▸ BY)
        have q0 := (b4.cell (p := ⟨X, 0, none⟩) (by simp; omega)).trans bx0
        have q1 := (b4.cell (p := ⟨X, 1, none⟩) (by simp; omega)).trans bx1
        have z0 := (b4.cell (p := ⟨gr, a.length * 2, none⟩) (by simp; omega)).trans zA0
        have z1 := (b4.cell (p := ⟨gr, a.length * 2 + 1, none⟩) (by simp; omega)).trans zA1
        have s4 := BY.size
        have x4 : X + 1 ≤ w4.heap.size := by have := b4.size; omega
        have ho4 := Lib.hid ho4'
        clear ho4' BY b4 b4' bA zA0 zA1 bx0 bx1 sA HO
        by_cases hz : xa ≤ Runs.fin (za, zb)
        · rw [if_pos hz] at hnx
          clear hone
          have hmw : IntKind.i64.wrap (max (Runs.fin (za, zb)) (Runs.fin (xa, xb)) - za) = max (Runs.fin (za, zb)) (Runs.fin (xa, xb)) - za := IntWalk.i64_in _ (by
            have h1 := hmzz.out
            have h2 := hmxx.out
            have h3 := hfz.out
            have h4 := hfx.out
            unfold Runs.may Runs.top at h1 h2
            dsimp only at h1 h2
            omega)
          have HW := Lib.hid hmw
          clear hmw
          have sX : X < w4.heap.size := by omega
          have sg : gr < w4.heap.size := by omega
          have nXg : gr ≠ X := by omega
          go_upto_region 9 with fail
          refine wp_region_held_drew (S := fun w' => w'.cell? ⟨X, 0, none⟩ = some (.int .i64 xa) ∧ w'.cell? ⟨X, 1, none⟩ = some (.int .i64 xb) ∧ w'.cell? ⟨gr, a.length * 2, none⟩ = some (.int .i64 za)) (by kernel_rfl) (⟨q0, q1, z0⟩) (fun hHeld => ?_)
          refine wpAnyH_take (i := 0) (v := .slice (some ⟨gr, 0, none⟩) (a.length + 1) co) rfl (by kernel_rfl) (by kernel_rfl) (by kernel_rfl) (fun _ _ _ h => h) (Or.inl ⟨rfl, fun w hSw => ?_⟩) (by assumption) ?_
          · (try dsimp only at hSw); go_simp
          try simp only [List.getElem_toArray, List.getElem_cons_zero, Act.put, List.setIfInBounds_toArray, List.set_cons_zero, List.set_cons_succ]
          refine wpAnyH_take (i := 1) (v := .int .i64 (a.length : Int)) rfl (by kernel_rfl) (by kernel_rfl) (by kernel_rfl) (fun _ _ _ h => h) (Or.inl ⟨rfl, fun w hSw => ?_⟩) (by assumption) ?_
          · (try dsimp only at hSw); go_simp
          try simp only [List.getElem_toArray, List.getElem_cons_succ, List.getElem_cons_zero, Act.put, List.setIfInBounds_toArray, List.set_cons_zero, List.set_cons_succ]
          refine wpAnyH_take (i := 2) (v := .slice (some ⟨gr, 0, none⟩) (a.length + 1) co) rfl (by kernel_rfl) (by kernel_rfl) (by kernel_rfl) (fun _ _ _ h => h) (Or.inl ⟨rfl, fun w hSw => ?_⟩) (by assumption) ?_
          · (try dsimp only at hSw); go_simp
          try simp only [List.getElem_toArray, List.getElem_cons_succ, List.getElem_cons_zero, Act.put, List.setIfInBounds_toArray, List.set_cons_zero, List.set_cons_succ]
          refine wpAnyH_take (i := 3) (v := .int .i64 (a.length : Int)) rfl (by kernel_rfl) (by kernel_rfl) (by kernel_rfl) (fun _ _ _ h => h) (Or.inl ⟨rfl, fun w hSw => ?_⟩) (by assumption) ?_
          · (try dsimp only at hSw); go_simp
          try simp only [List.getElem_toArray, List.getElem_cons_succ, List.getElem_cons_zero, Act.put, List.setIfInBounds_toArray, List.set_cons_zero, List.set_cons_succ]
          refine wpAnyH_take (i := 4) (v := .pointer (some ⟨gr, a.length * 2, none⟩)) rfl (by kernel_rfl) (by kernel_rfl) (by kernel_rfl) (fun _ _ _ h => h) (Or.inl ⟨rfl, fun w hSw => ?_⟩) (by assumption) ?_
          · (try dsimp only at hSw); go_simp
          try simp only [List.getElem_toArray, List.getElem_cons_succ, List.getElem_cons_zero, Act.put, List.setIfInBounds_toArray, List.set_cons_zero, List.set_cons_succ]
          refine wpAnyH_take (i := 7) (v := .agg #[.int .i64 xa, .int .i64 xb]) rfl (by kernel_rfl) (by kernel_rfl) (by kernel_rfl) (fun _ _ _ h => h) (Or.inl ⟨rfl, fun w hSw => ?_⟩) (by assumption) ?_
          · (try dsimp only at hSw); go_simp
          try simp only [List.getElem_toArray, List.getElem_cons_succ, List.getElem_cons_zero, Act.put, List.setIfInBounds_toArray, List.set_cons_zero, List.set_cons_succ]
          refine wpAnyH_take (i := 10) (v := .slice (some ⟨gr, 0, none⟩) (a.length + 1) co) rfl (by kernel_rfl) (by kernel_rfl) (by kernel_rfl) (fun _ _ _ h => h) (Or.inl ⟨rfl, fun w hSw => ?_⟩) (by assumption) ?_
          · (try dsimp only at hSw); go_simp
          try simp only [List.getElem_toArray, List.getElem_cons_succ, List.getElem_cons_zero, Act.put, List.setIfInBounds_toArray, List.set_cons_zero, List.set_cons_succ]
          refine wpAnyH_take (i := 11) (v := .int .i64 (a.length : Int)) rfl (by kernel_rfl) (by kernel_rfl) (by kernel_rfl) (fun _ _ _ h => h) (Or.inl ⟨rfl, fun w hSw => ?_⟩) (by assumption) ?_
          · (try dsimp only at hSw); go_simp
          try simp only [List.getElem_toArray, List.getElem_cons_succ, List.getElem_cons_zero, Act.put, List.setIfInBounds_toArray, List.set_cons_zero, List.set_cons_succ]
          refine wpAnyH_take (i := 12) (v := .pointer (some ⟨gr, a.length * 2, none⟩)) rfl (by kernel_rfl) (by kernel_rfl) (by kernel_rfl) (fun _ _ _ h => h) (Or.inl ⟨rfl, fun w hSw => ?_⟩) (by assumption) ?_
          · (try dsimp only at hSw); go_simp
          try simp only [List.getElem_toArray, List.getElem_cons_succ, List.getElem_cons_zero, Act.put, List.setIfInBounds_toArray, List.set_cons_zero, List.set_cons_succ]
          refine wpAnyH_take (i := 13) (v := .pointer (some ⟨gr, a.length * 2, none⟩)) rfl (by kernel_rfl) (by kernel_rfl) (by kernel_rfl) (fun _ _ _ h => h) (Or.inl ⟨rfl, fun w hSw => ?_⟩) (by assumption) ?_
          · (try dsimp only at hSw); go_simp
          try simp only [List.getElem_toArray, List.getElem_cons_succ, List.getElem_cons_zero, Act.put, List.setIfInBounds_toArray, List.set_cons_zero, List.set_cons_succ]
          refine wpAnyH_take (i := 14) (v := .int .i64 za) rfl (by kernel_rfl) (by kernel_rfl) (by kernel_rfl) (fun _ _ _ h => h) (Or.inl ⟨rfl, fun w hSw => ?_⟩) (by assumption) ?_
          · (try dsimp only at hSw); go_simp
          try simp only [List.getElem_toArray, List.getElem_cons_succ, List.getElem_cons_zero, Act.put, List.setIfInBounds_toArray, List.set_cons_zero, List.set_cons_succ]
          refine wpAnyH_ready (rs := [5]) (by kernel_rfl) (by simp) ?_
          refine AllReadyH.cons rfl (fun K hK => ?_) AllReadyH.nil
          go_simp
          refine hK.out _ _ (⟨q0, q1, z0⟩) (fun hHeld => ?_)
          clear hK K
          try simp only [List.getElem_toArray, List.getElem_cons_succ, List.getElem_cons_zero, Act.put, List.setIfInBounds_toArray, List.set_cons_zero, List.set_cons_succ]
          refine wpAnyH_ready (rs := [6]) (by kernel_rfl) (by simp) ?_
          refine AllReadyH.cons rfl (fun K hK => ?_) AllReadyH.nil
          go_simp
          go_at_call 48; refine (hez.out _).mono ?_; rintro e w5 ⟨rfl, b5⟩; have s5 : Below w4.heap.size w4 w5 := ⟨b5.os, b5.tape, b5.output, b5.size, b5.block⟩
          refine hK.out _ _ (⟨(s5.cell (p := ⟨X, 0, none⟩) sX).trans q0, (s5.cell (p := ⟨X, 1, none⟩) sX).trans q1, (s5.cell (p := ⟨gr, a.length * 2, none⟩) sg).trans z0⟩) (fun hHeld => ?_)
          clear hK K
          try simp only [List.getElem_toArray, List.getElem_cons_succ, List.getElem_cons_zero, Act.put, List.setIfInBounds_toArray, List.set_cons_zero, List.set_cons_succ]
          refine wpAnyH_ready (rs := [8]) (by kernel_rfl) (by simp) ?_
          refine AllReadyH.cons rfl (fun K hK => ?_) AllReadyH.nil
          go_simp
          go_at_call 48; refine (hex.out _).mono ?_; rintro e w6 ⟨rfl, b6⟩; have s6 : Below w4.heap.size w4 w6 := s5.trans ⟨b6.os, b6.tape, b6.output, b6.size, fun k hk => b6.block k (Nat.lt_of_lt_of_le hk s5.size)⟩; have r0 := (s6.cell (p := ⟨X, 0, none⟩) sX).trans q0; have r1 := (s6.cell (p := ⟨X, 1, none⟩) sX).trans q1; have r2 := (s6.cell (p := ⟨gr, a.length * 2, none⟩) sg).trans z0; have r3 := (s6.cell (p := ⟨gr, a.length * 2 + 1, none⟩) sg).trans z1; have f6 := own_free2 (own_belowR ho4.out s6) (a.length * 2 + 1)
          refine hK.out _ _ (⟨r0, r1, r2⟩) (fun hHeld => ?_)
          clear hK K
          try simp only [List.getElem_toArray, List.getElem_cons_succ, List.getElem_cons_zero, Act.put, List.setIfInBounds_toArray, List.set_cons_zero, List.set_cons_succ]
          refine wpAnyH_take (i := 9) (v := .int .i64 (max (Runs.fin (za, zb)) (Runs.fin (xa, xb)))) rfl (by kernel_rfl) (by kernel_rfl) (by kernel_rfl) (fun _ _ _ h => h) (Or.inl ⟨rfl, fun w hSw => ?_⟩) (by assumption) ?_
          · (try dsimp only at hSw); go_simp
          try simp only [List.getElem_toArray, List.getElem_cons_succ, List.getElem_cons_zero, Act.put, List.setIfInBounds_toArray, List.set_cons_zero, List.set_cons_succ]
          have hmw := HW.out
          refine wpAnyH_take (i := 15) (v := .int .i64 (max (Runs.fin (za, zb)) (Runs.fin (xa, xb)) - za)) rfl (by kernel_rfl) (by kernel_rfl) (by kernel_rfl) (fun _ _ _ h => h) (Or.inl ⟨rfl, fun w hSw => ?_⟩) (by assumption) ?_
          · (try dsimp only at hSw); go_simp
          try simp only [List.getElem_toArray, List.getElem_cons_succ, List.getElem_cons_zero, Act.put, List.setIfInBounds_toArray, List.set_cons_zero, List.set_cons_succ]
          refine wpAnyH_take (i := 16) (v := .pointer (some ⟨gr, a.length * 2, none⟩)) rfl (by kernel_rfl) (by kernel_rfl) (by kernel_rfl) (fun _ _ _ h => h) (Or.inl ⟨rfl, fun w hSw => ?_⟩) (by assumption) ?_
          · (try dsimp only at hSw); go_simp
          try simp only [List.getElem_toArray, List.getElem_cons_succ, List.getElem_cons_zero, Act.put, List.setIfInBounds_toArray, List.set_cons_zero, List.set_cons_succ]
          refine wpAnyH_take (i := 17) (v := .pointer (some ⟨gr, a.length * 2 + 1, none⟩)) rfl (by kernel_rfl) (by kernel_rfl) (by kernel_rfl) (fun _ _ _ h => h) (Or.inl ⟨rfl, fun w hSw => ?_⟩) (by assumption) ?_
          · (try dsimp only at hSw); go_simp
          try simp only [List.getElem_toArray, List.getElem_cons_succ, List.getElem_cons_zero, Act.put, List.setIfInBounds_toArray, List.set_cons_zero, List.set_cons_succ]
          refine wpAnyH_ready (rs := [18]) (by kernel_rfl) (by simp) ?_
          refine AllReadyH.cons rfl (fun K hK => ?_) AllReadyH.nil
          go_simp
          refine hK.out _ _ (⟨(World.cell?_setCell_far _ _ _ _ nXg).trans r0, (World.cell?_setCell_far _ _ _ _ nXg).trans r1, (World.cell?_setCell_other _ _ _ _ (by simp)).trans r2⟩) (fun hHeld => ?_)
          clear hK K
          try simp only [List.getElem_toArray, List.getElem_cons_succ, List.getElem_cons_zero, Act.put, List.setIfInBounds_toArray, List.set_cons_zero, List.set_cons_succ]
          refine wpAnyH_done (by kernel_rfl) ?_ _
          generalize hmm : max (Runs.fin (za, zb)) (Runs.fin (xa, xb)) - za = m at *
          have h6 := own_belowR ho4.out s6
          have O7 : Hid (OwnRuns w3.heap.size (w6.setCell ⟨gr, a.length * 2 + 1, none⟩ (.int .i64 m)) (.slice (some ⟨gr, 0, none⟩) (a.length + 1) co) (Runs.mergeN (s.take (j + 1)))) := Lib.hid (by
            rw [hnx.out]
            have h7 := own_set2 h6 (a.length * 2 + 1) (.int .i64 m)
            have e : (rcells (a ++ [(za, zb)])).set (a.length * 2 + 1) (.int .i64 m) = rcells (a ++ [(za, m)]) := by
              rw [rcells_append, rcells_append, List.set_append_right _ _ (by rw [rcells_length]; omega), rcells_length, show a.length * 2 + 1 - a.length * 2 = 1 by omega]
              rfl
            rw [e] at h7
            unfold OwnRuns
            rw [show (a ++ [(za, m)]).length = a.length + 1 by simp]
            exact h7)
          have B7 : Hid (Below w3.heap.size w3 (w6.setCell ⟨gr, a.length * 2 + 1, none⟩ (.int .i64 m))) := Lib.hid ((hb4.out.trans (s6.mono hb4.out.size)).setCell hg1 _)
          have z7 := B7.out.size
          clear h6 s6 s5 b5 b6
          go_wp2_with fail
          go_roundw
          case rel => exact ⟨_, j + 1, rfl, by omega, by go_num, O7, B7, z7⟩
          case measure => simp [intOf]; omega
        · rw [if_neg hz] at hnx
          have G : (w4.alloc (.cells #[.int .i64 xa, .int .i64 xb] 32)).ownsRow w3.heap.size 32 2 (.slice (some ⟨gr, 0, none⟩) (a.length + 1) co) (a.length + 1) (rcells (a ++ [(za, zb)])) := own_belowR ho4.out ((Below.refl _ _).alloc (Nat.le_refl _) _)
          have N : ∀ jj uu, [Value.int .i64 xa, Value.int .i64 xb][jj]? = some uu → (w4.alloc (.cells #[.int .i64 xa, .int .i64 xb] 32)).cell? ((⟨w4.heap.size, 0, none⟩ : Addr).add jj) = some uu := fun jj uu hjj => by
            have hadd : (⟨w4.heap.size, 0, none⟩ : Addr).add jj = ⟨w4.heap.size, jj, none⟩ := by unfold Addr.add; split <;> simp_all
            rw [hadd, World.cell?_alloc_at _ _ _ _ rfl]
            simpa using hjj
          go_wp2_with (first
            | (at_builtin; refine wpList_append_own _ rfl _ _ 26 rfl w3.heap.size 32 i0' (.agg #[.int .i64 0, .int .i64 0]) 2 16 Try.underlying26 hi0 hz0 hz1 hz2 rfl (by decide) _ (a.length + 1) _ rfl G ⟨w4.heap.size, 0, none⟩ 1 1 [.int .i64 xa, .int .i64 xb] rfl rfl N hone (by unfold maxLen; omega) (by omega) (by simp; omega) ?_))
          intro v' w5 hown hgrow _
          have B5 : Hid (Below w3.heap.size w3 w5) := Lib.hid ((hb4.out.alloc (by omega) (.cells #[.int .i64 xa, .int .i64 xb] 32)).grown hgrow (by simp; omega) (fun k hk => (ho4.out.lt k hk).1))
          have O5 : Hid (OwnRuns w3.heap.size w5 v' (Runs.mergeN (s.take (j + 1)))) := Lib.hid (by
            rw [hnx.out]
            exact own_more (R := a ++ [(za, zb)]) (by simp) hown)
          have z5 := B5.out.size
          clear hown hgrow
          go_wp2_with fail
          go_roundw
          case rel => exact ⟨v', j + 1, rfl, by omega, by go_num, O5, B5, z5⟩
          case measure => simp [intOf]; omega
    · obtain rfl : j = s.length := by omega
      have hfin : Hid (OwnRuns w.heap.size wr u (Runs.normR l)) := Lib.hid (by
        have := ho.out
        rw [List.take_length, hmeq.out] at this
        exact World.ownsRow.mono this B3.out.size)
      have hbf := Lib.hid (B3.out.trans (hb.out.mono B3.out.size))
      go_wp2_with fail
      go_ret
      exact ⟨_, rfl, hfin.out, hbf.out⟩

end Go.Proofs.Ytgpjldmndibalaa
