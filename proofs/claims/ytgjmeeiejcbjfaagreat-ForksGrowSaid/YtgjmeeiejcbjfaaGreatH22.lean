/- Lists of runs: Normal. -/
import Derived.Test.YtgjmeeiejcbjfaaGreatH21
import Derived.Test.YtgjmeeiejcbjfaaGreatH02
import Derived.Deep.CutRange
import Derived.Deep.Onto
import Derived.Deep.RegionHeld3
import Derived.Test.YtgjmeeiejcbjfaaGreatH04
import Derived.Test.YtgjmeeiejcbjfaaGreatH05
import Derived.Test.YtgjmeeiejcbjfaaGreatH15
import Derived.Test.YtgjmeeiejcbjfaaGreatH18
import Derived.Test.YtgjmeeiejcbjfaaGreatH20
set_option linter.unusedSimpArgs false
set_option linter.unusedVariables false
namespace Go.Proofs.YtgjmeeiejcbjfaaGreat
open Go.Lib (hid)
open Go Go.RowKit
theorem sort_v (B : Nat) (v : Value) (l : RL) (w : World) (h : OwnRuns B w v l) (hl : l.length ≤ 1000000000) (hB : B ≤ w.heap.size) :
  Calls Tryz.prog 163 #[v, .func (.func 164) #[] #[]] w fun e w' => e = .returned (.tuple #[]) ∧ ∃ s : RL, s.Perm l ∧ s.Pairwise (fun x y => x.1 ≤ y.1) ∧ OwnRuns B w' v s ∧ Below B w w' := by
 by_cases h0 : l.length = 0
 ·obtain rfl := List.eq_nil_of_length_eq_zero h0
  obtain ⟨ad, cap, rfl⟩ : ∃ ad cap, v = .slice ad 0 cap := by
   rcases h.2 with ⟨rfl, _⟩ | ⟨g, cap, cur, rfl, _⟩
   ·exact ⟨_, _, rfl⟩
   ·exact ⟨_, _, rfl⟩
  refine (sortNone_any ad cap _ w).mono ?_
  rintro e w' ⟨rfl, rfl⟩
  exact ⟨rfl, [], List.Perm.refl _, List.Pairwise.nil, h, Below.refl _ _⟩
 ·obtain ⟨g, cap, rfl, _⟩ : ∃ g cap, v = .slice (some ⟨g, 0, none⟩) l.length cap ∧ B ≤ g ∧ g < w.heap.size := World.ownsRow.form h (by omega)
  exact sort_own B g cap l w h hl hB
theorem end_b (x : Int × Int) (h : -9223372036854775808 ≤ Runs.fin x ∧ Runs.fin x ≤ 9223372036854775807) (w : World) : Calls Tryz.prog 144 #[.agg #[.int .i64 x.1, .int .i64 x.2]] w fun e w' => e = .returned (.int .i64 (Runs.fin x)) ∧ Below w.heap.size w w' := by
 refine (end_any x h w).mono ?_
 rintro e w' ⟨rfl, rfl⟩
 exact ⟨rfl, (Below.refl _ _).alloc (Nat.le_refl _) _⟩
theorem may_fin {x : Int × Int} (h : Runs.may x) : -9223372036854775808 ≤ Runs.fin x ∧ Runs.fin x ≤ 9223372036854775807 := by
 unfold Runs.may Runs.top at h
 unfold Runs.fin
 omega
theorem merge_next (s : RL) (j : Nat) (hj : j < s.length) : Runs.mergeN (s.take (j + 1)) = Runs.mstep (Runs.mergeN (s.take j)) (s.getD j (0, 0)) := by
 unfold Runs.mergeN
 rw [List.take_succ_eq_append_getElem hj, List.foldl_append]
 simp [List.getD, hj]
theorem merge_len (l out : RL) : (l.foldl Runs.mstep out).length ≤ out.length + l.length := by
 induction l generalizing out with
 | nil => simp
 | cons x l ih =>
  have h1 : (Runs.mstep out x).length ≤ out.length + 1 := by
   rcases List.eq_nil_or_concat out with rfl | ⟨a, z, rfl⟩
   ·simp [Runs.mstep_nil]
   ·rw [List.concat_eq_append, Runs.mstep_snoc]
    split <;> simp <;> omega
  have := ih (Runs.mstep out x)
  simp only [List.foldl_cons, List.length_cons]
  omega
theorem Rises.take {s : RL} (h : Runs.Rises s) (j : Nat) : Runs.Rises (s.take j) := ⟨List.Pairwise.sublist (List.take_sublist _ _) h.1, fun x hx => h.2 x (List.mem_of_mem_take hx)⟩
theorem merge_told {s : RL} (h : Runs.Rises s) (j : Nat) (hj : j < s.length) : (∀ z ∈ Runs.mergeN (s.take j), Runs.may z) ∧ Runs.may (s.getD j (0, 0)) ∧ (Runs.mergeN (s.take j)).length ≤ j := by
 refine ⟨(Runs.mergeN_spec _ (Rises.take h j)).1.may, h.2 _ ?_, ?_⟩
 ·have : s.getD j (0, 0) = s[j] := by simp [List.getD, hj]
  rw [this]
  exact List.getElem_mem hj
 ·have := merge_len (s.take j) []
  rw [List.length_take] at this
  unfold Runs.mergeN
  simp only [List.length_nil] at this
  omega
theorem own_more {B : Nat} {w : World} {v : Value} {R : RL} {n : Nat} {xa xb : Int} (hn : n = R.length) (h : w.ownsRow B 223 2 v (n + 1) (rcells R ++ [.int .i64 xa, .int .i64 xb])) : OwnRuns B w v (R ++ [(xa, xb)]) := by
 subst hn
 unfold OwnRuns
 rw [rcells_append, List.length_append]
 exact h
theorem filter_mem (l : RL) (i : Int) : Runs.mem (l.filter mayB) i ↔ Runs.mem l i := Runs.mem_filter l i
set_option maxRecDepth 100000 in
set_option maxHeartbeats 4000000 in
theorem normal_any (v : Value) (l : RL) (w : World) (hs : Smalls l) (h : RunsAt w v l) (hl : l.length ≤ 1000000000) :
  Calls Tryz.prog 140 #[v] w fun e w' => ∃ v', e = .returned v' ∧ OwnRuns w.heap.size w' v' (Runs.normR l) ∧ Below w.heap.size w w' := by
 obtain ⟨i0', hi0, hz0, hz1, hz2⟩ := info_parts info_run
 have hc := hid (clone_any v l w h hl)
 have HS := hid hs
 clear h hs
 go_enter Tryz.func140, Tryz.ntmps140
 go_wp2_with fail
 refine hc.out.mono ?_
 rintro e w1 ⟨v1, rfl, h1, b1⟩
 have hd := hid (deleteBad_any w.heap.size v1 l w1 HS.out h1 hl b1.size)
 have B1 := hid b1
 clear b1 h1 hc
 go_wp2_with fail
 refine hd.out.mono ?_
 rintro e w2 ⟨v2, rfl, h2, b2⟩
 have hl2 : (l.filter mayB).length ≤ 1000000000 := Nat.le_trans (List.length_filter_le _ _) hl
 have hb2 := B1.out.trans b2
 have ht := hid (sort_v w.heap.size v2 (l.filter mayB) w2 h2 hl2 hb2.size)
 have B2 := hid hb2
 clear b2 h2 hd hb2 B1
 go_wp2_with fail
 refine ht.out.mono ?_
 rintro e w3 ⟨rfl, s, hp, hpw, h3, b3⟩
 have B3 := hid (B2.out.trans b3)
 have hsl : s.length ≤ 1000000000 := by rw [hp.length_eq]; exact hl2
 have hris : Hid (Runs.Rises s) := hid ⟨hpw, fun x hx => by
  have := (List.mem_filter.mp (hp.mem_iff.mp hx)).2
  simpa [mayB] using this⟩
 have hmeq : Hid (Runs.mergeN s = Runs.normR l) := hid (Runs.mergeN_eq l s hris.out (fun i => (Runs.mem_perm hp i).trans (filter_mem l i)))
 have hat := hid h3.at
 clear b3 ht B2 hp hpw h3
 obtain ⟨ad, cap, rfl⟩ : ∃ ad cap, v2 = .slice ad s.length cap := by
  rcases hat.out with ⟨rfl, rfl⟩ | ⟨b, off, cap, rfl, _⟩
  ·exact ⟨_, _, rfl⟩
  ·exact ⟨_, _, rfl⟩
 go_wp2_with fail
 go_loopw [3, 14] (fun p q wr => ∃ (u : Value) (j : Nat), u = p ∧ j ≤ s.length ∧ q = .int .i64 j ∧ Hid (OwnRuns w3.heap.size wr u (Runs.mergeN (s.take j))) ∧ Hid (Below w3.heap.size w3 wr) ∧ w3.heap.size ≤ wr.heap.size) (fun _ q _ => s.length - (intOf q).toNat)
 case atStart => exact ⟨_, 0, rfl, by omega, rfl, hid (World.ownsRow_nil _ _ _ _), hid (Below.refl _ _), Nat.le_refl _⟩
 case round =>
  obtain ⟨u, j, rfl, hj, rfl, ho, hb, hsz⟩ := hrel
  by_cases hlt : j < s.length
  ·have i0 : (0 : Int) ≤ (j : Int) := by omega
   have i1 : (j : Int) < (s.length : Int) := by omega
   obtain ⟨hmz, hmx, hrl⟩ := merge_told hris.out j hlt
   have hnx := hid (merge_next s j hlt)
   obtain ⟨hll, g, off, rfl, c0, c1⟩ := (hat.out.below (B := 0) hb.out).cells j hlt
   clear hll
   generalize Runs.mergeN (s.take j) = R at *
   generalize s.getD j (0, 0) = x at *
   rcases List.eq_nil_or_concat R with rfl | ⟨a, z, rfl⟩
   ·rw [Runs.mstep_nil] at hnx
    obtain ⟨ado, co, rfl⟩ : ∃ ado co, u = .slice ado 0 co := by
     rcases ho.out.2 with ⟨rfl, _⟩ | ⟨g, cap, cur, rfl, _⟩
     ·exact ⟨_, _, rfl⟩
     ·exact ⟨_, _, rfl⟩
    obtain ⟨xa, xb⟩ := x
    dsimp only at *
    have hone := rcells_one [(xa, xb)]
    have hwr : w3.heap.size ≤ wr.heap.size := hsz
    clear hmz
    have G : ∀ nq, (((wr.alloc (.cells #[.int .i64 xa, .int .i64 xb] 223)).drewN nq).alloc (.cells #[.int .i64 xa, .int .i64 xb] 223)).ownsRow w3.heap.size 223 2 (.slice ado 0 co) 0 [] := fun nq => own_belowR ho.out ((below_dr ((Below.refl _ _).alloc (Nat.le_refl _) _)).alloc (by simp) _)
    have N : ∀ nq, ∀ jj uu, [Value.int .i64 xa, Value.int .i64 xb][jj]? = some uu → (((wr.alloc (.cells #[.int .i64 xa, .int .i64 xb] 223)).drewN nq).alloc (.cells #[.int .i64 xa, .int .i64 xb] 223)).cell? ((⟨wr.heap.size + 1, 0, none⟩ : Addr).add jj) = some uu := fun nq jj uu hjj => by
     have hadd : (⟨wr.heap.size + 1, 0, none⟩ : Addr).add jj = ⟨wr.heap.size + 1, jj, none⟩ := by unfold Addr.add; split <;> simp_all
     rw [hadd, World.cell?_alloc_at _ _ _ _ (by simp)]
     simpa using hjj
    go_wp2_with fail
    go_quiet (fail)
    go_wp2_with (first
     | (at_builtin; refine wpList_append_own _ rfl _ _ 187 rfl w3.heap.size 223 i0' (.agg #[.int .i64 0, .int .i64 0]) 2 16 Tryz.underlying187 hi0 hz0 hz1 hz2 rfl (by decide) _ 0 _ rfl (G nq) ⟨wr.heap.size + 1, 0, none⟩ 1 1 [.int .i64 xa, .int .i64 xb] rfl rfl (N nq) hone (by unfold maxLen; omega) (by omega) (by simp; omega) ?_))
    intro v' w4 hown hgrow _
    have B4 : Hid (Below w3.heap.size w3 w4) := hid ((hb.out.trans (((below_dr ((Below.refl _ wr).alloc (Nat.le_refl _) (.cells #[.int .i64 xa, .int .i64 xb] 223)) (n := nq)).alloc (by simp) (.cells #[.int .i64 xa, .int .i64 xb] 223)).mono hwr)).grown hgrow (by simp; omega) (fun k hk => (ho.out.lt k hk).1))
    have O4 : Hid (OwnRuns w3.heap.size w4 v' (Runs.mergeN (s.take (j + 1)))) := hid (by
     rw [hnx.out]
     exact own_more (R := []) rfl hown)
    have z4 := B4.out.size
    clear hown hgrow
    go_wp2_with fail
    go_roundw
    case rel => exact ⟨v', j + 1, rfl, by omega, by go_num, O4, B4, z4⟩
    case measure => simp [intOf]; omega
   ·rw [List.concat_eq_append] at *
    rw [Runs.mstep_snoc] at hnx
    have hmz' := may_fin (hmz z (by simp))
    have hmx' := may_fin hmx
    have hla : a.length < 1000000000 := by simp at hrl; omega
    have hone := rcells_one [x]
    obtain ⟨xa, xb⟩ := x
    obtain ⟨za, zb⟩ := z
    have hez := hid (fun w => end_b (za, zb) hmz' w)
    have hex := hid (fun w => end_b (xa, xb) hmx' w)
    obtain ⟨gr, co, rfl, hg1, hg2⟩ : ∃ gr co, u = .slice (some ⟨gr, 0, none⟩) (a.length + 1) co ∧ w3.heap.size ≤ gr ∧ gr < wr.heap.size := by
     obtain ⟨gr, co, e, h⟩ := World.ownsRow.form ho.out (by simp)
     exact ⟨gr, co, by simpa using e, h⟩
    have ho' : wr.ownsRow w3.heap.size 223 2 (.slice (some ⟨gr, 0, none⟩) (a.length + 1) co) (a.length + 1) (rcells (a ++ [(za, zb)])) := by
     have := ho.out
     unfold OwnRuns at this
     rwa [show (a ++ [(za, zb)]).length = a.length + 1 by simp] at this
    have hco : a.length + 1 ≤ co := by
     rcases ho'.2 with ⟨hv, _⟩ | ⟨g', cap', cur, hv, _, _, h1, _⟩
     ·cases hv
     ·cases hv; exact h1
    obtain ⟨y0, y1⟩ := rcells_at (a ++ [(za, zb)]) a.length (by simp)
    have hgd : (a ++ [(za, zb)]).getD a.length (0, 0) = (za, zb) := by simp [List.getD]
    rw [hgd] at y0 y1
    have z0 := own_cellAt2 ho' y0
    have z1 := own_cellAt2 ho' y1
    have HO := hid ho'
    have hfz : Hid (Runs.fin (za, zb) = za + zb) := hid rfl
    have hfx : Hid (Runs.fin (xa, xb) = xa + xb) := hid rfl
    have hmzz := hid (hmz (za, zb) (by simp))
    have hmxx := hid hmx
    clear hmz hmx hmz' hmx' hrl ho ho' y0 y1 hgd
    dsimp only at *
    have k0 : (0 : Int) ≤ (a.length : Int) := by omega
    have k1 : (a.length : Int) < (a.length : Int) + 1 := by omega
    go_upto_region 8 with fail
    have bx0 : (wr.alloc (.cells #[.int .i64 xa, .int .i64 xb] 223)).cell? ⟨wr.heap.size, 0, none⟩ = some (.int .i64 xa) := box_cell _ _ _ _
    have bx1 : (wr.alloc (.cells #[.int .i64 xa, .int .i64 xb] 223)).cell? ⟨wr.heap.size, 1, none⟩ = some (.int .i64 xb) := box_cell _ _ _ _
    have bA : Below wr.heap.size wr (wr.alloc (.cells #[.int .i64 xa, .int .i64 xb] 223)) := (Below.refl _ _).alloc (Nat.le_refl _) _
    have sA : (wr.alloc (.cells #[.int .i64 xa, .int .i64 xb] 223)).heap.size = wr.heap.size + 1 := by simp
    have zA0 := (bA.cell (p := ⟨gr, a.length * 2, none⟩) hg2).trans z0
    have zA1 := (bA.cell (p := ⟨gr, a.length * 2 + 1, none⟩) hg2).trans z1
    generalize wr.alloc _ = wx at *
    generalize hX : wr.heap.size = X at *
    clear z0 z1 c0 c1
    go_region_held3 (fun w' => w'.cell? ⟨X, 0, none⟩ = some (.int .i64 xa) ∧ w'.cell? ⟨gr, a.length * 2, none⟩ = some (.int .i64 za) ∧ w'.cell? ⟨gr, a.length * 2 + 1, none⟩ = some (.int .i64 zb))
     (first | exact ⟨bx0, zA0, zA1⟩ | exact ⟨(b4.cell (p := ⟨X, 0, none⟩) (by simp; omega)).trans bx0, (b4.cell (p := ⟨gr, a.length * 2, none⟩) (by simp; omega)).trans zA0, (b4.cell (p := ⟨gr, a.length * 2 + 1, none⟩) (by simp; omega)).trans zA1⟩)
     (first | (go_at_call 144; refine (hez.out _).mono ?_; rintro e w4 ⟨rfl, b4'⟩; have b4 : Below wx.heap.size wx w4 := ⟨b4'.os, b4'.tape, b4'.output, b4'.size, b4'.block⟩))
    have BY : Below X wr w4 := bA.trans (b4.mono (by omega))
    have hb4 := hid (hb.out.trans (BY.mono hsz))
    have ho4' := own_belowR HO.out (hX ▸ BY)
    have q0 := (b4.cell (p := ⟨X, 0, none⟩) (by simp; omega)).trans bx0
    have q1 := (b4.cell (p := ⟨X, 1, none⟩) (by simp; omega)).trans bx1
    have z0 := (b4.cell (p := ⟨gr, a.length * 2, none⟩) (by simp; omega)).trans zA0
    have z1 := (b4.cell (p := ⟨gr, a.length * 2 + 1, none⟩) (by simp; omega)).trans zA1
    have s4 := BY.size
    have x4 : X + 1 ≤ w4.heap.size := by have := b4.size; omega
    have ho4 := hid ho4'
    clear ho4' BY b4 b4' bA zA0 zA1 bx0 bx1 sA HO
    by_cases hz : xa ≤ Runs.fin (za, zb)
    ·rw [if_pos hz] at hnx
     clear hone
     have hmw : IntKind.i64.wrap (max (Runs.fin (za, zb)) (Runs.fin (xa, xb)) - za) = max (Runs.fin (za, zb)) (Runs.fin (xa, xb)) - za := IntWalk.i64_in _ (by
      have h1 := hmzz.out
      have h2 := hmxx.out
      have h3 := hfz.out
      have h4 := hfx.out
      unfold Runs.may Runs.top at h1 h2
      dsimp only at h1 h2
      omega)
     have HW := hid hmw
     clear hmw
     have sX : X < w4.heap.size := by omega
     have sg : gr < w4.heap.size := by omega
     have nXg : gr ≠ X := by omega
     go_upto_region 9 with fail
     refine wp_region_held_drew (S := fun w' => w'.cell? ⟨X, 0, none⟩ = some (.int .i64 xa) ∧ w'.cell? ⟨X, 1, none⟩ = some (.int .i64 xb) ∧ w'.cell? ⟨gr, a.length * 2, none⟩ = some (.int .i64 za)) (by kernel_rfl) (⟨q0, q1, z0⟩) (fun hHeld => ?_)
     refine wpAnyH_take (i := 0) (v := .slice (some ⟨gr, 0, none⟩) (a.length + 1) co) rfl (by kernel_rfl) (by kernel_rfl) (by kernel_rfl) (fun _ _ _ h => h) (Or.inl ⟨rfl, fun w hSw => ?_⟩) (by assumption) ?_
     ·(try dsimp only at hSw); go_simp
     try simp only [List.getElem_toArray, List.getElem_cons_zero, Act.put, List.setIfInBounds_toArray, List.set_cons_zero, List.set_cons_succ]
     refine wpAnyH_take (i := 1) (v := .int .i64 (a.length : Int)) rfl (by kernel_rfl) (by kernel_rfl) (by kernel_rfl) (fun _ _ _ h => h) (Or.inl ⟨rfl, fun w hSw => ?_⟩) (by assumption) ?_
     ·(try dsimp only at hSw); go_simp
     try simp only [List.getElem_toArray, List.getElem_cons_succ, List.getElem_cons_zero, Act.put, List.setIfInBounds_toArray, List.set_cons_zero, List.set_cons_succ]
     refine wpAnyH_take (i := 2) (v := .slice (some ⟨gr, 0, none⟩) (a.length + 1) co) rfl (by kernel_rfl) (by kernel_rfl) (by kernel_rfl) (fun _ _ _ h => h) (Or.inl ⟨rfl, fun w hSw => ?_⟩) (by assumption) ?_
     ·(try dsimp only at hSw); go_simp
     try simp only [List.getElem_toArray, List.getElem_cons_succ, List.getElem_cons_zero, Act.put, List.setIfInBounds_toArray, List.set_cons_zero, List.set_cons_succ]
     refine wpAnyH_take (i := 3) (v := .int .i64 (a.length : Int)) rfl (by kernel_rfl) (by kernel_rfl) (by kernel_rfl) (fun _ _ _ h => h) (Or.inl ⟨rfl, fun w hSw => ?_⟩) (by assumption) ?_
     ·(try dsimp only at hSw); go_simp
     try simp only [List.getElem_toArray, List.getElem_cons_succ, List.getElem_cons_zero, Act.put, List.setIfInBounds_toArray, List.set_cons_zero, List.set_cons_succ]
     refine wpAnyH_take (i := 4) (v := .pointer (some ⟨gr, a.length * 2, none⟩)) rfl (by kernel_rfl) (by kernel_rfl) (by kernel_rfl) (fun _ _ _ h => h) (Or.inl ⟨rfl, fun w hSw => ?_⟩) (by assumption) ?_
     ·(try dsimp only at hSw); go_simp
     try simp only [List.getElem_toArray, List.getElem_cons_succ, List.getElem_cons_zero, Act.put, List.setIfInBounds_toArray, List.set_cons_zero, List.set_cons_succ]
     refine wpAnyH_take (i := 7) (v := .agg #[.int .i64 xa, .int .i64 xb]) rfl (by kernel_rfl) (by kernel_rfl) (by kernel_rfl) (fun _ _ _ h => h) (Or.inl ⟨rfl, fun w hSw => ?_⟩) (by assumption) ?_
     ·(try dsimp only at hSw); go_simp
     try simp only [List.getElem_toArray, List.getElem_cons_succ, List.getElem_cons_zero, Act.put, List.setIfInBounds_toArray, List.set_cons_zero, List.set_cons_succ]
     refine wpAnyH_take (i := 10) (v := .slice (some ⟨gr, 0, none⟩) (a.length + 1) co) rfl (by kernel_rfl) (by kernel_rfl) (by kernel_rfl) (fun _ _ _ h => h) (Or.inl ⟨rfl, fun w hSw => ?_⟩) (by assumption) ?_
     ·(try dsimp only at hSw); go_simp
     try simp only [List.getElem_toArray, List.getElem_cons_succ, List.getElem_cons_zero, Act.put, List.setIfInBounds_toArray, List.set_cons_zero, List.set_cons_succ]
     refine wpAnyH_take (i := 11) (v := .int .i64 (a.length : Int)) rfl (by kernel_rfl) (by kernel_rfl) (by kernel_rfl) (fun _ _ _ h => h) (Or.inl ⟨rfl, fun w hSw => ?_⟩) (by assumption) ?_
     ·(try dsimp only at hSw); go_simp
     try simp only [List.getElem_toArray, List.getElem_cons_succ, List.getElem_cons_zero, Act.put, List.setIfInBounds_toArray, List.set_cons_zero, List.set_cons_succ]
     refine wpAnyH_take (i := 12) (v := .pointer (some ⟨gr, a.length * 2, none⟩)) rfl (by kernel_rfl) (by kernel_rfl) (by kernel_rfl) (fun _ _ _ h => h) (Or.inl ⟨rfl, fun w hSw => ?_⟩) (by assumption) ?_
     ·(try dsimp only at hSw); go_simp
     try simp only [List.getElem_toArray, List.getElem_cons_succ, List.getElem_cons_zero, Act.put, List.setIfInBounds_toArray, List.set_cons_zero, List.set_cons_succ]
     refine wpAnyH_take (i := 13) (v := .pointer (some ⟨gr, a.length * 2, none⟩)) rfl (by kernel_rfl) (by kernel_rfl) (by kernel_rfl) (fun _ _ _ h => h) (Or.inl ⟨rfl, fun w hSw => ?_⟩) (by assumption) ?_
     ·(try dsimp only at hSw); go_simp
     try simp only [List.getElem_toArray, List.getElem_cons_succ, List.getElem_cons_zero, Act.put, List.setIfInBounds_toArray, List.set_cons_zero, List.set_cons_succ]
     refine wpAnyH_take (i := 14) (v := .int .i64 za) rfl (by kernel_rfl) (by kernel_rfl) (by kernel_rfl) (fun _ _ _ h => h) (Or.inl ⟨rfl, fun w hSw => ?_⟩) (by assumption) ?_
     ·(try dsimp only at hSw); go_simp
     try simp only [List.getElem_toArray, List.getElem_cons_succ, List.getElem_cons_zero, Act.put, List.setIfInBounds_toArray, List.set_cons_zero, List.set_cons_succ]
     refine wpAnyH_ready (rs := [5]) (by kernel_rfl) (by simp) ?_
     refine AllReadyH.cons rfl (fun K hK => ?_) AllReadyH.nil
     go_simp
     refine hK.out _ _ (⟨q0, q1, z0⟩) (fun hHeld => ?_)
     clear hK K
     try simp only [List.getElem_toArray, List.getElem_cons_succ, List.getElem_cons_zero, Act.put, List.setIfInBounds_toArray, List.set_cons_zero, List.set_cons_succ]
     refine wpAnyH_ready (rs := [6]) (by kernel_rfl) (by simp) ?_
     refine AllReadyH.cons rfl (fun K hK => ?_) AllReadyH.nil
     go_simp
     go_at_call 144; refine (hez.out _).mono ?_; rintro e w5 ⟨rfl, b5⟩; have s5 : Below w4.heap.size w4 w5 := ⟨b5.os, b5.tape, b5.output, b5.size, b5.block⟩
     refine hK.out _ _ (⟨(s5.cell (p := ⟨X, 0, none⟩) sX).trans q0, (s5.cell (p := ⟨X, 1, none⟩) sX).trans q1, (s5.cell (p := ⟨gr, a.length * 2, none⟩) sg).trans z0⟩) (fun hHeld => ?_)
     clear hK K
     try simp only [List.getElem_toArray, List.getElem_cons_succ, List.getElem_cons_zero, Act.put, List.setIfInBounds_toArray, List.set_cons_zero, List.set_cons_succ]
     refine wpAnyH_ready (rs := [8]) (by kernel_rfl) (by simp) ?_
     refine AllReadyH.cons rfl (fun K hK => ?_) AllReadyH.nil
     go_simp
     go_at_call 144; refine (hex.out _).mono ?_; rintro e w6 ⟨rfl, b6⟩; have s6 : Below w4.heap.size w4 w6 := s5.trans ⟨b6.os, b6.tape, b6.output, b6.size, fun k hk => b6.block k (Nat.lt_of_lt_of_le hk s5.size)⟩; have r0 := (s6.cell (p := ⟨X, 0, none⟩) sX).trans q0; have r1 := (s6.cell (p := ⟨X, 1, none⟩) sX).trans q1; have r2 := (s6.cell (p := ⟨gr, a.length * 2, none⟩) sg).trans z0; have r3 := (s6.cell (p := ⟨gr, a.length * 2 + 1, none⟩) sg).trans z1; have f6 := own_free2 (own_belowR ho4.out s6) (a.length * 2 + 1)
     refine hK.out _ _ (⟨r0, r1, r2⟩) (fun hHeld => ?_)
     clear hK K
     try simp only [List.getElem_toArray, List.getElem_cons_succ, List.getElem_cons_zero, Act.put, List.setIfInBounds_toArray, List.set_cons_zero, List.set_cons_succ]
     refine wpAnyH_take (i := 9) (v := .int .i64 (max (Runs.fin (za, zb)) (Runs.fin (xa, xb)))) rfl (by kernel_rfl) (by kernel_rfl) (by kernel_rfl) (fun _ _ _ h => h) (Or.inl ⟨rfl, fun w hSw => ?_⟩) (by assumption) ?_
     ·(try dsimp only at hSw); go_simp
     try simp only [List.getElem_toArray, List.getElem_cons_succ, List.getElem_cons_zero, Act.put, List.setIfInBounds_toArray, List.set_cons_zero, List.set_cons_succ]
     have hmw := HW.out
     refine wpAnyH_take (i := 15) (v := .int .i64 (max (Runs.fin (za, zb)) (Runs.fin (xa, xb)) - za)) rfl (by kernel_rfl) (by kernel_rfl) (by kernel_rfl) (fun _ _ _ h => h) (Or.inl ⟨rfl, fun w hSw => ?_⟩) (by assumption) ?_
     ·(try dsimp only at hSw); go_simp
     try simp only [List.getElem_toArray, List.getElem_cons_succ, List.getElem_cons_zero, Act.put, List.setIfInBounds_toArray, List.set_cons_zero, List.set_cons_succ]
     refine wpAnyH_take (i := 16) (v := .pointer (some ⟨gr, a.length * 2, none⟩)) rfl (by kernel_rfl) (by kernel_rfl) (by kernel_rfl) (fun _ _ _ h => h) (Or.inl ⟨rfl, fun w hSw => ?_⟩) (by assumption) ?_
     ·(try dsimp only at hSw); go_simp
     try simp only [List.getElem_toArray, List.getElem_cons_succ, List.getElem_cons_zero, Act.put, List.setIfInBounds_toArray, List.set_cons_zero, List.set_cons_succ]
     refine wpAnyH_take (i := 17) (v := .pointer (some ⟨gr, a.length * 2 + 1, none⟩)) rfl (by kernel_rfl) (by kernel_rfl) (by kernel_rfl) (fun _ _ _ h => h) (Or.inl ⟨rfl, fun w hSw => ?_⟩) (by assumption) ?_
     ·(try dsimp only at hSw); go_simp
     try simp only [List.getElem_toArray, List.getElem_cons_succ, List.getElem_cons_zero, Act.put, List.setIfInBounds_toArray, List.set_cons_zero, List.set_cons_succ]
     refine wpAnyH_ready (rs := [18]) (by kernel_rfl) (by simp) ?_
     refine AllReadyH.cons rfl (fun K hK => ?_) AllReadyH.nil
     go_simp
     refine hK.out _ _ (⟨(World.cell?_setCell_far _ _ _ _ nXg).trans r0, (World.cell?_setCell_far _ _ _ _ nXg).trans r1, (World.cell?_setCell_other _ _ _ _ (by simp)).trans r2⟩) (fun hHeld => ?_)
     clear hK K
     try simp only [List.getElem_toArray, List.getElem_cons_succ, List.getElem_cons_zero, Act.put, List.setIfInBounds_toArray, List.set_cons_zero, List.set_cons_succ]
     refine wpAnyH_done (by kernel_rfl) ?_ _
     generalize hmm : max (Runs.fin (za, zb)) (Runs.fin (xa, xb)) - za = m at *
     have h6 := own_belowR ho4.out s6
     have O7 : Hid (OwnRuns w3.heap.size (w6.setCell ⟨gr, a.length * 2 + 1, none⟩ (.int .i64 m)) (.slice (some ⟨gr, 0, none⟩) (a.length + 1) co) (Runs.mergeN (s.take (j + 1)))) := hid (by
      rw [hnx.out]
      have h7 := own_set2 h6 (a.length * 2 + 1) (.int .i64 m)
      have e : (rcells (a ++ [(za, zb)])).set (a.length * 2 + 1) (.int .i64 m) = rcells (a ++ [(za, m)]) := by
       rw [rcells_append, rcells_append, List.set_append_right _ _ (by rw [rcells_length]; omega), rcells_length, show a.length * 2 + 1 - a.length * 2 = 1 by omega]
       rfl
      rw [e] at h7
      unfold OwnRuns
      rw [show (a ++ [(za, m)]).length = a.length + 1 by simp]
      exact h7)
     have B7 : Hid (Below w3.heap.size w3 (w6.setCell ⟨gr, a.length * 2 + 1, none⟩ (.int .i64 m))) := hid ((hb4.out.trans (s6.mono hb4.out.size)).setCell hg1 _)
     have z7 := B7.out.size
     clear h6 s6 s5 b5 b6
     go_wp2_with fail
     go_roundw
     case rel => exact ⟨_, j + 1, rfl, by omega, by go_num, O7, B7, z7⟩
     case measure => simp [intOf]; omega
    ·rw [if_neg hz] at hnx
     have G : (w4.alloc (.cells #[.int .i64 xa, .int .i64 xb] 223)).ownsRow w3.heap.size 223 2 (.slice (some ⟨gr, 0, none⟩) (a.length + 1) co) (a.length + 1) (rcells (a ++ [(za, zb)])) := own_belowR ho4.out ((Below.refl _ _).alloc (Nat.le_refl _) _)
     have N : ∀ jj uu, [Value.int .i64 xa, Value.int .i64 xb][jj]? = some uu → (w4.alloc (.cells #[.int .i64 xa, .int .i64 xb] 223)).cell? ((⟨w4.heap.size, 0, none⟩ : Addr).add jj) = some uu := fun jj uu hjj => by
      have hadd : (⟨w4.heap.size, 0, none⟩ : Addr).add jj = ⟨w4.heap.size, jj, none⟩ := by unfold Addr.add; split <;> simp_all
      rw [hadd, World.cell?_alloc_at _ _ _ _ rfl]
      simpa using hjj
     go_wp2_with (first
      | (at_builtin; refine wpList_append_own _ rfl _ _ 187 rfl w3.heap.size 223 i0' (.agg #[.int .i64 0, .int .i64 0]) 2 16 Tryz.underlying187 hi0 hz0 hz1 hz2 rfl (by decide) _ (a.length + 1) _ rfl G ⟨w4.heap.size, 0, none⟩ 1 1 [.int .i64 xa, .int .i64 xb] rfl rfl N hone (by unfold maxLen; omega) (by omega) (by simp; omega) ?_))
     intro v' w5 hown hgrow _
     have B5 : Hid (Below w3.heap.size w3 w5) := hid ((hb4.out.alloc (by omega) (.cells #[.int .i64 xa, .int .i64 xb] 223)).grown hgrow (by simp; omega) (fun k hk => (ho4.out.lt k hk).1))
     have O5 : Hid (OwnRuns w3.heap.size w5 v' (Runs.mergeN (s.take (j + 1)))) := hid (by
      rw [hnx.out]
      exact own_more (R := a ++ [(za, zb)]) (by simp) hown)
     have z5 := B5.out.size
     clear hown hgrow
     go_wp2_with fail
     go_roundw
     case rel => exact ⟨v', j + 1, rfl, by omega, by go_num, O5, B5, z5⟩
     case measure => simp [intOf]; omega
  ·obtain rfl : j = s.length := by omega
   have hfin : Hid (OwnRuns w.heap.size wr u (Runs.normR l)) := hid (by
    have := ho.out
    rw [List.take_length, hmeq.out] at this
    exact World.ownsRow.mono this B3.out.size)
   have hbf := hid (B3.out.trans (hb.out.mono B3.out.size))
   go_wp2_with fail
   go_ret
   exact ⟨_, rfl, hfin.out, hbf.out⟩
theorem gaps_step (n : Int) (l : RL) (j : Nat) (hj : j < l.length) (a : Int) : Runs.gapsN n a (l.drop j) = if n ≤ (l.getD j (0, 0)).1 then (if a < n then [(a, n - a)] else []) else (if a < (l.getD j (0, 0)).1 then [(a, (l.getD j (0, 0)).1 - a)] else []) ++ Runs.gapsN n (Runs.fin (l.getD j (0, 0))) (l.drop (j + 1)) := by
 rw [List.drop_eq_getElem_cons hj]
 have e : l.getD j (0, 0) = l[j] := by simp [List.getD, hj]
 rw [e]
 rfl
theorem gaps_end (n : Int) (l : RL) (a : Int) : Runs.gapsN n a (l.drop l.length) = if a < n then [(a, n - a)] else [] := by
 rw [List.drop_length]
 rfl
set_option maxRecDepth 100000 in
set_option maxHeartbeats 4000000 in
theorem gaps_any (v : Value) (l : RL) (n : Int) (w : World) (hr : Runs.Row l) (h : RunsAt w v l) (hl : l.length ≤ 1000000000) (hn : -9223372036854775808 ≤ n ∧ n ≤ 9223372036854775807) :
  Calls Tryz.prog 170 #[v, .int .i64 n] w fun e w' => ∃ v', e = .returned v' ∧ OwnRuns w.heap.size w' v' (Runs.gapsN n 0 l) ∧ Below w.heap.size w w' := by
 obtain ⟨i0', hi0, hz0, hz1, hz2⟩ := info_parts info_run
 have H := hid h
 have HR := hid hr
 obtain ⟨ad, cap, rfl⟩ : ∃ ad cap, v = .slice ad l.length cap := by
  rcases h with ⟨rfl, rfl⟩ | ⟨b, off, cap, rfl, _⟩
  ·exact ⟨_, _, rfl⟩
  ·exact ⟨_, _, rfl⟩
 clear h hr
 go_enter Tryz.func170, Tryz.ntmps170
 go_wp2_with fail
 go_loopw [5, 6, 11] (fun p q r wr => ∃ (u : Value) (j : Nat) (at_ : Int) (R : RL), u = p ∧ q = .int .i64 at_ ∧ r = .int .i64 j ∧ j ≤ l.length ∧ R.length ≤ j ∧ 0 ≤ at_ ∧ at_ ≤ 9223372036854775807 ∧ Hid (R ++ Runs.gapsN n at_ (l.drop j) = Runs.gapsN n 0 l) ∧ Hid (OwnRuns w.heap.size wr u R) ∧ Hid (Below w.heap.size w wr) ∧ w.heap.size ≤ wr.heap.size) (fun _ _ r _ => l.length - (intOf r).toNat)
 case atStart => exact ⟨_, 0, 0, [], rfl, rfl, rfl, by omega, by simp, by omega, by omega, hid (by simp), hid (World.ownsRow_nil _ _ _ _), hid (Below.refl _ _), Nat.le_refl _⟩
 case round =>
  obtain ⟨u, j, at_, R, rfl, rfl, rfl, hj, hRj, ha0, ha1, he, ho, hb, hsz⟩ := hrel
  by_cases hlt : j < l.length
  ·have i0 : (0 : Int) ≤ (j : Int) := by omega
   have i1 : (j : Int) < (l.length : Int) := by omega
   have hst := hid (gaps_step n l j hlt at_)
   obtain ⟨hll, g, off, rfl, c0, c1⟩ := (H.out.below (B := 0) hb.out).cells j hlt
   clear hll
   have hmx : Runs.may (l.getD j (0, 0)) := HR.out.may _ (by
    have : l.getD j (0, 0) = l[j] := by simp [List.getD, hlt]
    rw [this]
    exact List.getElem_mem hlt)
   generalize l.getD j (0, 0) = x at *
   obtain ⟨xa, xb⟩ := x
   have hfx : Runs.fin (xa, xb) = xa + xb := rfl
   unfold Runs.may Runs.top at hmx
   dsimp only at *
   have hex := hid (fun w => end_b (xa, xb) (by rw [hfx]; omega) w)
   have HM := hid hmx
   have ho1 : Hid ((wr.alloc (.cells #[.int .i64 xa, .int .i64 xb] 223)).ownsRow w.heap.size 223 2 u R.length (rcells R)) := hid (own_belowR ho.out ((Below.refl _ _).alloc (Nat.le_refl _) _))
   have hb1 : Hid (Below w.heap.size w (wr.alloc (.cells #[.int .i64 xa, .int .i64 xb] 223))) := hid (hb.out.alloc hsz _)
   have hs1 : w.heap.size ≤ (wr.alloc (.cells #[.int .i64 xa, .int .i64 xb] 223)).heap.size := hb1.out.size
   have hHF := hid hfx
   clear hfx hmx
   by_cases hnx : n ≤ xa
   ·rw [if_pos hnx] at hst
    by_cases han : at_ < n
    ·have hmw : IntKind.i64.wrap (n - at_) = n - at_ := IntWalk.i64_in _ (by omega)
     have G : ((wr.alloc (.cells #[.int .i64 xa, .int .i64 xb] 223)).alloc (.cells #[.int .i64 at_, .int .i64 (n - at_)] 223)).ownsRow w.heap.size 223 2 u R.length (rcells R) := own_belowR ho1.out ((Below.refl _ _).alloc (Nat.le_refl _) _)
     have N : ∀ jj uu, [Value.int .i64 at_, Value.int .i64 (n - at_)][jj]? = some uu → ((wr.alloc (.cells #[.int .i64 xa, .int .i64 xb] 223)).alloc (.cells #[.int .i64 at_, .int .i64 (n - at_)] 223)).cell? ((⟨wr.heap.size + 1, 0, none⟩ : Addr).add jj) = some uu := fun jj uu hjj => by
      have hadd : (⟨wr.heap.size + 1, 0, none⟩ : Addr).add jj = ⟨wr.heap.size + 1, jj, none⟩ := by unfold Addr.add; split <;> simp_all
      rw [hadd, World.cell?_alloc_at _ _ _ _ (by simp)]
      simpa using hjj
     have hone := rcells_one [(at_, n - at_)]
     go_wp2_with (first
      | (at_builtin; refine wpList_append_own _ rfl _ _ 187 rfl w.heap.size 223 i0' (.agg #[.int .i64 0, .int .i64 0]) 2 16 Tryz.underlying187 hi0 hz0 hz1 hz2 rfl (by decide) _ R.length _ rfl G ⟨wr.heap.size + 1, 0, none⟩ 1 1 [.int .i64 at_, .int .i64 (n - at_)] rfl rfl N hone (by unfold maxLen; omega) (by omega) (by simp; omega) ?_))
     intro v' w5 hown hgrow _
     have B5 : Hid (Below w.heap.size w w5) := hid ((hb1.out.alloc hs1 (.cells #[.int .i64 at_, .int .i64 (n - at_)] 223)).grown hgrow (by simp; omega) (fun k hk => (ho.out.lt k hk).1))
     have O5 : Hid (OwnRuns w.heap.size w5 v' (Runs.gapsN n 0 l)) := hid (by
      rw [← he.out, hst.out, if_pos han]
      exact own_more rfl hown)
     clear hown hgrow
     go_wp2_with fail
     go_ret
     exact ⟨_, rfl, O5.out, B5.out⟩
    ·have O5 : Hid (OwnRuns w.heap.size (wr.alloc (.cells #[.int .i64 xa, .int .i64 xb] 223)) u (Runs.gapsN n 0 l)) := hid (by
      rw [← he.out, hst.out, if_neg han, List.append_nil]
      exact ho1.out)
     go_wp2_with fail
     go_ret
     exact ⟨_, rfl, O5.out, hb1.out⟩
   ·rw [if_neg hnx] at hst
    by_cases hax : at_ < xa
    ·have hmw : IntKind.i64.wrap (xa - at_) = xa - at_ := IntWalk.i64_in _ (by have := HM.out; omega)
     rw [if_pos hax] at hst
     have G : ((wr.alloc (.cells #[.int .i64 xa, .int .i64 xb] 223)).alloc (.cells #[.int .i64 at_, .int .i64 (xa - at_)] 223)).ownsRow w.heap.size 223 2 u R.length (rcells R) := own_belowR ho1.out ((Below.refl _ _).alloc (Nat.le_refl _) _)
     have N : ∀ jj uu, [Value.int .i64 at_, Value.int .i64 (xa - at_)][jj]? = some uu → ((wr.alloc (.cells #[.int .i64 xa, .int .i64 xb] 223)).alloc (.cells #[.int .i64 at_, .int .i64 (xa - at_)] 223)).cell? ((⟨wr.heap.size + 1, 0, none⟩ : Addr).add jj) = some uu := fun jj uu hjj => by
      have hadd : (⟨wr.heap.size + 1, 0, none⟩ : Addr).add jj = ⟨wr.heap.size + 1, jj, none⟩ := by unfold Addr.add; split <;> simp_all
      rw [hadd, World.cell?_alloc_at _ _ _ _ (by simp)]
      simpa using hjj
     have hone := rcells_one [(at_, xa - at_)]
     go_wp2_with (first
      | (at_builtin; refine wpList_append_own _ rfl _ _ 187 rfl w.heap.size 223 i0' (.agg #[.int .i64 0, .int .i64 0]) 2 16 Tryz.underlying187 hi0 hz0 hz1 hz2 rfl (by decide) _ R.length _ rfl G ⟨wr.heap.size + 1, 0, none⟩ 1 1 [.int .i64 at_, .int .i64 (xa - at_)] rfl rfl N hone (by unfold maxLen; omega) (by omega) (by simp; omega) ?_))
     intro v' w5 hown hgrow _
     have B5 : Hid (Below w.heap.size w w5) := hid ((hb1.out.alloc hs1 (.cells #[.int .i64 at_, .int .i64 (xa - at_)] 223)).grown hgrow (by simp; omega) (fun k hk => (ho.out.lt k hk).1))
     have bx0 : w5.cell? ⟨wr.heap.size, 0, none⟩ = some (.int .i64 xa) := hgrow.cell (by rw [World.cell?_alloc_past _ _ _ (by simp), box_cell]; rfl) (fun e => by have := (ho.out.lt _ e.symm).2; dsimp only at this; omega)
     have bx1 : w5.cell? ⟨wr.heap.size, 1, none⟩ = some (.int .i64 xb) := hgrow.cell (by rw [World.cell?_alloc_past _ _ _ (by simp), box_cell]; rfl) (fun e => by have := (ho.out.lt _ e.symm).2; dsimp only at this; omega)
     have O5 : Hid (OwnRuns w.heap.size w5 v' (R ++ [(at_, xa - at_)])) := hid (own_more rfl hown)
     clear hown hgrow
     go_wp2_with fail
     refine (hex.out _).mono ?_
     rintro e w6 ⟨rfl, b6⟩
     have O6 : Hid (OwnRuns w.heap.size w6 v' (R ++ [(at_, xa - at_)])) := hid (own_belowR O5.out b6)
     have B6 : Hid (Below w.heap.size w w6) := hid (B5.out.trans (b6.mono B5.out.size))
     have z6 := B6.out.size
     have he6 : Hid ((R ++ [(at_, xa - at_)]) ++ Runs.gapsN n (Runs.fin (xa, xb)) (l.drop (j + 1)) = Runs.gapsN n 0 l) := hid (by rw [← he.out, hst.out, List.append_assoc])
     clear b6
     go_wp2_with fail
     go_roundw
     case rel => exact ⟨v', j + 1, Runs.fin (xa, xb), _, rfl, rfl, by go_num, by omega, by simp; omega, by have := HM.out; have := hHF.out; omega, by have := HM.out; have := hHF.out; omega, he6, O6, B6, z6⟩
     case measure => simp [intOf]; omega
    ·rw [if_neg hax, List.nil_append] at hst
     go_wp2_with fail
     refine (hex.out _).mono ?_
     rintro e w6 ⟨rfl, b6⟩
     have b7 : Below wr.heap.size wr w6 := ((Below.refl wr.heap.size wr).alloc (Nat.le_refl _) _).trans (b6.mono (by simp))
     have O6 : Hid (OwnRuns w.heap.size w6 u R) := hid (own_belowR ho.out b7)
     have B6 : Hid (Below w.heap.size w w6) := hid (hb.out.trans (b7.mono hsz))
     have z6 := B6.out.size
     have he6 : Hid (R ++ Runs.gapsN n (Runs.fin (xa, xb)) (l.drop (j + 1)) = Runs.gapsN n 0 l) := hid (by rw [← he.out, hst.out])
     clear b6 b7
     go_wp2_with fail
     go_roundw
     case rel => exact ⟨u, j + 1, Runs.fin (xa, xb), R, rfl, rfl, by go_num, by omega, by omega, by have := HM.out; have := hHF.out; omega, by have := HM.out; have := hHF.out; omega, he6, O6, B6, z6⟩
     case measure => simp [intOf]; omega
  ·obtain rfl : j = l.length := by omega
   have hst := hid (gaps_end n l at_)
   have hfu : ∃ ado co, u = .slice ado R.length co := by
    rcases ho.out.2 with ⟨rfl, h0⟩ | ⟨g, cap, cur, rfl, _⟩
    ·exact ⟨none, 0, by rw [h0]⟩
    ·exact ⟨_, _, rfl⟩
   by_cases han : at_ < n
   ·have hmw : IntKind.i64.wrap (n - at_) = n - at_ := IntWalk.i64_in _ (by omega)
    have G : (wr.alloc (.cells #[.int .i64 at_, .int .i64 (n - at_)] 223)).ownsRow w.heap.size 223 2 u R.length (rcells R) := own_belowR ho.out ((Below.refl _ _).alloc (Nat.le_refl _) _)
    have N : ∀ jj uu, [Value.int .i64 at_, Value.int .i64 (n - at_)][jj]? = some uu → (wr.alloc (.cells #[.int .i64 at_, .int .i64 (n - at_)] 223)).cell? ((⟨wr.heap.size, 0, none⟩ : Addr).add jj) = some uu := fun jj uu hjj => by
     have hadd : (⟨wr.heap.size, 0, none⟩ : Addr).add jj = ⟨wr.heap.size, jj, none⟩ := by unfold Addr.add; split <;> simp_all
     rw [hadd, World.cell?_alloc_at _ _ _ _ rfl]
     simpa using hjj
    have hone := rcells_one [(at_, n - at_)]
    clear hfu
    go_wp2_with (first
     | (at_builtin; refine wpList_append_own _ rfl _ _ 187 rfl w.heap.size 223 i0' (.agg #[.int .i64 0, .int .i64 0]) 2 16 Tryz.underlying187 hi0 hz0 hz1 hz2 rfl (by decide) _ R.length _ rfl G ⟨wr.heap.size, 0, none⟩ 1 1 [.int .i64 at_, .int .i64 (n - at_)] rfl rfl N hone (by unfold maxLen; omega) (by omega) (by simp; omega) ?_))
    intro v' w5 hown hgrow _
    have B5 : Hid (Below w.heap.size w w5) := hid ((hb.out.alloc hsz (.cells #[.int .i64 at_, .int .i64 (n - at_)] 223)).grown hgrow (by simp; omega) (fun k hk => (ho.out.lt k hk).1))
    have O5 : Hid (OwnRuns w.heap.size w5 v' (Runs.gapsN n 0 l)) := hid (by
     rw [← he.out, hst.out, if_pos han]
     exact own_more rfl hown)
    clear hown hgrow
    go_wp2_with fail
    go_ret
    exact ⟨_, rfl, O5.out, B5.out⟩
   ·have O5 : Hid (OwnRuns w.heap.size wr u (Runs.gapsN n 0 l)) := hid (by
     rw [← he.out, hst.out, if_neg han, List.append_nil]
     exact ho.out)
    go_wp2_with fail
    go_ret
    exact ⟨_, rfl, O5.out, hb.out⟩
def lenOf : Value → Nat
 | .slice _ n _ => n
 | _ => 0
theorem RunsAt.len {w : World} {v : Value} {l : RL} (h : RunsAt w v l) : lenOf v = l.length := by
 rcases h with ⟨rfl, rfl⟩ | ⟨b, off, cap, rfl, _⟩ <;> rfl
def capOf : Value → Nat
 | .slice _ _ c => c
 | _ => 0
theorem OwnRuns.cap {B : Nat} {w : World} {v : Value} {l : RL} (h : OwnRuns B w v l) : lenOf v ≤ capOf v := by
 rcases h.2 with ⟨rfl, _⟩ | ⟨g, cap, cur, rfl, _, _, h1, _⟩
 ·exact Nat.zero_le _
 ·exact h1
theorem OwnRuns.form {B : Nat} {w : World} {v : Value} {l : RL} (h : OwnRuns B w v l) : (v = .slice none 0 0 ∧ l = []) ∨ ∃ g co, v = .slice (some ⟨g, 0, none⟩) l.length co ∧ l.length ≤ co := by
 rcases h.2 with ⟨rfl, h0⟩ | ⟨g, cap, cur, rfl, _, _, h1, _⟩
 ·exact .inl ⟨rfl, List.eq_nil_of_length_eq_zero h0⟩
 ·exact .inr ⟨g, cap, rfl, h1⟩
theorem OwnRuns.slice {B : Nat} {w : World} {v : Value} {l : RL} (h : OwnRuns B w v l) : ∃ ad n c, v = .slice ad n c := by
 rcases h.form with ⟨rfl, _⟩ | ⟨g, co, rfl, _⟩
 ·exact ⟨_, _, _, rfl⟩
 ·exact ⟨_, _, _, rfl⟩
theorem RunsAt.head {w : World} {v : Value} {x : Int × Int} {A : RL} (h : RunsAt w v (x :: A)) (hc : lenOf v ≤ capOf v) : ∃ g o c, v = .slice (some ⟨g, o, none⟩) (A.length + 1) (c + 1) ∧ A.length ≤ c ∧
  w.cell? ⟨g, o, none⟩ = some (.int .i64 x.1) ∧ w.cell? ⟨g, o + 1, none⟩ = some (.int .i64 x.2) ∧ g < w.heap.size ∧ RunsAt w (.slice (if c = 0 then some ⟨g, o, none⟩ else some ⟨g, o + 2, none⟩) A.length c) A := by
 rcases h with ⟨_, e⟩ | ⟨b, o, c, rfl, h⟩
 ·cases e
 ·simp only [lenOf, capOf, List.length_cons] at hc
  obtain ⟨c, rfl⟩ : ∃ d, c = d + 1 := ⟨c - 1, by omega⟩
  have h0 := h 0 _ rfl
  refine ⟨b, o, c, rfl, by omega, h0, h 1 _ rfl, World.block_lt_of_cell? w _ h0, ?_⟩
  split
  ·obtain rfl : A = [] := List.eq_nil_of_length_eq_zero (by omega)
   exact .inr ⟨b, o, c, rfl, fun j u hj => by simp [rcells] at hj⟩
  refine .inr ⟨b, o + 2, c, rfl, fun j u hj => ?_⟩
  have := h (j + 2) u (by simpa [rcells] using hj)
  rwa [show o + (j + 2) = o + 2 + j by omega] at this
set_option maxRecDepth 100000 in
set_option maxHeartbeats 4000000 in
theorem meet_any (va vb : Value) (a b : RL) (w : World) (ha : Smalls a) (hb : Smalls b) (h1 : RunsAt w va a) (h2 : RunsAt w vb b) (hla : a.length ≤ 1000000000) (hlb : b.length ≤ 1000000000) :
  Calls Tryz.prog 169 #[va, vb] w fun e w' => ∃ v', e = .returned v' ∧ OwnRuns w.heap.size w' v' (Runs.meetR a b) ∧ Below w.heap.size w w' := by
 have hA := hid (normal_any va a w ha h1 hla)
 have hB := hid (fun w' (hw : Below w.heap.size w w') => normal_any vb b w' hb (h2.below (B := 0) hw) hlb)
 clear h1 h2
 obtain ⟨i0', hi0, hz0, hz1, hz2⟩ := info_parts info_run
 go_enter Tryz.func169, Tryz.ntmps169
 go_wp2_with fail
 refine hA.out.mono ?_
 rintro e w1 ⟨v1, rfl, o1, b1⟩
 have O1 := hid o1
 have B1 := hid b1
 clear o1 b1 hA
 go_wp2_with fail
 refine (hB.out w1 B1.out).mono ?_
 rintro e w2 ⟨v2, rfl, o2, b2⟩
 have O2 := hid o2
 have O1' := hid (own_belowR O1.out b2)
 have B2 := hid (B1.out.trans (b2.mono B1.out.size))
 clear o2 b2 hB O1
 have la := hid (norm_len a)
 have lb := hid (norm_len b)
 have ra := hid (Runs.normR_spec a).1
 have rb := hid (Runs.normR_spec b).1
 have hme := hid (Runs.meet_eq a b)
 generalize Runs.normR a = NA at *
 generalize Runs.normR b = NB at *
 go_wp2_with fail
 go_loopw [0, 1, 5] (fun p q r wr => ∃ (pa pb u : Value) (A B R : RL), pa = p ∧ pb = q ∧ u = r ∧ A.length ≤ 1000000000 ∧ B.length ≤ 1000000000 ∧ R.length + A.length + B.length ≤ 2000000000 ∧ Runs.Row A ∧ Runs.Row B ∧ Hid (R ++ Runs.meetN A B = Runs.meetN NA NB) ∧ Hid (RunsAt w2 pa A) ∧ Hid (RunsAt w2 pb B) ∧ lenOf pa ≤ capOf pa ∧ lenOf pb ≤ capOf pb ∧ Hid (OwnRuns w2.heap.size wr u R) ∧ Hid (Below w2.heap.size w2 wr) ∧ w2.heap.size ≤ wr.heap.size) (fun p q _ _ => lenOf p + lenOf q)
 case atStart => exact ⟨_, _, _, NA, NB, [], rfl, rfl, rfl, by have := la.out; omega, by have := lb.out; omega, by have := la.out; have := lb.out; simp; omega, ra.out, rb.out, hid rfl, hid (OwnRuns.at O1'.out), hid O2.out.at, OwnRuns.cap O1'.out, O2.out.cap, hid (World.ownsRow_nil _ _ _ _), hid (Below.refl _ _), Nat.le_refl _⟩
 case round =>
  obtain ⟨pa, pb, u, A, B, R, rfl, rfl, rfl, hA1, hB1, hRl, RA, RB, he, ha, hb, ca, cb, ho, hbl, hsz⟩ := hrel
  have hbw := hid (B2.out.trans (hbl.out.mono B2.out.size))
  rcases A with _ | ⟨x, A⟩
  ·obtain ⟨ad, cap, rfl⟩ : ∃ ad cap, pa = .slice ad 0 cap := by
    rcases ha.out with ⟨rfl, _⟩ | ⟨b, off, cap, rfl, _⟩
    ·exact ⟨_, _, rfl⟩
    ·exact ⟨_, _, rfl⟩
   obtain ⟨bd, bn, bc, rfl⟩ : ∃ bd bn bc, pb = .slice bd bn bc := by
    rcases hb.out with ⟨rfl, _⟩ | ⟨b, off, cap, rfl, _⟩
    ·exact ⟨_, _, _, rfl⟩
    ·exact ⟨_, _, _, rfl⟩
   have O5 : Hid (OwnRuns w.heap.size wr u (Runs.meetR a b)) := hid (by
    rw [← hme.out, ← he.out, Runs.meetN_nil_left, List.append_nil]
    exact World.ownsRow.mono ho.out B2.out.size)
   go_wp2_with fail
   go_ret
   exact ⟨_, rfl, O5.out, hbw.out⟩
  ·rcases B with _ | ⟨y, B⟩
   ·obtain ⟨ad, an, cap, rfl⟩ : ∃ ad an cap, pa = .slice ad (an + 1) cap := by
     rcases ha.out with ⟨rfl, h⟩ | ⟨b, off, cap, rfl, _⟩
     ·cases h
     ·exact ⟨_, _, _, rfl⟩
    obtain ⟨bd, bc, rfl⟩ : ∃ bd bc, pb = .slice bd 0 bc := by
     rcases hb.out with ⟨rfl, _⟩ | ⟨b, off, cap, rfl, _⟩
     ·exact ⟨_, _, rfl⟩
     ·exact ⟨_, _, rfl⟩
    have O5 : Hid (OwnRuns w.heap.size wr u (Runs.meetR a b)) := hid (by
     rw [← hme.out, ← he.out, Runs.meetN_nil_right, List.append_nil]
     exact World.ownsRow.mono ho.out B2.out.size)
    go_wp2_with fail
    go_ret
    exact ⟨_, rfl, O5.out, hbw.out⟩
   ·obtain ⟨g1, o1, c1, rfl, hc1, x0, x1, s1, ha'⟩ := ha.out.head ca
    obtain ⟨g2, o2, c2, rfl, hc2, y0, y1, s2, hb'⟩ := hb.out.head cb
    have HA := hid ha'
    have HB := hid hb'
    clear ha' hb' ca cb
    have X0 := (hbl.out.cell (p := ⟨g1, o1, none⟩) s1).trans x0
    have X1 := (hbl.out.cell (p := ⟨g1, o1 + 1, none⟩) s1).trans x1
    have Y0 := (hbl.out.cell (p := ⟨g2, o2, none⟩) s2).trans y0
    have Y1 := (hbl.out.cell (p := ⟨g2, o2 + 1, none⟩) s2).trans y1
    have z1 : g1 < wr.heap.size := Nat.lt_of_lt_of_le s1 hsz
    have z2 : g2 < wr.heap.size := Nat.lt_of_lt_of_le s2 hsz
    obtain ⟨xa, xb⟩ := x
    obtain ⟨ya, yb⟩ := y
    dsimp only at *
    have hfx := may_fin RA.1
    have hfy := may_fin RB.1
    have hex := hid (fun w => end_b (xa, xb) hfx w)
    have hey := hid (fun w => end_b (ya, yb) hfy w)
    obtain ⟨m, hm⟩ : ∃ m, max xa ya = m := ⟨_, rfl⟩
    obtain ⟨n, hn⟩ : ∃ n, min (Runs.fin (xa, xb)) (Runs.fin (ya, yb)) = n := ⟨_, rfl⟩
    have hm' : (if xa < ya then ya else xa) = m := by rw [← hm]; split <;> omega
    have hn' : (if Runs.fin (ya, yb) < Runs.fin (xa, xb) then Runs.fin (ya, yb) else Runs.fin (xa, xb)) = n := by rw [← hn]; split <;> omega
    have ka : (0 : Int) < (A.length : Int) + 1 := by omega
    have kb : (0 : Int) < (B.length : Int) + 1 := by omega
    go_upto_region 4 with fail
    go_cut [6, 7] from 20 to 37 (fun p q wx => p = .int .i64 m ∧ q = .int .i64 n ∧ Below wr.heap.size wr wx)
    case first =>
     go_region_held3 (fun w' => w'.cell? ⟨g1, o1, none⟩ = some (.int .i64 xa) ∧ w'.cell? ⟨g1, o1 + 1, none⟩ = some (.int .i64 xb) ∧ w'.cell? ⟨g2, o2, none⟩ = some (.int .i64 ya) ∧ w'.cell? ⟨g2, o2 + 1, none⟩ = some (.int .i64 yb))
      (first | exact ⟨X0, X1, Y0, Y1⟩ | exact ⟨(s4.cell (p := ⟨g1, o1, none⟩) z1).trans X0, (s4.cell (p := ⟨g1, o1 + 1, none⟩) z1).trans X1, (s4.cell (p := ⟨g2, o2, none⟩) z2).trans Y0, (s4.cell (p := ⟨g2, o2 + 1, none⟩) z2).trans Y1⟩ | exact ⟨(s5.cell (p := ⟨g1, o1, none⟩) z1).trans X0, (s5.cell (p := ⟨g1, o1 + 1, none⟩) z1).trans X1, (s5.cell (p := ⟨g2, o2, none⟩) z2).trans Y0, (s5.cell (p := ⟨g2, o2 + 1, none⟩) z2).trans Y1⟩)
      (first | (go_at_call 144; first | (refine (hex.out _).mono ?_; rintro e w4 ⟨rfl, b4⟩; have s4 : Below wr.heap.size wr w4 := ⟨b4.os, b4.tape, b4.output, b4.size, b4.block⟩) | (refine (hey.out _).mono ?_; rintro e w5 ⟨rfl, b5⟩; have s5 : Below wr.heap.size wr w5 := s4.trans ⟨b5.os, b5.tape, b5.output, b5.size, fun k hk => b5.block k (Nat.lt_of_lt_of_le hk s4.size)⟩)))
     all_goals (go_step; go_step; go_meet; exact ⟨rfl, rfl, s5⟩)
    obtain ⟨rfl, rfl, bc⟩ := hcut
    have hst := hid (Runs.meetN_cons (xa, xb) (ya, yb) A B)
    rw [hm, hn] at hst
    have hmn : -9223372036854775808 ≤ n - m ∧ n - m ≤ 9223372036854775807 := by
     have h1 := RA.1
     have h2 := RB.1
     unfold Runs.may Runs.top at h1 h2
     unfold Runs.fin at hn
     dsimp only at h1 h2 hn
     omega
    clear hm hn hm' hn'
    have hoc := hid (own_belowR ho.out bc)
    have hbc := hid (hbl.out.trans (bc.mono hsz))
    have hsc : w2.heap.size ≤ wc.heap.size := Nat.le_trans hsz bc.size
    clear X0 X1 Y0 Y1 z1 z2 bc ho hbl
    go_upto_if 40 with fail
    go_cut [5] from 40 to 48 (fun p wx => ∃ (u' : Value) (R' : RL), u' = p ∧ R'.length ≤ R.length + 1 ∧ Hid (R' = R ++ (if m < n then [(m, n - m)] else [])) ∧ Hid (OwnRuns w2.heap.size wx u' R') ∧ Hid (Below w2.heap.size w2 wx))
    case first =>
     by_cases k : m < n
     ·have hmw : IntKind.i64.wrap (n - m) = n - m := IntWalk.i64_in _ hmn
      have G : (wc.alloc (.cells #[.int .i64 m, .int .i64 (n - m)] 223)).ownsRow w2.heap.size 223 2 u R.length (rcells R) := own_belowR hoc.out ((Below.refl _ _).alloc (Nat.le_refl _) _)
      have N : ∀ jj uu, [Value.int .i64 m, Value.int .i64 (n - m)][jj]? = some uu → (wc.alloc (.cells #[.int .i64 m, .int .i64 (n - m)] 223)).cell? ((⟨wc.heap.size, 0, none⟩ : Addr).add jj) = some uu := fun jj uu hjj => by
       have hadd : (⟨wc.heap.size, 0, none⟩ : Addr).add jj = ⟨wc.heap.size, jj, none⟩ := by unfold Addr.add; split <;> simp_all
       rw [hadd, World.cell?_alloc_at _ _ _ _ rfl]
       simpa using hjj
      have hone := rcells_one [(m, n - m)]
      simp only [List.length_cons] at hRl
      go_wp2_with (first
       | (at_builtin; refine wpList_append_own _ rfl _ _ 187 rfl w2.heap.size 223 i0' (.agg #[.int .i64 0, .int .i64 0]) 2 16 Tryz.underlying187 hi0 hz0 hz1 hz2 rfl (by decide) _ R.length _ rfl G ⟨wc.heap.size, 0, none⟩ 1 1 [.int .i64 m, .int .i64 (n - m)] rfl rfl N hone (by unfold maxLen; omega) (by omega) (by simp; omega) ?_))
      intro v' w5 hown hgrow _
      have B5 : Hid (Below w2.heap.size w2 w5) := hid ((hbc.out.alloc hsc (.cells #[.int .i64 m, .int .i64 (n - m)] 223)).grown hgrow (by simp; omega) (fun k hk => (hoc.out.lt k hk).1))
      have O5 : Hid (OwnRuns w2.heap.size w5 v' (R ++ [(m, n - m)])) := hid (own_more rfl hown)
      clear hown hgrow
      go_wp2_with fail
      go_meet
      case rel => exact ⟨v', _, rfl, by simp, hid (by rw [if_pos k]), O5, B5⟩
     ·go_wp2_with fail
      go_meet
      case rel => exact ⟨u, R, rfl, by omega, hid (by rw [if_neg (by omega), List.append_nil]), hoc, hbc⟩
    obtain ⟨u', R', rfl, hR', hRe, ho', hb'⟩ := hcut
    clear hoc hbc hsc
    rename_i wc0
    have X0 := (hb'.out.cell (p := ⟨g1, o1, none⟩) s1).trans x0
    have X1 := (hb'.out.cell (p := ⟨g1, o1 + 1, none⟩) s1).trans x1
    have Y0 := (hb'.out.cell (p := ⟨g2, o2, none⟩) s2).trans y0
    have Y1 := (hb'.out.cell (p := ⟨g2, o2 + 1, none⟩) s2).trans y1
    have hsc := hb'.out.size
    have z1 : g1 < wc.heap.size := Nat.lt_of_lt_of_le s1 hsc
    have z2 : g2 < wc.heap.size := Nat.lt_of_lt_of_le s2 hsc
    clear x0 x1 y0 y1
    go_upto_region 7 with fail
    go_region_held3 (fun w' => w'.cell? ⟨g1, o1, none⟩ = some (.int .i64 xa) ∧ w'.cell? ⟨g1, o1 + 1, none⟩ = some (.int .i64 xb) ∧ w'.cell? ⟨g2, o2, none⟩ = some (.int .i64 ya) ∧ w'.cell? ⟨g2, o2 + 1, none⟩ = some (.int .i64 yb))
     (first | exact ⟨X0, X1, Y0, Y1⟩ | exact ⟨(s4.cell (p := ⟨g1, o1, none⟩) z1).trans X0, (s4.cell (p := ⟨g1, o1 + 1, none⟩) z1).trans X1, (s4.cell (p := ⟨g2, o2, none⟩) z2).trans Y0, (s4.cell (p := ⟨g2, o2 + 1, none⟩) z2).trans Y1⟩ | exact ⟨(s5.cell (p := ⟨g1, o1, none⟩) z1).trans X0, (s5.cell (p := ⟨g1, o1 + 1, none⟩) z1).trans X1, (s5.cell (p := ⟨g2, o2, none⟩) z2).trans Y0, (s5.cell (p := ⟨g2, o2 + 1, none⟩) z2).trans Y1⟩)
     (first | (go_at_call 144; first | (refine (hex.out _).mono ?_; rintro e w4 ⟨rfl, b4⟩; have s4 : Below wc.heap.size wc w4 := ⟨b4.os, b4.tape, b4.output, b4.size, b4.block⟩) | (refine (hey.out _).mono ?_; rintro e w5 ⟨rfl, b5⟩; have s5 : Below wc.heap.size wc w5 := s4.trans ⟨b5.os, b5.tape, b5.output, b5.size, fun k hk => b5.block k (Nat.lt_of_lt_of_le hk s4.size)⟩)))
    have O5 := hid (own_belowR ho'.out s5)
    have B5 := hid (hb'.out.trans (s5.mono hsc))
    have z5 := B5.out.size
    clear s4 s5 b4 b5 hb' ho' X0 X1 Y0 Y1
    simp only [List.length_cons] at hRl hA1 hB1
    by_cases hc : Runs.fin (xa, xb) < Runs.fin (ya, yb)
    ·have he' : Hid (R' ++ Runs.meetN A ((ya, yb) :: B) = Runs.meetN NA NB) := hid (by
      rw [← he.out, hst.out, hRe.out, if_pos hc, List.append_assoc])
     go_wp2_with fail
     go_roundw
     case rel => exact ⟨_, _, u', A, _, R', rfl, rfl, rfl, by omega, by simp; omega, by simp; omega, RA.2.2, RB, he', HA, hb, hc1, by simp [lenOf, capOf]; omega, O5, B5, z5⟩
     case measure => simp [lenOf]
    ·have he' : Hid (R' ++ Runs.meetN ((xa, xb) :: A) B = Runs.meetN NA NB) := hid (by
      rw [← he.out, hst.out, hRe.out, if_neg hc, List.append_assoc])
     go_wp2_with fail
     go_roundw
     case rel => exact ⟨_, _, u', _, B, R', rfl, rfl, rfl, by simp; omega, by omega, by simp; omega, RA, RB.2.2, he', ha, HB, by simp [lenOf, capOf]; omega, hc2, O5, B5, z5⟩
     case measure => simp [lenOf]
theorem gaps_len (n : Int) (l : RL) : ∀ a, (Runs.gapsN n a l).length ≤ l.length + 1 := by
 induction l with
 | nil => intro a; unfold Runs.gapsN; split <;> simp
 | cons x l ih =>
  intro a
  have := ih (Runs.fin x)
  unfold Runs.gapsN
  split
  ·split <;> simp
  ·rw [List.length_append, List.length_cons]
   split
   ·simp only [List.length_cons, List.length_nil]; omega
   ·simp only [List.length_nil]; omega
theorem gaps_row (n : Int) (l : RL) (hl : Runs.Row l) (hn : n ≤ Runs.top) : Runs.Row (Runs.gapsN n 0 l) :=
 (Runs.gapsN_spec n hn l 0 (Int.le_refl _) hl (fun x hx => by have := hl.may x hx; unfold Runs.may at this; omega)).1
set_option maxHeartbeats 1000000 in
theorem minus_any (va vb : Value) (a b : RL) (w : World) (ha : Smalls a) (hb : Smalls b) (h1 : RunsAt w va a) (h2 : RunsAt w vb b) (hla : a.length ≤ 100000000) (hlb : b.length ≤ 100000000) :
  Calls Tryz.prog 159 #[va, vb] w fun e w' => ∃ v', e = .returned v' ∧ OwnRuns w.heap.size w' v' (Runs.minusR a b) ∧ Below w.heap.size w w' := by
 have hN := hid (normal_any vb b w hb h2 (by omega))
 have h1' := hid h1
 clear h2 h1
 go_enter Tryz.func159, Tryz.ntmps159
 go_wp2_with fail
 refine hN.out.mono ?_
 rintro e w1 ⟨v1, rfl, o1, b1⟩
 have B1 := hid b1
 have hG := hid (gaps_any v1 (Runs.normR b) Runs.top w1 (Runs.normR_spec b).1 o1.at (by have := norm_len b; omega) (by unfold Runs.top; omega))
 clear o1 b1
 unfold Runs.top at hG
 go_wp2_with fail
 refine hG.out.mono ?_
 rintro e w2 ⟨v2, rfl, o2, b2⟩
 have B2 := hid (B1.out.trans (b2.mono B1.out.size))
 have hM := hid (meet_any va v2 a (Runs.gapsN 9223372036854775807 0 (Runs.normR b)) w2 ha (Smalls.row (gaps_row _ _ (Runs.normR_spec b).1 (by unfold Runs.top; omega))) (h1'.out.below (B := 0) B2.out) o2.at (by omega) (by have := norm_len b; have := gaps_len 9223372036854775807 (Runs.normR b) 0; omega))
 clear o2 b2
 go_wp2_with fail
 refine hM.out.mono ?_
 rintro e w3 ⟨v3, rfl, o3, b3⟩
 have O3 : Hid (OwnRuns w.heap.size w3 v3 (Runs.minusR a b)) := hid (by
  have e := Runs.minus_eq a b
  rw [Runs.meet_eq] at e
  rw [← e]
  exact World.ownsRow.mono o3 B2.out.size)
 have B3 := hid (B2.out.trans (b3.mono B2.out.size))
 clear o3 b3
 go_wp2_with fail
 go_ret
 exact ⟨_, rfl, O3.out, B3.out⟩
instance (x : Int × Int) (i : Int) : Decidable (Runs.isIn x i) := by unfold Runs.isIn; infer_instance
def inB (i : Int) (x : Int × Int) : Bool := decide (Runs.isIn x i)
def hasB (l : RL) (i : Int) : Bool := l.any (inB i)
theorem hasB_mem (l : RL) (i : Int) : hasB l i = true ↔ Runs.mem l i := by
 unfold hasB inB Runs.mem
 simp
theorem hasB_no (l : RL) (i : Int) (h : ∀ k, k < l.length → inB i (l.getD k (0, 0)) = false) : hasB l i = false := by
 unfold hasB
 rw [List.any_eq_false]
 intro x hx
 obtain ⟨k, hk, rfl⟩ := List.mem_iff_getElem.1 hx
 have := h k hk
 rw [show l.getD k (0, 0) = l[k] by simp [List.getD, hk]] at this
 simp [this]
theorem hasB_yes (l : RL) (i : Int) (k : Nat) (hk : k < l.length) (h : inB i (l.getD k (0, 0)) = true) : hasB l i = true := by
 unfold hasB
 rw [List.any_eq_true]
 refine ⟨l[k], List.getElem_mem hk, ?_⟩
 rwa [show l.getD k (0, 0) = l[k] by simp [List.getD, hk]] at h
theorem may_b (x : Int × Int) (hx : Small x) (w : World) : Calls Tryz.prog 143 #[.agg #[.int .i64 x.1, .int .i64 x.2]] w fun e w' => e = .returned (.bool (decide (Runs.may x))) ∧ Below w.heap.size w w' := by
 refine (may_any x hx w).mono ?_
 rintro e w' ⟨rfl, rfl⟩
 exact ⟨rfl, (Below.refl _ _).alloc (Nat.le_refl _) _⟩
set_option maxHeartbeats 1000000 in
theorem has1_any (x : Int × Int) (i : Int) (p : Nat) (w : World) (hx : Small x) (hi : -9223372036854775808 ≤ i ∧ i ≤ 9223372036854775807) (hp : w.cell? ⟨p, 0, none⟩ = some (.int .i64 i)) :
  Calls Tryz.prog 142 #[.agg #[.int .i64 x.1, .int .i64 x.2], .pointer (some ⟨p, 0, none⟩)] w fun e w' => e = .returned (.bool (inB i x)) ∧ Below w.heap.size w w' := by
 have hm := hid (fun w => may_b x hx w)
 have hpl : p < w.heap.size := World.block_lt_of_cell? w _ hp
 have bA : Below w.heap.size w (w.alloc (.cells #[.int .i64 x.1, .int .i64 x.2] 223)) := (Below.refl _ _).alloc (Nat.le_refl _) _
 have x0 : (w.alloc (.cells #[.int .i64 x.1, .int .i64 x.2] 223)).cell? ⟨w.heap.size, 0, none⟩ = some (.int .i64 x.1) := box_cell _ _ _ _
 have x1 : (w.alloc (.cells #[.int .i64 x.1, .int .i64 x.2] 223)).cell? ⟨w.heap.size, 1, none⟩ = some (.int .i64 x.2) := box_cell _ _ _ _
 have p0 := (bA.cell (p := ⟨p, 0, none⟩) hpl).trans hp
 have zX : w.heap.size < (w.alloc (.cells #[.int .i64 x.1, .int .i64 x.2] 223)).heap.size := by simp
 have zp : p < (w.alloc (.cells #[.int .i64 x.1, .int .i64 x.2] 223)).heap.size := Nat.lt_trans hpl zX
 clear hp hpl
 by_cases k : Runs.may x
 ·have hfx := may_fin k
  have he := hid (fun w => end_b x hfx w)
  rw [decide_eq_true k] at hm
  by_cases k1 : x.1 ≤ i
  ·have hD : inB i x = decide (i < Runs.fin x) := by
    unfold inB Runs.isIn
    simp [k, k1]
   rw [hD]
   clear hD
   obtain ⟨xa, xb⟩ := x
   dsimp only at *
   generalize Runs.fin (xa, xb) = f at *
   generalize hX : w.heap.size = X at *
   go_enter Tryz.func142, Tryz.ntmps142
   go_upto_region 1 with fail
   generalize w.alloc _ = wx at *
   first
   | (go_region_held3 (fun w' => w'.cell? ⟨X, 0, none⟩ = some (.int .i64 xa) ∧ w'.cell? ⟨X, 1, none⟩ = some (.int .i64 xb) ∧ w'.cell? ⟨p, 0, none⟩ = some (.int .i64 i))
     (first | exact ⟨x0, x1, p0⟩ | exact ⟨(s4.cell (p := ⟨X, 0, none⟩) zX).trans x0, (s4.cell (p := ⟨X, 1, none⟩) zX).trans x1, (s4.cell (p := ⟨p, 0, none⟩) zp).trans p0⟩ | exact ⟨(s5.cell (p := ⟨X, 0, none⟩) zX).trans x0, (s5.cell (p := ⟨X, 1, none⟩) zX).trans x1, (s5.cell (p := ⟨p, 0, none⟩) zp).trans p0⟩)
     (first | (go_at_call 143; refine (hm.out _).mono ?_; rintro e w4 ⟨rfl, b4⟩; have s4 : Below wx.heap.size wx w4 := ⟨b4.os, b4.tape, b4.output, b4.size, b4.block⟩) | (go_at_call 144; refine (he.out _).mono ?_; rintro e w5 ⟨rfl, b5⟩; have s5 : Below wx.heap.size wx w5 := s4.trans ⟨b5.os, b5.tape, b5.output, b5.size, fun k hk => b5.block k (Nat.lt_of_lt_of_le hk s4.size)⟩)))
   all_goals
    have B9 := hid (bA.trans (s5.mono (by omega)))
    clear s4 s5 b4 b5 bA
    go_wp2_with fail
    go_ret
    exact ⟨by first | rfl | (simp; omega), B9.out⟩
  ·rw [show inB i x = false from decide_eq_false (fun h => k1 h.2.1)]
   clear he hfx
   obtain ⟨xa, xb⟩ := x
   have k2 : decide (xa ≤ i) = false := decide_eq_false k1
   dsimp only at *
   generalize hX : w.heap.size = X at *
   go_enter Tryz.func142, Tryz.ntmps142
   go_upto_region 1 with fail
   generalize w.alloc _ = wx at *
   refine wp_region_held_drew (S := fun w' => w'.cell? ⟨X, 0, none⟩ = some (.int .i64 xa) ∧ w'.cell? ⟨X, 1, none⟩ = some (.int .i64 xb) ∧ w'.cell? ⟨p, 0, none⟩ = some (.int .i64 i)) (by kernel_rfl) (⟨x0, x1, p0⟩) (fun hHeld => ?_)
   refine wpAnyH_take (i := 0) (v := .agg #[.int .i64 xa, .int .i64 xb]) rfl (by kernel_rfl) (by kernel_rfl) (by kernel_rfl) (fun _ _ _ h => h) (Or.inl ⟨rfl, fun w hSw => ?_⟩) (by assumption) ?_
   ·(try dsimp only at hSw); go_simp
   try simp only [List.getElem_toArray, List.getElem_cons_zero, Act.put, List.setIfInBounds_toArray, List.set_cons_zero, List.set_cons_succ]
   refine wpAnyH_ready (rs := [1]) (by kernel_rfl) (by simp) ?_
   refine AllReadyH.cons rfl (fun K hK => ?_) AllReadyH.nil
   go_simp
   go_at_call 143; refine (hm.out _).mono ?_; rintro e w4 ⟨rfl, b4⟩; have s4 : Below wx.heap.size wx w4 := ⟨b4.os, b4.tape, b4.output, b4.size, b4.block⟩
   refine hK.out _ _ (⟨(s4.cell (p := ⟨X, 0, none⟩) zX).trans x0, (s4.cell (p := ⟨X, 1, none⟩) zX).trans x1, (s4.cell (p := ⟨p, 0, none⟩) zp).trans p0⟩) (fun hHeld => ?_)
   clear hK K
   try simp only [List.getElem_toArray, List.getElem_cons_succ, List.getElem_cons_zero, Act.put, List.setIfInBounds_toArray, List.set_cons_zero, List.set_cons_succ]
   refine wpAnyH_take (i := 2) (v := .bool true) rfl (by kernel_rfl) (by kernel_rfl) (by kernel_rfl) (fun _ _ _ h => h) (Or.inl ⟨rfl, fun w hSw => ?_⟩) (by assumption) ?_
   ·(try dsimp only at hSw); go_simp
   try simp only [List.getElem_toArray, List.getElem_cons_succ, List.getElem_cons_zero, Act.put, List.setIfInBounds_toArray, List.set_cons_zero, List.set_cons_succ]
   refine wpAnyH_take (i := 3) (v := .int .i64 i) rfl (by kernel_rfl) (by kernel_rfl) (by kernel_rfl) (fun _ _ _ h => h) (Or.inl ⟨rfl, fun w hSw => ?_⟩) (by assumption) ?_
   ·(try dsimp only at hSw); go_simp
   try simp only [List.getElem_toArray, List.getElem_cons_succ, List.getElem_cons_zero, Act.put, List.setIfInBounds_toArray, List.set_cons_zero, List.set_cons_succ]
   refine wpAnyH_take (i := 4) (v := .pointer (some ⟨X, 0, none⟩)) rfl (by kernel_rfl) (by kernel_rfl) (by kernel_rfl) (fun _ _ _ h => h) (Or.inl ⟨rfl, fun w hSw => ?_⟩) (by assumption) ?_
   ·(try dsimp only at hSw); go_simp
   try simp only [List.getElem_toArray, List.getElem_cons_succ, List.getElem_cons_zero, Act.put, List.setIfInBounds_toArray, List.set_cons_zero, List.set_cons_succ]
   refine wpAnyH_take (i := 5) (v := .int .i64 xa) rfl (by kernel_rfl) (by kernel_rfl) (by kernel_rfl) (fun _ _ _ h => h) (Or.inl ⟨rfl, fun w hSw => ?_⟩) (by assumption) ?_
   ·(try dsimp only at hSw); go_simp
   try simp only [List.getElem_toArray, List.getElem_cons_succ, List.getElem_cons_zero, Act.put, List.setIfInBounds_toArray, List.set_cons_zero, List.set_cons_succ]
   refine wpAnyH_take (i := 6) (v := .bool false) rfl (by kernel_rfl) (by kernel_rfl) (by kernel_rfl) (fun _ _ _ h => h) (Or.inl ⟨rfl, fun w hSw => ?_⟩) (by assumption) ?_
   ·(try dsimp only at hSw); go_simp
   try simp only [List.getElem_toArray, List.getElem_cons_succ, List.getElem_cons_zero, Act.put, List.setIfInBounds_toArray, List.set_cons_zero, List.set_cons_succ]
   refine wpAnyH_take (i := 7) (v := .bool false) rfl (by kernel_rfl) (by kernel_rfl) (by kernel_rfl) (fun _ _ _ h => h) (Or.inl ⟨rfl, fun w hSw => ?_⟩) (by assumption) ?_
   ·(try dsimp only at hSw); go_simp
   try simp only [List.getElem_toArray, List.getElem_cons_succ, List.getElem_cons_zero, Act.put, List.setIfInBounds_toArray, List.set_cons_zero, List.set_cons_succ]
   refine wpAnyH_take (i := 8) (v := .bool false) rfl (by kernel_rfl) (by kernel_rfl) (by kernel_rfl) (fun _ _ _ h => h) (Or.inl ⟨rfl, fun w hSw => ?_⟩) (by assumption) ?_
   ·(try dsimp only at hSw); go_simp
   try simp only [List.getElem_toArray, List.getElem_cons_succ, List.getElem_cons_zero, Act.put, List.setIfInBounds_toArray, List.set_cons_zero, List.set_cons_succ]
   refine wpAnyH_take (i := 9) (v := undef) rfl (by kernel_rfl) (by kernel_rfl) (by kernel_rfl) (fun _ _ _ h => h) (Or.inr ⟨rfl, rfl⟩) (by assumption) ?_
   try simp only [List.getElem_toArray, List.getElem_cons_succ, List.getElem_cons_zero, Act.put, List.setIfInBounds_toArray, List.set_cons_zero, List.set_cons_succ]
   refine wpAnyH_take (i := 10) (v := undef) rfl (by kernel_rfl) (by kernel_rfl) (by kernel_rfl) (fun _ _ _ h => h) (Or.inr ⟨rfl, rfl⟩) (by assumption) ?_
   try simp only [List.getElem_toArray, List.getElem_cons_succ, List.getElem_cons_zero, Act.put, List.setIfInBounds_toArray, List.set_cons_zero, List.set_cons_succ]
   refine wpAnyH_take (i := 11) (v := undef) rfl (by kernel_rfl) (by kernel_rfl) (by kernel_rfl) (fun _ _ _ h => h) (Or.inr ⟨rfl, rfl⟩) (by assumption) ?_
   try simp only [List.getElem_toArray, List.getElem_cons_succ, List.getElem_cons_zero, Act.put, List.setIfInBounds_toArray, List.set_cons_zero, List.set_cons_succ]
   refine wpAnyH_take (i := 12) (v := undef) rfl (by kernel_rfl) (by kernel_rfl) (by kernel_rfl) (fun _ _ _ h => h) (Or.inr ⟨rfl, rfl⟩) (by assumption) ?_
   try simp only [List.getElem_toArray, List.getElem_cons_succ, List.getElem_cons_zero, Act.put, List.setIfInBounds_toArray, List.set_cons_zero, List.set_cons_succ]
   refine wpAnyH_take (i := 13) (v := .bool false) rfl (by kernel_rfl) (by kernel_rfl) (by kernel_rfl) (fun _ _ _ h => h) (Or.inl ⟨rfl, fun w hSw => ?_⟩) (by assumption) ?_
   ·(try dsimp only at hSw); go_simp
   try simp only [List.getElem_toArray, List.getElem_cons_succ, List.getElem_cons_zero, Act.put, List.setIfInBounds_toArray, List.set_cons_zero, List.set_cons_succ]
   refine wpAnyH_take (i := 14) (v := .bool false) rfl (by kernel_rfl) (by kernel_rfl) (by kernel_rfl) (fun _ _ _ h => h) (Or.inl ⟨rfl, fun w hSw => ?_⟩) (by assumption) ?_
   ·(try dsimp only at hSw); go_simp
   try simp only [List.getElem_toArray, List.getElem_cons_succ, List.getElem_cons_zero, Act.put, List.setIfInBounds_toArray, List.set_cons_zero, List.set_cons_succ]
   refine wpAnyH_done (by kernel_rfl) ?_ _
   all_goals
    have B9 := hid (bA.trans (s4.mono (by omega)))
    clear s4 b4 bA
    go_wp2_with fail
    go_ret
    exact ⟨by first | rfl | (simp; omega), B9.out⟩
 ·rw [show inB i x = false from decide_eq_false (fun h => k h.1)]
  rw [decide_eq_false k] at hm
  obtain ⟨xa, xb⟩ := x
  dsimp only at *
  generalize hX : w.heap.size = X at *
  go_enter Tryz.func142, Tryz.ntmps142
  go_upto_region 1 with fail
  generalize w.alloc _ = wx at *
  refine wp_region_held_drew (S := fun w' => w'.cell? ⟨X, 0, none⟩ = some (.int .i64 xa) ∧ w'.cell? ⟨X, 1, none⟩ = some (.int .i64 xb) ∧ w'.cell? ⟨p, 0, none⟩ = some (.int .i64 i)) (by kernel_rfl) (⟨x0, x1, p0⟩) (fun hHeld => ?_)
  refine wpAnyH_take (i := 0) (v := .agg #[.int .i64 xa, .int .i64 xb]) rfl (by kernel_rfl) (by kernel_rfl) (by kernel_rfl) (fun _ _ _ h => h) (Or.inl ⟨rfl, fun w hSw => ?_⟩) (by assumption) ?_
  ·(try dsimp only at hSw); go_simp
  try simp only [List.getElem_toArray, List.getElem_cons_zero, Act.put, List.setIfInBounds_toArray, List.set_cons_zero, List.set_cons_succ]
  refine wpAnyH_ready (rs := [1]) (by kernel_rfl) (by simp) ?_
  refine AllReadyH.cons rfl (fun K hK => ?_) AllReadyH.nil
  go_simp
  go_at_call 143; refine (hm.out _).mono ?_; rintro e w4 ⟨rfl, b4⟩; have s4 : Below wx.heap.size wx w4 := ⟨b4.os, b4.tape, b4.output, b4.size, b4.block⟩
  refine hK.out _ _ (⟨(s4.cell (p := ⟨X, 0, none⟩) zX).trans x0, (s4.cell (p := ⟨X, 1, none⟩) zX).trans x1, (s4.cell (p := ⟨p, 0, none⟩) zp).trans p0⟩) (fun hHeld => ?_)
  clear hK K
  try simp only [List.getElem_toArray, List.getElem_cons_succ, List.getElem_cons_zero, Act.put, List.setIfInBounds_toArray, List.set_cons_zero, List.set_cons_succ]
  refine wpAnyH_take (i := 2) (v := .bool false) rfl (by kernel_rfl) (by kernel_rfl) (by kernel_rfl) (fun _ _ _ h => h) (Or.inl ⟨rfl, fun w hSw => ?_⟩) (by assumption) ?_
  ·(try dsimp only at hSw); go_simp
  try simp only [List.getElem_toArray, List.getElem_cons_succ, List.getElem_cons_zero, Act.put, List.setIfInBounds_toArray, List.set_cons_zero, List.set_cons_succ]
  refine wpAnyH_take (i := 3) (v := undef) rfl (by kernel_rfl) (by kernel_rfl) (by kernel_rfl) (fun _ _ _ h => h) (Or.inr ⟨rfl, rfl⟩) (by assumption) ?_
  try simp only [List.getElem_toArray, List.getElem_cons_succ, List.getElem_cons_zero, Act.put, List.setIfInBounds_toArray, List.set_cons_zero, List.set_cons_succ]
  refine wpAnyH_take (i := 4) (v := undef) rfl (by kernel_rfl) (by kernel_rfl) (by kernel_rfl) (fun _ _ _ h => h) (Or.inr ⟨rfl, rfl⟩) (by assumption) ?_
  try simp only [List.getElem_toArray, List.getElem_cons_succ, List.getElem_cons_zero, Act.put, List.setIfInBounds_toArray, List.set_cons_zero, List.set_cons_succ]
  refine wpAnyH_take (i := 5) (v := undef) rfl (by kernel_rfl) (by kernel_rfl) (by kernel_rfl) (fun _ _ _ h => h) (Or.inr ⟨rfl, rfl⟩) (by assumption) ?_
  try simp only [List.getElem_toArray, List.getElem_cons_succ, List.getElem_cons_zero, Act.put, List.setIfInBounds_toArray, List.set_cons_zero, List.set_cons_succ]
  refine wpAnyH_take (i := 6) (v := undef) rfl (by kernel_rfl) (by kernel_rfl) (by kernel_rfl) (fun _ _ _ h => h) (Or.inr ⟨rfl, rfl⟩) (by assumption) ?_
  try simp only [List.getElem_toArray, List.getElem_cons_succ, List.getElem_cons_zero, Act.put, List.setIfInBounds_toArray, List.set_cons_zero, List.set_cons_succ]
  refine wpAnyH_take (i := 7) (v := .bool false) rfl (by kernel_rfl) (by kernel_rfl) (by kernel_rfl) (fun _ _ _ h => h) (Or.inl ⟨rfl, fun w hSw => ?_⟩) (by assumption) ?_
  ·(try dsimp only at hSw); go_simp
  try simp only [List.getElem_toArray, List.getElem_cons_succ, List.getElem_cons_zero, Act.put, List.setIfInBounds_toArray, List.set_cons_zero, List.set_cons_succ]
  refine wpAnyH_take (i := 8) (v := .bool false) rfl (by kernel_rfl) (by kernel_rfl) (by kernel_rfl) (fun _ _ _ h => h) (Or.inl ⟨rfl, fun w hSw => ?_⟩) (by assumption) ?_
  ·(try dsimp only at hSw); go_simp
  try simp only [List.getElem_toArray, List.getElem_cons_succ, List.getElem_cons_zero, Act.put, List.setIfInBounds_toArray, List.set_cons_zero, List.set_cons_succ]
  refine wpAnyH_take (i := 9) (v := undef) rfl (by kernel_rfl) (by kernel_rfl) (by kernel_rfl) (fun _ _ _ h => h) (Or.inr ⟨rfl, rfl⟩) (by assumption) ?_
  try simp only [List.getElem_toArray, List.getElem_cons_succ, List.getElem_cons_zero, Act.put, List.setIfInBounds_toArray, List.set_cons_zero, List.set_cons_succ]
  refine wpAnyH_take (i := 10) (v := undef) rfl (by kernel_rfl) (by kernel_rfl) (by kernel_rfl) (fun _ _ _ h => h) (Or.inr ⟨rfl, rfl⟩) (by assumption) ?_
  try simp only [List.getElem_toArray, List.getElem_cons_succ, List.getElem_cons_zero, Act.put, List.setIfInBounds_toArray, List.set_cons_zero, List.set_cons_succ]
  refine wpAnyH_take (i := 11) (v := undef) rfl (by kernel_rfl) (by kernel_rfl) (by kernel_rfl) (fun _ _ _ h => h) (Or.inr ⟨rfl, rfl⟩) (by assumption) ?_
  try simp only [List.getElem_toArray, List.getElem_cons_succ, List.getElem_cons_zero, Act.put, List.setIfInBounds_toArray, List.set_cons_zero, List.set_cons_succ]
  refine wpAnyH_take (i := 12) (v := undef) rfl (by kernel_rfl) (by kernel_rfl) (by kernel_rfl) (fun _ _ _ h => h) (Or.inr ⟨rfl, rfl⟩) (by assumption) ?_
  try simp only [List.getElem_toArray, List.getElem_cons_succ, List.getElem_cons_zero, Act.put, List.setIfInBounds_toArray, List.set_cons_zero, List.set_cons_succ]
  refine wpAnyH_take (i := 13) (v := .bool false) rfl (by kernel_rfl) (by kernel_rfl) (by kernel_rfl) (fun _ _ _ h => h) (Or.inl ⟨rfl, fun w hSw => ?_⟩) (by assumption) ?_
  ·(try dsimp only at hSw); go_simp
  try simp only [List.getElem_toArray, List.getElem_cons_succ, List.getElem_cons_zero, Act.put, List.setIfInBounds_toArray, List.set_cons_zero, List.set_cons_succ]
  refine wpAnyH_take (i := 14) (v := .bool false) rfl (by kernel_rfl) (by kernel_rfl) (by kernel_rfl) (fun _ _ _ h => h) (Or.inl ⟨rfl, fun w hSw => ?_⟩) (by assumption) ?_
  ·(try dsimp only at hSw); go_simp
  try simp only [List.getElem_toArray, List.getElem_cons_succ, List.getElem_cons_zero, Act.put, List.setIfInBounds_toArray, List.set_cons_zero, List.set_cons_succ]
  refine wpAnyH_done (by kernel_rfl) ?_ _
  all_goals
   have B9 := hid (bA.trans (s4.mono (by omega)))
   clear s4 b4 bA
   go_wp2_with fail
   go_ret
   exact ⟨by first | rfl | (simp; omega), B9.out⟩
set_option maxHeartbeats 1000000 in
theorem indexHas_any (g off cap : Nat) (l : RL) (i : Int) (p : Nat) (w : World) (hs : Smalls l) (h : RunsAt w (.slice (some ⟨g, off, none⟩) l.length cap) l) (hl : l.length ≤ 1000000000) (hi : -9223372036854775808 ≤ i ∧ i ≤ 9223372036854775807) (hp : w.cell? ⟨p, 0, none⟩ = some (.int .i64 i)) :
  Calls Tryz.prog 166 #[.slice (some ⟨g, off, none⟩) l.length cap, .func (.func 142) #[] #[.pointer (some ⟨p, 0, none⟩)]] w fun e w' => ∃ r : Int, e = .returned (.int .i64 r) ∧ ((r = -1 ∧ hasB l i = false) ∨ ∃ j : Nat, j ≤ 1000000000 ∧ r = j ∧ hasB l i = true) ∧ Below w.heap.size w w' := by
 have H := hid h
 have hpl : p < w.heap.size := World.block_lt_of_cell? w _ hp
 have hcl := hid (fun x (hx : Small x) (w' : World) (hw : Below w.heap.size w w') => has1_any x i p w' hx hi ((hw.cell (p := ⟨p, 0, none⟩) hpl).trans hp))
 have HS := hid hs
 clear h hs
 go_enter Tryz.func166, Tryz.ntmps166
 go_wp2_with fail
 go_loopw [8] (fun q wr => ∃ j : Nat, j ≤ l.length ∧ q = .int .i64 j ∧ Hid (∀ k, k < j → inB i (l.getD k (0, 0)) = false) ∧ Hid (Below w.heap.size w wr)) (fun q _ => l.length - (intOf q).toNat)
 case atStart => exact ⟨0, by omega, rfl, hid (fun k hk => absurd hk (Nat.not_lt_zero _)), hid (Below.refl _ _)⟩
 case round =>
  obtain ⟨j, hj, rfl, ha, hb⟩ := hrel
  by_cases hlt : j < l.length
  ·have i0 : (0 : Int) ≤ (j : Int) := by omega
   have i1 : (j : Int) < (l.length : Int) := by omega
   obtain ⟨_, g', off', e', c0, c1⟩ := (H.out.below (B := 0) hb.out).cells j hlt
   cases e'
   have hc := hid (hcl.out _ (HS.out.at j hlt) wr hb.out)
   cases hm : inB i (l.getD j (0, 0))
   ·have ha' : Hid (∀ k, k < j + 1 → inB i (l.getD k (0, 0)) = false) := hid (fun k hk => by
     rcases Nat.lt_or_ge k j with h | h
     ·exact ha.out k h
     ·obtain rfl : k = j := by omega
      exact hm)
    rw [hm] at hc
    generalize l.getD j (0, 0) = x at *
    obtain ⟨xa, xb⟩ := x
    dsimp only at *
    clear hm
    go_wp2_with fail
    refine hc.out.mono ?_
    rintro e w' ⟨rfl, hb'⟩
    have B2 := hid (hb.out.trans (hb'.mono hb.out.size))
    clear hb'
    go_wp2_with fail
    go_roundw
    case rel => exact ⟨j + 1, by omega, by go_num, ha', B2⟩
    case measure => simp [intOf]; omega
   ·have hfb := hid (hasB_yes l i j hlt hm)
    rw [hm] at hc
    generalize l.getD j (0, 0) = x at *
    obtain ⟨xa, xb⟩ := x
    dsimp only at *
    clear hm
    go_wp2_with fail
    refine hc.out.mono ?_
    rintro e w' ⟨rfl, hb'⟩
    have B2 := hid (hb.out.trans (hb'.mono hb.out.size))
    clear hb'
    go_wp2_with fail
    go_ret
    exact ⟨_, rfl, .inr ⟨j, by omega, rfl, hfb.out⟩, B2.out⟩
  ·obtain rfl : j = l.length := by omega
   go_wp2_with fail
   go_ret
   exact ⟨_, rfl, .inl ⟨rfl, hasB_no l i ha.out⟩, hb.out⟩
theorem containsHas_any (v : Value) (l : RL) (i : Int) (p : Nat) (w : World) (hs : Smalls l) (h : RunsAt w v l) (hl : l.length ≤ 1000000000) (hi : -9223372036854775808 ≤ i ∧ i ≤ 9223372036854775807) (hp : w.cell? ⟨p, 0, none⟩ = some (.int .i64 i)) :
  Calls Tryz.prog 141 #[v, .func (.func 142) #[] #[.pointer (some ⟨p, 0, none⟩)]] w fun e w' => e = .returned (.bool (hasB l i)) ∧ Below w.heap.size w w' := by
 rcases h with ⟨rfl, rfl⟩ | ⟨b, off, cap, rfl, hc⟩
 ·have hN := hid (fun f w => indexNone_any none 0 f w)
  go_enter Tryz.func141, Tryz.ntmps141
  go_wp2_with fail
  refine (hN.out _ _).mono ?_
  rintro e w1 ⟨rfl, rfl⟩
  go_wp2_with fail
  go_ret
  exact ⟨rfl, Below.refl _ _⟩
 ·have hN := hid (indexHas_any b off cap l i p w hs (.inr ⟨b, off, cap, rfl, hc⟩) hl hi hp)
  clear hc
  generalize hasB l i = q at *
  go_enter Tryz.func141, Tryz.ntmps141
  go_wp2_with fail
  refine hN.out.mono ?_
  rintro e w1 ⟨r, rfl, hr, b1⟩
  have B1 := hid b1
  rcases hr with ⟨rfl, rfl⟩ | ⟨j, hj, rfl, rfl⟩
  ·clear b1
   go_wp2_with fail
   go_ret
   exact ⟨rfl, B1.out⟩
  ·have j0 : (0 : Int) ≤ (j : Int) := by omega
   clear b1
   go_wp2_with fail
   go_ret
   exact ⟨rfl, B1.out⟩
set_option maxHeartbeats 1000000 in
theorem has_any (v : Value) (l : RL) (i : Int) (w : World) (hs : Smalls l) (h : RunsAt w v l) (hl : l.length ≤ 1000000000) (hi : -9223372036854775808 ≤ i ∧ i ≤ 9223372036854775807) :
  Calls Tryz.prog 111 #[v, .int .i64 i] w fun e w' => e = .returned (.bool (hasB l i)) ∧ Below w.heap.size w w' := by
 have hb : Below w.heap.size w (w.alloc (.cells #[.int .i64 i] 3)) := (Below.refl _ _).alloc (Nat.le_refl _) _
 have hC := hid (containsHas_any v l i w.heap.size (w.alloc (.cells #[.int .i64 i] 3)) hs (h.below (B := 0) hb) hl hi (box_cell _ _ _ _))
 have hB := hid hb
 clear h hb
 go_enter Tryz.func111, Tryz.ntmps111
 go_wp2_with fail
 refine hC.out.mono ?_
 rintro e w1 ⟨rfl, b1⟩
 have B1 := hid (hB.out.trans (b1.mono hB.out.size))
 clear b1
 go_wp2_with fail
 go_ret
 exact ⟨rfl, B1.out⟩
theorem smalls_run {l : EL} (h : Exts.Row l) : Smalls (l.map Exts.run) := by
 intro r hr
 obtain ⟨x, hx, rfl⟩ := List.mem_map.1 hr
 have := h.may x hx
 unfold Exts.may at this
 unfold Small Exts.run
 dsimp only
 omega
theorem run_take (l : EL) (j : Nat) (hj : j < l.length) : (l.take (j + 1)).map Exts.run = (l.take j).map Exts.run ++ [((l.getD j (0, 0, 0)).2.1, (l.getD j (0, 0, 0)).2.2)] := by
 rw [List.take_succ_eq_append_getElem hj, List.map_append]
 simp [List.getD, hj, Exts.run]
set_option maxRecDepth 100000 in
set_option maxHeartbeats 4000000 in
theorem eblocks_any (v : Value) (l : EL) (w : World) (hs : SmallsE l) (h : ExtsAt w v l) (hl : l.length ≤ 100000000) :
  Calls Tryz.prog 109 #[v] w fun e w' => ∃ v', e = .returned v' ∧ OwnRuns w.heap.size w' v' (Exts.blocksR l) ∧ Below w.heap.size w w' := by
 have q := hid (echeck_any v l w hs h (by omega))
 have H := hid h
 obtain ⟨ad, cap, rfl⟩ : ∃ ad cap, v = .slice ad l.length cap := by
  rcases h with ⟨rfl, rfl⟩ | ⟨b, off, cap, rfl, _⟩
  ·exact ⟨_, _, rfl⟩
  ·exact ⟨_, _, rfl⟩
 obtain ⟨i0', hi0, hz0, hz1, hz2⟩ := info_parts info_run
 cases hok : Exts.okTo l l.length
 ·rw [hok] at q
  have hE := hid (Exts.blocks_bad hok)
  clear h hok
  go_enter Tryz.func109, Tryz.ntmps109
  go_wp2_with fail
  refine q.out.mono ?_
  rintro e w1 ⟨rfl, b1⟩
  have B1 := hid b1
  have B2 : Hid (OwnRuns w.heap.size w1 (.slice none 0 0) (Exts.blocksR l)) := hid (by rw [hE.out]; exact World.ownsRow_nil _ _ _ _)
  clear b1
  go_wp2_with fail
  go_ret
  exact ⟨_, rfl, B2.out, B1.out⟩
 ·rw [hok] at q
  have HR := hid (Exts.check_row.1 hok)
  have hE := hid (Exts.blocks_ok HR.out)
  obtain ⟨MC, hMC, hmk⟩ : ∃ MC : Array Value, MC.size = l.length * 2 ∧ ∀ wx : World, (Instr.makeSlice 187 (.int .i64 0) (.int .i64 (l.length : Int))).run Tryz.prog wx = .ok (.slice (some ⟨wx.heap.size, 0, none⟩) 0 l.length) (wx.alloc (.cells MC 223)) := by
   refine ⟨madeCells (Value.agg #[.int .i64 0, .int .i64 0]).cells ((l.length : Int).toNat * i0'.size), ?_, fun wx => ?_⟩
   ·rw [size_madeCells, hz1]
    omega
   ·have hr := run_make (P := Tryz.prog) wx 187 223 i0' _ Tryz.underlying187 hi0 hz0 .i64 .i64 0 (l.length : Int) (by omega) (by omega) (by rw [hz2]; omega) (by omega)
    rw [show (l.length : Int).toNat = l.length by omega] at hr ⊢
    exact hr
  clear h hok
  go_enter Tryz.func109, Tryz.ntmps109
  go_wp2_with fail
  refine q.out.mono ?_
  rintro e w1 ⟨rfl, b1⟩
  have B1 := hid b1
  have O0 : Hid ((w1.alloc (.cells MC 223)).ownsRow w.heap.size 223 2 (.slice (some ⟨w1.heap.size, 0, none⟩) 0 l.length) 0 []) := hid
   ⟨rfl, .inr ⟨w1.heap.size, l.length, MC, rfl, b1.size, heap_alloc_new w1 _, Nat.zero_le _, by unfold maxLen; omega, hMC, by simp⟩⟩
  have B0 : Hid (Below w.heap.size w (w1.alloc (.cells MC 223))) := hid (b1.alloc b1.size _)
  clear b1 q B1
  go_wp2_with fail
  go_loopw [3, 14] (fun p q wr => ∃ (j : Nat) (u : Value), u = p ∧ q = .int .i64 j ∧ j ≤ l.length ∧ Hid (OwnRuns w.heap.size wr u ((l.take j).map Exts.run)) ∧ Hid (Below w.heap.size w wr)) (fun _ q _ => l.length - (intOf q).toNat)
  case atStart => exact ⟨0, _, rfl, rfl, by omega, hid O0.out, B0⟩
  case round =>
   obtain ⟨j, u, rfl, rfl, hj, ho, hb⟩ := hrel
   clear O0 B0
   by_cases hlt : j < l.length
   ·have i0 : (0 : Int) ≤ (j : Int) := by omega
    have i1 : (j : Int) < (l.length : Int) := by omega
    obtain ⟨hll, g, off, rfl, c0, c1, c2⟩ := (H.out.below (B := 0) hb.out).cells j hlt
    clear hll
    have hnx := hid (run_take l j hlt)
    have hlj : ((l.take j).map Exts.run).length = j := by rw [List.length_map, List.length_take]; omega
    generalize (l.take j).map Exts.run = R at *
    generalize l.getD j (0, 0, 0) = x at *
    obtain ⟨xa, xb, xc⟩ := x
    dsimp only at *
    have bA : Below wr.heap.size wr ((wr.alloc (.cells #[.int .i64 xa, .int .i64 xb, .int .i64 xc] 53)).alloc (.cells #[.int .i64 xb, .int .i64 xc] 223)) := ((Below.refl _ _).alloc (Nat.le_refl _) _).alloc (by simp) _
    have G : ((wr.alloc (.cells #[.int .i64 xa, .int .i64 xb, .int .i64 xc] 53)).alloc (.cells #[.int .i64 xb, .int .i64 xc] 223)).ownsRow w.heap.size 223 2 u R.length (rcells R) := own_belowR ho.out bA
    have NN : ∀ jj uu, [Value.int .i64 xb, .int .i64 xc][jj]? = some uu → ((wr.alloc (.cells #[.int .i64 xa, .int .i64 xb, .int .i64 xc] 53)).alloc (.cells #[.int .i64 xb, .int .i64 xc] 223)).cell? ((⟨wr.heap.size + 1, 0, none⟩ : Addr).add jj) = some uu := fun jj uu hjj => by
     have hadd : (⟨wr.heap.size + 1, 0, none⟩ : Addr).add jj = ⟨wr.heap.size + 1, jj, none⟩ := by unfold Addr.add; split <;> simp_all
     rw [hadd, World.cell?_alloc_at _ _ _ _ (by simp)]
     simpa using hjj
    have hone := rcells_one [(xb, xc)]
    have HG := hid G
    have hbz := hb.out.size
    have HB2 : Hid (Below w.heap.size w ((wr.alloc (.cells #[.int .i64 xa, .int .i64 xb, .int .i64 xc] 53)).alloc (.cells #[.int .i64 xb, .int .i64 xc] 223))) := hid (hb.out.trans (bA.mono hbz))
    have hown0 : Hid (∀ k, u.ownBlock = some k → w.heap.size ≤ k) := hid (fun k hk => (World.ownsRow.lt ho.out k hk).1)
    have HLJ := hid hlj
    clear hb ho bA G hlj
    go_wp2_with (first
     | (at_builtin; refine wpList_append_own _ rfl _ _ 187 rfl w.heap.size 223 i0' (.agg #[.int .i64 0, .int .i64 0]) 2 16 Tryz.underlying187 hi0 hz0 hz1 hz2 rfl (by decide) _ R.length _ rfl HG.out ⟨wr.heap.size + 1, 0, none⟩ 1 1 [.int .i64 xb, .int .i64 xc] rfl rfl NN hone (by have := HLJ.out; unfold maxLen; omega) (by have := HLJ.out; omega) (by simp; omega) ?_))
    intro v' w5 hown hgrow _
    have B5 : Hid (Below w.heap.size w w5) := hid (HB2.out.grown hgrow (by simp; omega) (fun k hk => hown0.out k hk))
    have O5 : Hid (OwnRuns w.heap.size w5 v' (R ++ [(xb, xc)])) := hid (by
     unfold OwnRuns
     rw [rcells_append, List.length_append]
     exact hown)
    rw [← hnx.out] at O5
    clear hown hgrow NN HG HB2
    go_wp2_with fail
    go_roundw
    case rel => exact ⟨j + 1, v', rfl, by go_num, by omega, O5, B5⟩
    case measure => simp [intOf]; omega
   ·obtain rfl : j = l.length := by omega
    have ho' := ho.out
    rw [List.take_length] at ho'
    have q2 := hid (normal_any u (l.map Exts.run) wr (smalls_run HR.out) (OwnRuns.at ho') (by rw [List.length_map]; omega))
    clear ho' ho
    go_wp2_with fail
    refine q2.out.mono ?_
    rintro e w6 ⟨v6, rfl, o6, b6⟩
    have B6 := hid (hb.out.trans (b6.mono hb.out.size))
    have O6 : Hid (OwnRuns w.heap.size w6 v6 (Exts.blocksR l)) := hid (by rw [hE.out]; exact World.ownsRow.mono o6 hb.out.size)
    clear o6 b6
    go_wp2_with fail
    go_ret
    exact ⟨_, rfl, O6.out, B6.out⟩
theorem parts_take (l : EL) (a b : Int) (j : Nat) (hj : j < l.length) : Exts.parts (l.take (j + 1)) a b = Exts.parts (l.take j) a b ++ Exts.part (l.getD j (0, 0, 0)) a b := by
 rw [List.take_succ_eq_append_getElem hj, Exts.parts_append]
 congr 1
 have e : l.getD j (0, 0, 0) = l[j] := by simp [List.getD, hj]
 rw [e, Exts.parts_cons]
 show _ ++ [] = _
 rw [List.append_nil]
theorem parts_len (l : EL) (a b : Int) : (Exts.parts l a b).length ≤ l.length := by
 induction l with
 | nil => exact Nat.le_refl _
 | cons x l ih =>
  rw [Exts.parts_cons, List.length_append, List.length_cons]
  have : (Exts.part x a b).length ≤ 1 := by unfold Exts.part; split <;> simp
  omega
theorem parts_take_len (l : EL) (a b : Int) (j : Nat) : (Exts.parts (l.take j) a b).length ≤ l.length := by
 have := parts_len (l.take j) a b
 rw [List.length_take] at this
 omega
theorem change_len (l : EL) (a b : Int) (m : EL) : (Exts.changeR l a b m).length ≤ 2 * l.length + m.length := by
 have h1 := parts_len l 0 a
 have h2 := parts_len l b 2048
 unfold Exts.changeR
 simp only [List.length_append]
 omega
def Ans (w w' : World) (out : EL) (fr : RL) (k : Int) (e : Ending) : Prop := ∃ (v f : Value) (c : Nat), e = .returned (.tuple #[v, f, .int .i64 k]) ∧ OwnExts w.heap.size w' v out ∧ w.heap.size ≤ c ∧ (∀ k, v.ownBlock = some k → k < c) ∧ OwnRuns c w' f fr ∧ Below w.heap.size w w'
theorem Ans.none {w w' : World} (k : Int) (h : Below w.heap.size w w') : Ans w w' [] [] k (.returned (.tuple #[.slice none 0 0, .slice none 0 0, .int .i64 k])) :=
 ⟨_, _, w.heap.size, rfl, World.ownsRow_nil _ _ _ _, Nat.le_refl _, fun k hk => (by cases hk), World.ownsRow_nil _ _ _ _, h⟩
def freedR (l out : EL) : RL := Runs.minusR (Exts.blocksR l) (Exts.blocksR out)
theorem eblocks_len (l : EL) : (Exts.blocksR l).length ≤ l.length := by
 unfold Exts.blocksR
 split
 ·have := norm_len (l.map fun x => (x.2.1, x.2.2))
  simpa using this
 ·simp
theorem own_slice {B : Nat} {w : World} {v : Value} {l : RL} (h : OwnRuns B w v l) : ∃ ad n c, v = .slice ad n c := by
 rcases h.2 with ⟨rfl, _⟩ | ⟨g, cap, cur, rfl, _⟩
 ·exact ⟨_, _, _, rfl⟩
 ·exact ⟨_, _, _, rfl⟩
theorem OwnExts.mono {B B' : Nat} {w : World} {v : Value} {l : EL} (h : OwnExts B w v l) (hb : B' ≤ B) : OwnExts B' w v l := World.ownsRow.mono h hb
theorem RowBox.start (w : World) : RowBox w.heap.size w (w.alloc (.cells #[.slice none 0 0] 241)) [] :=
 ⟨Nat.le_refl _, ⟨_, heap_alloc_new w _, World.ownsRow_nil _ _ _ _⟩, (Below.refl _ _).alloc (Nat.le_refl _) _⟩
set_option maxRecDepth 100000 in
set_option maxHeartbeats 8000000 in
theorem echange_any (v u : Value) (l m : EL) (a b : Int) (w : World) (hr : Exts.Row l) (hm : ∀ y ∈ m, Exts.may y) (h : ExtsAt w v l) (h2 : ExtsAt w u m) (hl : l.length ≤ 10000000) (hml : m.length ≤ 10000000) (ha : 0 ≤ a) (ha2 : a ≤ 9223372036854775807) (hb : 0 ≤ b) (hb2 : b ≤ 9223372036854775807)
  (hout : Exts.Row (Exts.changeR l a b (Exts.parts m a b))) :
  Calls Tryz.prog 137 #[v, .int .i64 a, .int .i64 b, u] w fun e w' => Ans w w' (Exts.changeR l a b (Exts.parts m a b)) (freedR l (Exts.changeR l a b (Exts.parts m a b))) 0 e := by
 have H := hid h
 have H2 := hid h2
 have HR := hid hr
 have HO := hid hout
 have HM : Hid (∀ i, i < m.length → Exts.may (m.getD i (0, 0, 0))) := hid (fun i hi => hm _ (by simp [List.getD, hi]))
 obtain ⟨ad, cap, rfl⟩ : ∃ ad cap, v = .slice ad l.length cap := by
  rcases h with ⟨rfl, rfl⟩ | ⟨b, off, cap, rfl, _⟩
  ·exact ⟨_, _, rfl⟩
  ·exact ⟨_, _, rfl⟩
 obtain ⟨ad2, cap2, rfl⟩ : ∃ ad cap, u = .slice ad m.length cap := by
  rcases h2 with ⟨rfl, rfl⟩ | ⟨b, off, cap, rfl, _⟩
  ·exact ⟨_, _, rfl⟩
  ·exact ⟨_, _, rfl⟩
 have hLL := hid (change_len l a b (Exts.parts m a b))
 have hPL := hid (parts_len m a b)
 have R0 := hid (RowBox.start w)
 clear h h2 hr hm hout
 go_enter Tryz.func137, Tryz.ntmps137
 go_wp2_with fail
 generalize hX : w.heap.size = X at *
 go_loopw [20] (fun q wr => ∃ j : Nat, q = .int .i64 j ∧ j ≤ l.length ∧ Hid (RowBox X w wr (Exts.parts (l.take j) 0 a))) (fun q _ => l.length - (intOf q).toNat)
 case atStart => exact ⟨0, rfl, by omega, R0⟩
 case round =>
  obtain ⟨j, rfl, hj, hb0⟩ := hrel
  by_cases hlt : j < l.length
  ·have i0 : (0 : Int) ≤ (j : Int) := by omega
   have i1 : (j : Int) < (l.length : Int) := by omega
   obtain ⟨hll, g, off, rfl, c0, c1, c2⟩ := (H.out.below (B := 0) (hX ▸ hb0.out.bel)).cells j hlt
   clear hll
   have hmy := (HR.out.may (l.getD j (0, 0, 0)) (by simp [List.getD, hlt]))
   have hnx := hid (parts_take l 0 a j hlt)
   have hln := hid (show (Exts.parts (l.take j) 0 a).length ≤ 1000000000 by have := parts_take_len l 0 a j; omega)
   have bA : Below wr.heap.size wr (wr.alloc (.cells #[.int .i64 (l.getD j (0, 0, 0)).1, .int .i64 (l.getD j (0, 0, 0)).2.1, .int .i64 (l.getD j (0, 0, 0)).2.2] 53)) := (Below.refl _ _).alloc (Nat.le_refl _) _
   have q := hid (eput_any X w _ (l.getD j (0, 0, 0)) 0 a _ (hb0.out.below bA) hmy (Int.le_refl _) (by omega) ⟨by omega, by omega⟩ hln.out)
   generalize l.getD j (0, 0, 0) = x at *
   obtain ⟨xa, xb, xc⟩ := x
   dsimp only at *
   clear hmy bA hb0
   go_wp2_with fail
   refine q.out.mono ?_
   rintro e w4 ⟨rfl, r4⟩
   have R4 : Hid (RowBox X w w4 (Exts.parts (l.take (j + 1)) 0 a)) := hid (by rw [hnx.out, show Exts.parts (l.take j) 0 a ++ Exts.part (xa, xb, xc) 0 a = Exts.parts (l.take j) 0 a ++ Exts.part (xa, xb, xc) 0 a from rfl]; exact r4)
   clear r4 q
   go_wp2_with fail
   go_roundw
   case rel => exact ⟨j + 1, by go_num, by omega, R4⟩
   case measure => simp [intOf]; omega
  ·obtain rfl : j = l.length := by omega
   have R1 := hid hb0.out
   rw [List.take_length] at R1
   clear hb0
   go_wp2_with fail
   go_loopw [30] (fun q wr => ∃ j : Nat, q = .int .i64 j ∧ j ≤ m.length ∧ Hid (RowBox X w wr (Exts.parts l 0 a ++ Exts.parts (m.take j) a b))) (fun q _ => m.length - (intOf q).toNat)
   case atStart => exact ⟨0, rfl, by omega, hid (by have := R1.out; simpa [Exts.parts] using this)⟩
   case round =>
    obtain ⟨j, rfl, hj, hb0⟩ := hrel
    by_cases hlt : j < m.length
    ·have i0 : (0 : Int) ≤ (j : Int) := by omega
     have i1 : (j : Int) < (m.length : Int) := by omega
     obtain ⟨hll, g, off, rfl, c0, c1, c2⟩ := (H2.out.below (B := 0) (hX ▸ hb0.out.bel)).cells j hlt
     clear hll
     have hmy := HM.out j hlt
     have hnx := hid (parts_take m a b j hlt)
     have hln := hid (show (Exts.parts l 0 a ++ Exts.parts (m.take j) a b).length ≤ 1000000000 by have := parts_take_len m a b j; have := parts_len l 0 a; rw [List.length_append]; omega)
     have bA : Below wr.heap.size wr (wr.alloc (.cells #[.int .i64 (m.getD j (0, 0, 0)).1, .int .i64 (m.getD j (0, 0, 0)).2.1, .int .i64 (m.getD j (0, 0, 0)).2.2] 53)) := (Below.refl _ _).alloc (Nat.le_refl _) _
     have q := hid (eput_any X w _ (m.getD j (0, 0, 0)) a b _ (hb0.out.below bA) hmy ha ha2 ⟨by omega, by omega⟩ hln.out)
     generalize m.getD j (0, 0, 0) = x at *
     obtain ⟨xa, xb, xc⟩ := x
     dsimp only at *
     clear hmy bA hb0
     go_wp2_with fail
     refine q.out.mono ?_
     rintro e w4 ⟨rfl, r4⟩
     have R4 : Hid (RowBox X w w4 (Exts.parts l 0 a ++ Exts.parts (m.take (j + 1)) a b)) := hid (by rw [hnx.out, ← List.append_assoc]; exact r4)
     clear r4 q
     go_wp2_with fail
     go_roundw
     case rel => exact ⟨j + 1, by go_num, by omega, R4⟩
     case measure => simp [intOf]; omega
    ·obtain rfl : j = m.length := by omega
     have R2 := hid hb0.out
     rw [List.take_length] at R2
     clear hb0
     go_wp2_with fail
     go_loopw [41] (fun q wr => ∃ j : Nat, q = .int .i64 j ∧ j ≤ l.length ∧ Hid (RowBox X w wr ((Exts.parts l 0 a ++ Exts.parts m a b) ++ Exts.parts (l.take j) b 2048))) (fun q _ => l.length - (intOf q).toNat)
     case atStart => exact ⟨0, rfl, by omega, hid (by have := R2.out; simpa [Exts.parts] using this)⟩
     case round =>
      obtain ⟨j, rfl, hj, hb0⟩ := hrel
      by_cases hlt : j < l.length
      ·have i0 : (0 : Int) ≤ (j : Int) := by omega
       have i1 : (j : Int) < (l.length : Int) := by omega
       obtain ⟨hll, g, off, rfl, c0, c1, c2⟩ := (H.out.below (B := 0) (hX ▸ hb0.out.bel)).cells j hlt
       clear hll
       have hmy := (HR.out.may (l.getD j (0, 0, 0)) (by simp [List.getD, hlt]))
       have hnx := hid (parts_take l b 2048 j hlt)
       have hln := hid (show ((Exts.parts l 0 a ++ Exts.parts m a b) ++ Exts.parts (l.take j) b 2048).length ≤ 1000000000 by have := parts_take_len l b 2048 j; have := parts_len l 0 a; have := parts_len m a b; rw [List.length_append, List.length_append]; omega)
       have bA : Below wr.heap.size wr (wr.alloc (.cells #[.int .i64 (l.getD j (0, 0, 0)).1, .int .i64 (l.getD j (0, 0, 0)).2.1, .int .i64 (l.getD j (0, 0, 0)).2.2] 53)) := (Below.refl _ _).alloc (Nat.le_refl _) _
       have q := hid (eput_any X w _ (l.getD j (0, 0, 0)) b 2048 _ (hb0.out.below bA) hmy hb hb2 ⟨by omega, by omega⟩ hln.out)
       generalize l.getD j (0, 0, 0) = x at *
       obtain ⟨xa, xb, xc⟩ := x
       dsimp only at *
       clear hmy bA hb0
       go_wp2_with fail
       refine q.out.mono ?_
       rintro e w4 ⟨rfl, r4⟩
       have R4 : Hid (RowBox X w w4 ((Exts.parts l 0 a ++ Exts.parts m a b) ++ Exts.parts (l.take (j + 1)) b 2048)) := hid (by rw [hnx.out, ← List.append_assoc]; exact r4)
       clear r4 q
       go_wp2_with fail
       go_roundw
       case rel => exact ⟨j + 1, by go_num, by omega, R4⟩
       case measure => simp [intOf]; omega
      ·obtain rfl : j = l.length := by omega
       have R3 := hid hb0.out
       rw [List.take_length] at R3
       clear hb0
       go_wp2_with fail
       have R4 : Hid (RowBox X w wr (Exts.changeR l a b (Exts.parts m a b))) := R3
       clear R3
       have hLen : (Exts.changeR l a b (Exts.parts m a b)).length ≤ 100000000 := by have := hLL.out; have := hPL.out; omega
       generalize hEq0 : Exts.changeR l a b (Exts.parts m a b) = out at *
       have hEq := hid hEq0
       clear hEq0
       obtain ⟨vo, hX1, hO1⟩ := R4.out.ex
       have cX := cell_of_one hX1
       have hltX := lt_of_block hX1
       have hbw : Below X w wr := R4.out.bel
       have q1 := hid (fun w4 (hb : Below wr.heap.size wr w4) => eblocks_any _ l w4 (SmallsE.row HR.out) ((H.out.below (B := 0) (hX ▸ hbw)).below (B := 0) hb) (by omega))
       have q2 := hid (fun w4 (hb : Below wr.heap.size wr w4) => eblocks_any _ out w4 (SmallsE.row HO.out) ((OwnExts.at hO1).below (B := 0) hb) (by omega))
       obtain ⟨ao, co, rfl⟩ := hO1.slice
       have O1 := hid hO1
       have BW := hid hbw
       have lb1 := hid (Exts.blocks_row l)
       have lb2 := hid (Exts.blocks_row out)
       have ll1 := hid (eblocks_len l)
       have ll2 := hid (eblocks_len out)
       clear hX1 hO1 hbw R4
       go_upto_region 17 with fail
       generalize hBL0 : Exts.blocksR l = BL at *
       have hBL := hid hBL0
       generalize hBO0 : Exts.blocksR out = BO at *
       have hBO := hid hBO0
       clear hBL0 hBO0
       go_region_held3 (fun w' => w'.cell? ⟨X, 0, none⟩ = some (.slice ao out.length co))
        (first | exact cX | exact (s4.cell (p := ⟨X, 0, none⟩) hltX).trans cX | exact (s5.cell (p := ⟨X, 0, none⟩) hltX).trans cX | exact (s6.cell (p := ⟨X, 0, none⟩) hltX).trans cX)
        (first | (go_at_call 109; (first | ((with_reducible refine (q1.out _ ((Below.refl _ _).drew)).mono ?_); rintro e w4 ⟨v4, rfl, o4, b4⟩; have s4 : Below wr.heap.size wr w4 := ⟨b4.os, b4.tape, b4.output, b4.size, b4.block⟩; obtain ⟨a4, n4, c4, rfl⟩ := own_slice o4) | ((with_reducible refine (q2.out _ s4).mono ?_); rintro e w5 ⟨v5, rfl, o5, b5⟩; have s5 : Below wr.heap.size wr w5 := s4.trans (b5.mono s4.size); obtain ⟨a5, n5, c5, rfl⟩ := own_slice o5))) | (go_at_call 159; refine (minus_any _ _ BL BO _ (Smalls.row lb1.out) (Smalls.row lb2.out) (OwnRuns.at (own_belowR o4 b5)) (OwnRuns.at o5) (by have := ll1.out; omega) (by have := ll2.out; omega)).mono ?_; rintro e w6 ⟨v6, rfl, o6, b6⟩; have s6 : Below wr.heap.size wr w6 := s5.trans (b6.mono s5.size); obtain ⟨a6, n6, c6, rfl⟩ := own_slice o6))
       have B6 := hid (BW.out.trans (s6.mono (by have := BW.out.size; omega)))
       have O6 := hid ((OwnExts.below O1.out s6).mono (show w.heap.size ≤ X + 1 by omega))
       have F6 := hid o6
       have z5 := s5.size
       have hk : Hid (∀ k, (Value.slice ao out.length co).ownBlock = some k → k < w5.heap.size) := hid (fun k hk => by have := (World.ownsRow.lt O1.out k hk).2; omega)
       have hle : w.heap.size ≤ w5.heap.size := by have := BW.out.size; omega
       have FIN : Hid (Ans w w6 (Exts.changeR l a b (Exts.parts m a b)) (freedR l (Exts.changeR l a b (Exts.parts m a b))) 0 (.returned (.tuple #[.slice ao out.length co, .slice a6 n6 c6, .int .i64 0]))) := hid (by rw [hEq.out]; exact ⟨_, _, _, rfl, O6.out, hle, hk.out, by unfold freedR; rw [hBL.out, hBO.out]; exact F6.out, by rw [hX]; exact B6.out⟩)
       clear s4 s5 s6 b4 b5 b6 o4 o5 o6
       go_wp2_with fail
       exact bodyPost_ret (v := .tuple #[.slice ao out.length co, .slice a6 n6 c6, .int .i64 0]) (by simp [results, Tryz.results137, go_sem]) rfl FIN.out
end Go.Proofs.YtgjmeeiejcbjfaaGreat
namespace Go.Proofs.YtgjmeeiejcbjfaaGreat
open Go.Lib (hid)
open Go Go.RowKit
variable {B X : Nat} {w : World} {rdv : Value} {d : Nat} {v : Forks.V}
def WAtR (B X : Nat) (w : World) (rdv : Value) (d : Nat) (v : Forks.V) (R : EL) : Prop := ∃ Lb Tb lv rv, lv.length = d ∧ WRaw B X Lb Tb w rdv lv rv (Forks.texts v) (Forks.lvl v) R
theorem WAt.r (h : WAt B X w rdv d v) : WAtR B X w rdv d v (Forks.rowV v) := h
theorem WAtR.below {w' : World} {R : EL} (h : WAtR B X w rdv d v R) (hb : Below w.heap.size w w') : WAtR B X w' rdv d v R := by
 obtain ⟨Lb, Tb, lv, rv, hd, h⟩ := h
 exact ⟨Lb, Tb, lv, rv, hd, h.below hb⟩
def natI (l : List Nat) : IL := l.map fun (n : Nat) => (n : Int)
theorem nodes_take (v : Forks.V) (j : Nat) (hj : j < 4096) : natI (((List.range 4096).take (j + 1)).filter (Forks.has v)) = natI (((List.range 4096).take j).filter (Forks.has v)) ++ (if Forks.has v j = true then [(j : Int)] else []) := by
 rw [List.take_succ_eq_append_getElem (by simpa using hj), List.filter_append]
 unfold natI
 rw [List.map_append, List.getElem_range]
 cases h : Forks.has v j
 ·simp [h]
 ·simp [h]
theorem nodes_take_len (v : Forks.V) (j : Nat) : (natI (((List.range 4096).take j).filter (Forks.has v))).length ≤ 4096 := by
 unfold natI
 rw [List.length_map]
 have h1 := List.length_filter_le (Forks.has v) ((List.range 4096).take j)
 have h2 : ((List.range 4096).take j).length ≤ 4096 := by rw [List.length_take]; simp; omega
 omega
theorem nodes_all (v : Forks.V) : natI (((List.range 4096).take 4096).filter (Forks.has v)) = natI (Forks.nodes v) := by
 rw [List.take_of_length_le (by simp)]; rfl
set_option maxRecDepth 100000 in
set_option maxHeartbeats 4000000 in
theorem nodes_any {R0 : EL} (h : WAtR B X w rdv d v R0) (hg : Forks.Good v) : Calls Tryz.prog 48 #[.pointer (some ⟨X, 0, none⟩)] w fun e w' => (∃ u, e = .returned u ∧ OwnInts w.heap.size w' u (natI (Forks.nodes v))) ∧ Below w.heap.size w w' := by
 obtain ⟨i0, hi0, hz0, hz1, hz2⟩ := info_parts infoInt
 obtain ⟨Lb, Tb, lv, rv, hd, h⟩ := h
 obtain ⟨-, -, -, c3⟩ := h.cellX
 have HC : Hid (∀ b, b < 4096 → w.cell? ⟨Tb, b, none⟩ = some (.string (Forks.textOf v b))) := hid (fun b hb => h.tb.cellAt b (by rw [List.getElem?_map, Forks.texts_at _ _ hb]; rfl))
 have hTl := h.tb.lt
 have HE := hid (fun b => Forks.textOf_has hg b)
 have HT := hid (nodes_take v)
 have HL := hid (nodes_take_len v)
 have HA := hid (nodes_all v)
 have H0 : Hid (natI (((List.range 4096).take 0).filter (Forks.has v)) = []) := hid (by simp [natI])
 clear h hg
 generalize natI (Forks.nodes v) = NV at *
 generalize hF : (fun j => natI (((List.range 4096).take j).filter (Forks.has v))) = F
 have hT2 : Hid (∀ j, j < 4096 → F (j + 1) = F j ++ (if Forks.has v j = true then [(j : Int)] else [])) := hid (by rw [← hF]; exact HT.out)
 have hL2 : Hid (∀ j, (F j).length ≤ 4096) := hid (by rw [← hF]; exact HL.out)
 have hA2 : Hid (F 4096 = NV) := hid (by rw [← hF]; exact HA.out)
 have hO2 : Hid (F 0 = []) := hid (by rw [← hF]; exact H0.out)
 clear hF HT HL HA H0
 go_enter Tryz.func48, Tryz.ntmps48
 go_wp2_with fail
 go_loopw [3, 11] (fun o q wr => ∃ (j : Nat) (u : Value), j ≤ 4096 ∧ u = o ∧ q = .int .i64 j ∧ Hid (OwnInts w.heap.size wr u (F j)) ∧ Hid (Below w.heap.size w wr)) (fun _ q _ => 4096 - (intOf q).toNat)
 case atStart => exact ⟨0, _, by omega, rfl, rfl, hid (by rw [hO2.out]; exact World.ownsRow_nil _ _ _ _), hid (Below.refl _ _)⟩
 case round =>
  obtain ⟨j, o, hj, rfl, rfl, ho, hb⟩ := hrel
  by_cases hlt : j < 4096
  ·obtain ⟨ad, co, rfl⟩ := ho.out.slice
   have i0' : (0 : Int) ≤ (j : Int) := by omega
   have i1 : (j : Int) < 4096 := by omega
   have cj := (hb.out.cell (p := ⟨Tb, j, none⟩) hTl).trans (HC.out j hlt)
   have hE := HE.out j
   have hn := hT2.out j hlt
   have hl := hL2.out j
   cases hh : Forks.has v j
   ·rw [hh] at hE hn
    have hs : (Forks.textOf v j).toList.isEmpty = true := by
     rw [List.isEmpty_iff, ByteArray.toList_eq]
     exact List.eq_nil_of_length_eq_zero (by rw [list_length]; exact hE.mpr rfl)
    have hn' : Hid (F (j + 1) = F j) := hid (by rw [hn]; simp)
    clear hE hn hh
    generalize Forks.textOf v j = T at *
    go_wp2_with fail
    go_roundw
    case rel => exact ⟨j + 1, _, by omega, rfl, by go_num, by rw [hn'.out]; exact ho, hb⟩
    case measure => simp [intOf]; omega
   ·rw [hh] at hE hn
    have hs : (Forks.textOf v j).toList.isEmpty = false := by
     cases h : (Forks.textOf v j).toList.isEmpty
     ·rfl
     ·rw [List.isEmpty_iff, ByteArray.toList_eq] at h
      have : (Forks.textOf v j).size = 0 := by rw [← list_length, h]; rfl
      exact absurd (hE.mp this) (by decide)
    have hn' : Hid (F (j + 1) = F j ++ [(j : Int)]) := hid (by rw [hn]; simp)
    clear hE hn hh
    generalize Forks.textOf v j = T at *
    have hone : ∀ u ∈ ([.int .i64 (j : Int)] : List Value), u.oneCell' = true := by simp [Value.oneCell']
    have HO := hid (show World.ownsRow _ w.heap.size 3 1 (.slice ad (F j).length co) (F j).length (icells (F j)) from ho.out)
    clear ho
    generalize hP : F j = P at *
    have HP := hid hP
    clear hP
    go_wp2_with (first
     | (at_builtin; refine wpList_append_own _ rfl (.tmp 18) (.tmp 20) 43 rfl w.heap.size 3 i0 (.int .i64 0) 1 8 Tryz.underlying43 hi0 hz0 hz1 hz2 rfl (by decide) _ P.length _ rfl (HO.out.alloc _) ⟨wr.heap.size, 0, none⟩ 1 1 [.int .i64 j] rfl rfl (World.news_of_block (heap_alloc_new _ _)) hone (by unfold maxLen; omega) (by omega) (by have := hb.out.size; simp; omega) ?_))
    intro v' w1 hown hgrow _
    have hW := hid ((hb.out.alloc hb.out.size (.cells #[.int .i64 j] 3)).grown hgrow (by have := hb.out.size; simp; omega) (fun k hk => (HO.out.lt k hk).1))
    have hG : Hid (OwnInts w.heap.size w1 v' (F (j + 1))) := hid (by
     rw [hn'.out]
     unfold OwnInts
     rw [List.length_append, icells_append]
     exact hown)
    clear hown hgrow hb
    go_wp2_with fail
    go_roundw
    case rel => exact ⟨j + 1, v', by omega, rfl, by go_num, hG, hW⟩
    case measure => simp [intOf]; omega
  ·obtain rfl : j = 4096 := by omega
   have ho' := ho.out
   rw [hA2.out] at ho'
   have HO := hid ho'
   clear ho'
   go_wp2_with fail
   go_ret
   exact ⟨⟨_, rfl, HO.out⟩, hb.out⟩
set_option maxHeartbeats 1000000 in
theorem meets1_any (x : Int) (hx : -9223372036854775808 ≤ x ∧ x ≤ 9223372036854775807) (P : Nat) (rl : Value) (L : RL) (w : World) (hs : Smalls L) (hp : w.cell? ⟨P, 0, none⟩ = some rl) (hr : RunsAt w rl L) (hl : L.length ≤ 1000000000) :
  Calls Tryz.prog 110 #[.int .i64 x, .pointer (some ⟨P, 0, none⟩)] w fun e w' => e = .returned (.bool (hasB L x)) ∧ Below w.heap.size w w' := by
 have q := hid (has_any rl L x w hs hr hl hx)
 have hform : ∃ ad c, rl = .slice ad L.length c := by
  rcases hr with ⟨rfl, rfl⟩ | ⟨b, o, c, rfl, _⟩
  ·exact ⟨_, _, rfl⟩
  ·exact ⟨_, _, rfl⟩
 obtain ⟨ad, c, rfl⟩ := hform
 clear hr hs
 generalize hasB L x = r at *
 go_enter Tryz.func110, Tryz.ntmps110
 go_wp2_with fail
 refine q.out.mono ?_
 rintro e w' ⟨rfl, hb⟩
 have B2 := hid hb
 clear hb
 go_wp2_with fail
 go_ret
 exact ⟨rfl, B2.out⟩
set_option maxRecDepth 100000 in
set_option maxHeartbeats 2000000 in
theorem idxMeets_any (P : Nat) (v : Value) (l : List Int) (p : Int → Bool) (w : World) (h : IntsAt w v l) (hl : l.length ≤ 1000000000)
  (hc : ∀ x ∈ l, ∀ wz, Below w.heap.size w wz → Calls Tryz.prog 110 #[.int .i64 x, .pointer (some ⟨P, 0, none⟩)] wz fun e w' => e = .returned (.bool (p x)) ∧ Below wz.heap.size wz w') :
  Calls Tryz.prog 98 #[v, .func (.func 110) #[] #[.pointer (some ⟨P, 0, none⟩)]] w fun e w' => e = .returned (.int .i64 (idxOf p l)) ∧ Below w.heap.size w w' := by
 have H := hid h
 have hcl := hid hc
 obtain ⟨ad, cap, rfl⟩ := h.form
 clear h hc
 generalize hI : idxOf p l = I at *
 have HI := hid hI
 clear hI
 go_enter Tryz.func98, Tryz.ntmps98
 go_wp2_with fail
 go_loopw [8] (fun q wr => ∃ j : Nat, j ≤ l.length ∧ q = .int .i64 j ∧ Hid (∀ k, k < j → p (l.getD k 0) = false) ∧ Hid (Below w.heap.size w wr)) (fun q _ => l.length - (intOf q).toNat)
 case atStart => exact ⟨0, by omega, rfl, hid (fun k hk => absurd hk (Nat.not_lt_zero _)), hid (Below.refl _ _)⟩
 case round =>
  obtain ⟨j, hj, rfl, ha, hb⟩ := hrel
  by_cases hlt : j < l.length
  ·have i0 : (0 : Int) ≤ (j : Int) := by omega
   have i1 : (j : Int) < (l.length : Int) := by omega
   obtain ⟨g, off, rfl, c0⟩ := (H.out.below hb.out).cells j hlt
   have hmx : l.getD j 0 ∈ l := by rw [show l.getD j 0 = l[j] by simp [List.getD, hlt]]; exact List.getElem_mem hlt
   have hc := hid (hcl.out _ hmx wr hb.out)
   clear hmx
   cases hm : p (l.getD j 0)
   ·have ha' : Hid (∀ k, k < j + 1 → p (l.getD k 0) = false) := hid (fun k hk => by
     rcases Nat.lt_or_ge k j with h | h
     ·exact ha.out k h
     ·obtain rfl : k = j := by omega
      exact hm)
    rw [hm] at hc
    generalize l.getD j 0 = x at *
    clear hm
    go_wp2_with fail
    refine hc.out.mono ?_
    rintro e w' ⟨rfl, hb'⟩
    have B2 := hid (hb.out.trans (hb'.mono hb.out.size))
    clear hb'
    go_wp2_with fail
    go_roundw
    case rel => exact ⟨j + 1, by omega, by go_num, ha', B2⟩
    case measure => simp [intOf]; omega
   ·have hfb : Hid (I = (j : Int)) := hid (by rw [← HI.out]; exact idxOf_at p l j hlt 0 ha.out hm)
    rw [hm] at hc
    generalize l.getD j 0 = x at *
    clear hm
    go_wp2_with fail
    refine hc.out.mono ?_
    rintro e w' ⟨rfl, hb'⟩
    have B2 := hid (hb.out.trans (hb'.mono hb.out.size))
    clear hb'
    go_wp2_with fail
    go_ret
    exact ⟨by rw [hfb.out]; rfl, B2.out⟩
  ·obtain rfl : j = l.length := by omega
   have hfb : Hid (I = -1) := hid (by rw [← HI.out]; exact idxOf_no p l 0 ha.out)
   go_wp2_with fail
   go_ret
   exact ⟨by rw [hfb.out]; rfl, hb.out⟩
theorem hasMeets_any (P : Nat) (v : Value) (l : List Int) (p : Int → Bool) (w : World) (h : IntsAt w v l) (hl : l.length ≤ 1000000000)
  (hc : ∀ x ∈ l, ∀ wz, Below w.heap.size w wz → Calls Tryz.prog 110 #[.int .i64 x, .pointer (some ⟨P, 0, none⟩)] wz fun e w' => e = .returned (.bool (p x)) ∧ Below wz.heap.size wz w') :
  Calls Tryz.prog 59 #[v, .func (.func 110) #[] #[.pointer (some ⟨P, 0, none⟩)]] w fun e w' => e = .returned (.bool (l.any p)) ∧ Below w.heap.size w w' := by
 have q := hid (idxMeets_any P v l p w h hl hc)
 have hA := hid (idxOf_any p l)
 clear h hc
 generalize l.any p = r at *
 rcases idxOf_cases p l with hI | ⟨j, hj, hI⟩
 ·rw [hI] at q hA
  clear hI
  go_enter Tryz.func59, Tryz.ntmps59
  go_wp2_with fail
  refine q.out.mono ?_
  rintro e w' ⟨rfl, hb⟩
  have B2 := hid hb
  clear hb
  go_wp2_with fail
  go_ret
  exact ⟨by rw [← hA.out]; rfl, B2.out⟩
 ·rw [hI] at q hA
  clear hI
  have j0 : (0 : Int) ≤ (j : Int) := by omega
  go_enter Tryz.func59, Tryz.ntmps59
  go_wp2_with fail
  refine q.out.mono ?_
  rintro e w' ⟨rfl, hb⟩
  have B2 := hid hb
  clear hb
  go_wp2_with fail
  go_ret
  exact ⟨by rw [← hA.out, decide_eq_true j0]; rfl, B2.out⟩
theorem hasB_taken (R : EL) (hR : Exts.Row R) (b : Int) : hasB (Exts.blocksR R) b = Forks.taken R b := by
 rw [Bool.eq_iff_iff, hasB_mem, Exts.blocks_mem hR]
 unfold Forks.taken Exts.has
 rw [List.any_eq_true]
 constructor
 ·rintro ⟨x, hx, h⟩
  refine ⟨x, hx, ?_⟩
  unfold Forks.inX
  simp only [Bool.and_eq_true, decide_eq_true_eq]
  omega
 ·rintro ⟨x, hx, h⟩
  refine ⟨x, hx, ?_⟩
  unfold Forks.inX at h
  simp only [Bool.and_eq_true, decide_eq_true_eq] at h
  omega
theorem meets_eq (v : Forks.V) (R : EL) (h : ∀ b, hasB (Exts.blocksR R) b = Forks.taken R b) : (natI (Forks.nodes v)).any (hasB (Exts.blocksR R)) = Forks.meets v R := by
 unfold Forks.meets natI
 rw [List.any_map]
 generalize Forks.nodes v = L
 induction L with
 | nil => rfl
 | cons b L ih =>
  rw [List.any_cons, List.any_cons, ih]
  show (hasB (Exts.blocksR R) (b : Int) || _) = _
  rw [h]
theorem nodes_lt (v : Forks.V) : ∀ x ∈ natI (Forks.nodes v), 0 ≤ x ∧ x < 4096 := by
 intro x hx
 unfold natI at hx
 obtain ⟨n, hn, rfl⟩ := List.mem_map.1 hx
 have := List.mem_range.1 (List.mem_filter.1 hn).1
 omega
theorem nodes_length (v : Forks.V) : (natI (Forks.nodes v)).length ≤ 4096 := by
 have := nodes_take_len v 4096
 rwa [nodes_all] at this
set_option maxHeartbeats 2000000 in
theorem meets_any {R0 : EL} (h : WAtR B X w rdv d v R0) (hg : Forks.Good v) (u : Value) (R : EL) (hR : Exts.Row R) (hu : ExtsAt w u R) (hl : R.length ≤ 1000000) (r : Bool) (hr : Forks.meets v R = r) :
  Calls Tryz.prog 75 #[.pointer (some ⟨X, 0, none⟩), u] w fun e w' => e = .returned (.bool r) ∧ Below w.heap.size w w' := by
 have q := hid (eblocks_any u R w (SmallsE.row hR) hu (by omega))
 have hRL : Hid (∀ b, hasB (Exts.blocksR R) b = Forks.taken R b) := hid (hasB_taken R hR)
 have hSm : Hid (Smalls (Exts.blocksR R)) := hid (Smalls.row (Exts.blocks_row R))
 have hLn := hid (eblocks_len R)
 have H := hid (And.intro h hg)
 have HR := hid hr
 obtain ⟨ad, c, rfl⟩ := hu.form
 clear hu h hg hr
 go_enter Tryz.func75, Tryz.ntmps75
 go_wp2_with fail
 refine q.out.mono ?_
 rintro e w1 ⟨v1, rfl, o1, b1⟩
 have O1 := hid o1
 have B1 := hid b1
 clear o1 b1
 obtain ⟨ad1, c1, hv1⟩ : ∃ ad1 c1, v1 = .slice ad1 (Exts.blocksR R).length c1 := by
  rcases O1.out.at with ⟨rfl, h0⟩ | ⟨b, o, c, rfl, _⟩
  ·rw [h0]; exact ⟨_, _, rfl⟩
  ·exact ⟨_, _, rfl⟩
 subst hv1
 have bA : Below w1.heap.size w1 (w1.alloc (.cells #[.slice ad1 (Exts.blocksR R).length c1] 187)) := (Below.refl _ _).alloc (Nat.le_refl _) _
 have q2 := hid (nodes_any ((H.out.1.below B1.out).below bA) H.out.2)
 have hP : Hid (∀ wz, Below (w1.alloc (.cells #[.slice ad1 (Exts.blocksR R).length c1] 187)).heap.size (w1.alloc (.cells #[.slice ad1 (Exts.blocksR R).length c1] 187)) wz → wz.cell? ⟨w1.heap.size, 0, none⟩ = some (.slice ad1 (Exts.blocksR R).length c1) ∧ RunsAt wz (.slice ad1 (Exts.blocksR R).length c1) (Exts.blocksR R)) := hid (fun wz hz =>
  ⟨(hz.cell (p := ⟨w1.heap.size, 0, none⟩) (by simp)).trans (box_cell _ _ _ _), (O1.out.at.below (B := 0) bA).below (B := 0) hz⟩)
 have HA := hid bA
 clear bA
 go_wp2_with fail
 refine q2.out.mono ?_
 rintro e w2 ⟨⟨v2, rfl, o2⟩, b2⟩
 have B2 := hid b2
 have hfin : Hid ((natI (Forks.nodes v)).any (hasB (Exts.blocksR R)) = r) := hid (by
  rw [← HR.out]
  exact meets_eq v R (hRL.out))
 have q3 := hid (hasMeets_any w1.heap.size v2 (natI (Forks.nodes v)) (hasB (Exts.blocksR R)) w2 o2.at (by have := nodes_length v; omega) (fun x hx wz hz => by
  obtain ⟨g1, g2⟩ := hP.out wz (B2.out.trans (hz.mono B2.out.size))
  have := nodes_lt v x hx
  exact meets1_any x (by omega) _ _ _ wz hSm.out g1 g2 (by have := hLn.out; omega)))
 rw [hfin.out] at q3
 obtain ⟨ad2, c2, rfl⟩ := o2.slice
 clear o2 b2
 go_wp2_with fail
 refine q3.out.mono ?_
 rintro e w3 ⟨rfl, b3⟩
 have F := hid (B1.out.trans ((HA.out.trans ((B2.out.trans (b3.mono B2.out.size)).mono HA.out.size)).mono B1.out.size))
 clear b3
 go_wp2_with fail
 go_ret
 exact ⟨rfl, F.out⟩
end Go.Proofs.YtgjmeeiejcbjfaaGreat
