/- Twin, Left, spoil. -/
import Derived.Test.YtkpnimekhekpmaaRunsRefPut
namespace Go.Proofs.Ytkpnimekhekpmaa
open Go Go.RowKit

theorem OwnRuns.below {B : Nat} {w w' : World} {v : Value} {l : RL} (h : OwnRuns B w v l) (hb : Below w.heap.size w w') : OwnRuns B w' v l := own_belowR h hb
def twinTail : RL := [(-70, 0), (-71, 0)]
/-- A twin of a list: runs in memory of its own, with room behind. -/
def TwinAt (B : Nat) (w : World) (v : Value) (l : RL) : Prop := ∃ g cap, v = .slice (some ⟨g, 0, none⟩) l.length cap ∧ l.length + 2 ≤ cap ∧ OwnRuns B w (.slice (some ⟨g, 0, none⟩) (l.length + 2) cap) (l ++ twinTail)
theorem TwinAt.below {B : Nat} {w w' : World} {v : Value} {l : RL} (h : TwinAt B w v l) (hb : Below w.heap.size w w') : TwinAt B w' v l := by
  obtain ⟨g, cap, e, hc, ho⟩ := h
  exact ⟨g, cap, e, hc, ho.below hb⟩
theorem TwinAt.at {B : Nat} {w : World} {v : Value} {l : RL} (h : TwinAt B w v l) : RunsAt w v l := by
  obtain ⟨g, cap, rfl, hc, ho⟩ := h
  refine .inr ⟨g, 0, cap, rfl, fun j u hj => ?_⟩
  have ho' : w.ownsRow B 30 2 (.slice (some ⟨g, 0, none⟩) (l.length + 2) cap) (l.length + 2) (rcells (l ++ twinTail)) := by
    have := ho
    unfold OwnRuns at this
    rwa [show (l ++ twinTail).length = l.length + 2 by simp [twinTail]] at this
  rw [Nat.zero_add]
  refine own_cellAt2 ho' ?_
  rw [rcells_append, List.getElem?_append_left (List.getElem?_eq_some_iff.1 hj).1]
  exact hj

set_option maxRecDepth 100000 in
set_option maxHeartbeats 4000000 in
theorem twin_any (v : Value) (l : RL) (w : World) (h : RunsAt w v l) (hl : l.length ≤ 1000) :
    Calls Try.prog 11 #[v] w fun e w' => ∃ v', e = .returned v' ∧ TwinAt w.heap.size w' v' l ∧ Below w.heap.size w w' := by
  obtain ⟨i0', hi0, hz0, hz1, hz2⟩ := info_parts info_run
  obtain ⟨MC, hMC, hmk⟩ : ∃ MC : Array Value, MC.size = (l.length + 2) * 2 ∧ ∀ wx : World, (Instr.makeSlice 22 (.int .i64 0) (.int .i64 ((l.length : Int) + 2))).run Try.prog wx = .ok (.slice (some ⟨wx.heap.size, 0, none⟩) 0 (l.length + 2)) (wx.alloc (.cells MC 30)) := by
    refine ⟨madeCells (Value.agg #[.int .i64 0, .int .i64 0]).cells (((l.length : Int) + 2).toNat * i0'.size), ?_, fun wx => ?_⟩
    · rw [size_madeCells, hz1]
      omega
    · have hr := run_make (P := Try.prog) wx 22 30 i0' _ Try.underlying22 hi0 hz0 .i64 .i64 0 ((l.length : Int) + 2) (by omega) (by omega) (by rw [hz2]; omega) (by omega)
      rw [show ((l.length : Int) + 2).toNat = l.length + 2 by omega] at hr ⊢
      exact hr
  have h0 : Hid ((w.alloc (.cells MC 30)).ownsRow w.heap.size 30 2 (.slice (some ⟨w.heap.size, 0, none⟩) 0 (l.length + 2)) 0 []) := Lib.hid
    ⟨rfl, .inr ⟨w.heap.size, l.length + 2, MC, rfl, Nat.le_refl _, heap_alloc_new w _, Nat.zero_le _, by unfold maxLen; omega, hMC, by simp⟩⟩
  have b0 : Hid (Below w.heap.size w (w.alloc (.cells MC 30))) := Lib.hid ((Below.refl _ _).alloc (Nat.le_refl _) _)
  have hlw : IntKind.i64.wrap ((l.length : Int) + 2) = (l.length : Int) + 2 := IntWalk.i64_in _ (by omega)
  rcases h with ⟨rfl, rfl⟩ | ⟨gx, ox, cx, rfl, hcx⟩
  · have hmk' : ∀ wx : World, (Instr.makeSlice 22 (.int .i64 0) (.int .i64 2)).run Try.prog wx = .ok (.slice (some ⟨wx.heap.size, 0, none⟩) 0 2) (wx.alloc (.cells MC 30)) := fun wx => by simpa using hmk wx
    have o1 : (w.alloc (.cells MC 30)).ownsRow w.heap.size 30 2 (.slice (some ⟨w.heap.size, 0, none⟩) 0 2) 0 [] := by simpa using h0.out
    have b1 := b0.out
    clear hmk h0 b0 hlw
    go_enter Try.func11, Try.ntmps11
    have O1 := Lib.hid o1
    have B1 := Lib.hid b1
    have z1 := b1.size
    have G : ((w.alloc (.cells MC 30)).alloc (.cells #[.int .i64 (-70), .int .i64 0, .int .i64 (-71), .int .i64 0] 30)).ownsRow w.heap.size 30 2 (.slice (some ⟨w.heap.size, 0, none⟩) 0 2) 0 [] := own_belowR O1.out ((Below.refl _ _).alloc (Nat.le_refl _) _)
    have NN : ∀ jj uu, [Value.int .i64 (-70), Value.int .i64 0, Value.int .i64 (-71), Value.int .i64 0][jj]? = some uu → ((w.alloc (.cells MC 30)).alloc (.cells #[.int .i64 (-70), .int .i64 0, .int .i64 (-71), .int .i64 0] 30)).cell? ((⟨w.heap.size + 1, 0, none⟩ : Addr).add jj) = some uu := fun jj uu hjj => by
      have hadd : (⟨w.heap.size + 1, 0, none⟩ : Addr).add jj = ⟨w.heap.size + 1, jj, none⟩ := by unfold Addr.add; split <;> simp_all
      rw [hadd, World.cell?_alloc_at _ _ _ _ (by simp)]
      simpa using hjj
    have hone2 := rcells_one twinTail
    clear o1 b1
    go_upto_region 3 with fail
    go_wp2_with (first
      | (at_builtin; refine wpList_append_own _ rfl _ _ 22 rfl w.heap.size 30 i0' (.agg #[.int .i64 0, .int .i64 0]) 2 16 Try.underlying22 hi0 hz0 hz1 hz2 rfl (by decide) _ 0 _ rfl G ⟨w.heap.size + 1, 0, none⟩ 2 2 [.int .i64 (-70), .int .i64 0, .int .i64 (-71), .int .i64 0] rfl rfl NN hone2 (by unfold maxLen; omega) (by omega) (by simp; omega) ?_))
    intro v' w5 hown hgrow _
    have B5 : Hid (Below w.heap.size w w5) := Lib.hid ((B1.out.alloc z1 (.cells #[.int .i64 (-70), .int .i64 0, .int .i64 (-71), .int .i64 0] 30)).grown hgrow (by simp; omega) (fun k hk => (World.ownsRow.lt O1.out k hk).1))
    obtain ⟨g5, c5, rfl, _, _⟩ := World.ownsRow.form hown (by omega)
    have hc5 : 2 ≤ c5 ∧ c5 ≤ maxLen := by
      rcases hown.2 with ⟨e, _⟩ | ⟨_, _, _, e, _, _, h1, h2, _⟩
      · cases e
      · cases e; exact ⟨h1, h2⟩
    have O5 : Hid (OwnRuns w.heap.size w5 (.slice (some ⟨g5, 0, none⟩) (2) c5) ([] ++ twinTail)) := Lib.hid (by
      unfold OwnRuns
      exact hown)
    have k1 : (0 : Int) ≤ (0 : Int) := by omega
    have k2 : (0 : Int) ≤ (c5 : Int) := by omega
    unfold maxLen at hc5
    clear hown hgrow G NN
    go_wp2_with fail
    go_ret
    exact ⟨_, rfl, ⟨g5, c5, rfl, hc5.1, O5.out⟩, B5.out⟩
  · have hne : ∀ j u, (rcells l)[j]? = some u → (w.alloc (.cells MC 30)).cell? ((⟨gx, ox, none⟩ : Addr).add j) = some u := fun j u hu => by
      have e1 : (⟨gx, ox, none⟩ : Addr).add j = ⟨gx, ox + j, none⟩ := by unfold Addr.add; split <;> simp_all
      rw [e1]
      exact Lib.cell?_alloc_some _ (hcx j u hu)
    have hone := rcells_one l
    have hrl := rcells_length l
    clear hcx
    go_enter Try.func11, Try.ntmps11
    go_wp2_with (first
      | (at_builtin; refine wpList_append_own _ rfl _ _ 22 rfl w.heap.size 30 i0' (.agg #[.int .i64 0, .int .i64 0]) 2 16 Try.underlying22 hi0 hz0 hz1 hz2 rfl (by decide) _ 0 _ rfl h0.out ⟨gx, ox, none⟩ l.length _ (rcells l) rfl hrl hne hone (by unfold maxLen; omega) (by omega) (by simp) ?_))
    intro u W1 o1' hgrow1 _
    have o1 : W1.ownsRow w.heap.size 30 2 u l.length (rcells l) := by simpa using o1'
    have b1 : Below w.heap.size w W1 := b0.out.grown hgrow1 (by simp) (fun k hk => (World.ownsRow.lt h0.out k hk).1)
    clear o1' hgrow1 h0 b0
    have O1 := Lib.hid o1
    have B1 := Lib.hid b1
    have z1 := b1.size
    have G : (W1.alloc (.cells #[.int .i64 (-70), .int .i64 0, .int .i64 (-71), .int .i64 0] 30)).ownsRow w.heap.size 30 2 u l.length (rcells l) := own_belowR O1.out ((Below.refl _ _).alloc (Nat.le_refl _) _)
    have NN : ∀ jj uu, [Value.int .i64 (-70), Value.int .i64 0, Value.int .i64 (-71), Value.int .i64 0][jj]? = some uu → (W1.alloc (.cells #[.int .i64 (-70), .int .i64 0, .int .i64 (-71), .int .i64 0] 30)).cell? ((⟨W1.heap.size, 0, none⟩ : Addr).add jj) = some uu := fun jj uu hjj => by
      have hadd : (⟨W1.heap.size, 0, none⟩ : Addr).add jj = ⟨W1.heap.size, jj, none⟩ := by unfold Addr.add; split <;> simp_all
      rw [hadd, World.cell?_alloc_at _ _ _ _ rfl]
      simpa using hjj
    have hone2 := rcells_one twinTail
    clear o1 b1
    go_wp2_with (first
      | (at_builtin; refine wpList_append_own _ rfl _ _ 22 rfl w.heap.size 30 i0' (.agg #[.int .i64 0, .int .i64 0]) 2 16 Try.underlying22 hi0 hz0 hz1 hz2 rfl (by decide) _ l.length _ rfl G ⟨W1.heap.size, 0, none⟩ 2 2 [.int .i64 (-70), .int .i64 0, .int .i64 (-71), .int .i64 0] rfl rfl NN hone2 (by unfold maxLen; omega) (by omega) (by simp; omega) ?_))
    intro v' w5 hown hgrow _
    have B5 : Hid (Below w.heap.size w w5) := Lib.hid ((B1.out.alloc z1 (.cells #[.int .i64 (-70), .int .i64 0, .int .i64 (-71), .int .i64 0] 30)).grown hgrow (by simp; omega) (fun k hk => (World.ownsRow.lt O1.out k hk).1))
    obtain ⟨g5, c5, rfl, _, _⟩ := World.ownsRow.form hown (by omega)
    have hc5 : l.length + 2 ≤ c5 ∧ c5 ≤ maxLen := by
      rcases hown.2 with ⟨e, _⟩ | ⟨_, _, _, e, _, _, h1, h2, _⟩
      · cases e
      · cases e; exact ⟨h1, h2⟩
    have O5 : Hid (OwnRuns w.heap.size w5 (.slice (some ⟨g5, 0, none⟩) (l.length + 2) c5) (l ++ twinTail)) := Lib.hid (by
      unfold OwnRuns
      rw [show (l ++ twinTail).length = l.length + 2 by simp [twinTail], rcells_append]
      exact hown)
    have k1 : (0 : Int) ≤ (l.length : Int) := by omega
    have k2 : (l.length : Int) ≤ (c5 : Int) := by omega
    unfold maxLen at hc5
    clear hown hgrow G NN
    go_wp2_with fail
    go_ret
    exact ⟨_, rfl, ⟨g5, c5, rfl, hc5.1, O5.out⟩, B5.out⟩

theorem grownBy_refl (w : World) (row : Option Nat) : w.grownBy w row := ⟨rfl, rfl, rfl, Nat.le_refl _, fun _ _ _ => rfl⟩
theorem grownBy_set {w w' : World} {g k : Nat} (h : w.grownBy w' (some g)) (u : Value) : w.grownBy (w'.setCell ⟨g, k, none⟩ u) (some g) :=
  ⟨h.os, h.tape, h.output, by simpa using h.size, fun j hj hne => by
    have hjg : j ≠ g := fun e => hne (by rw [e])
    rw [Below.heap_setCell _ _ _ _ (show j ≠ (⟨g, k, none⟩ : Addr).block from hjg)]
    exact h.block j hj hne⟩
theorem own_after {B : Nat} {w w' : World} {v : Value} {L : RL} {row : Option Nat} (h : OwnRuns B w v L) (hlt : ∀ j, row = some j → j < B) (hg : w.grownBy w' row) : OwnRuns B w' v L := by
  refine World.ownsRow.kept h hg ?_
  cases hv : v.ownBlock with
  | none => exact .inl rfl
  | some k =>
    refine .inr (fun e => ?_)
    have h1 := hlt k e.symm
    have h2 := (World.ownsRow.lt h k hv).1
    omega

set_option maxHeartbeats 2000000 in
theorem spoil_any (B : Nat) (v : Value) (l : RL) (w : World) (h : OwnRuns B w v l) (hl : l.length ≤ 1000000000) :
    Calls Try.prog 15 #[v] w fun e w' => e = .returned (.tuple #[]) ∧ w.grownBy w' v.ownBlock ∧ Below B w w' := by
  rcases h.form with ⟨rfl, rfl⟩ | ⟨g, co, rfl, hco⟩
  · have hb := Lib.hid (Below.refl B w)
    go_enter Try.func15, Try.ntmps15
    go_wp2_with fail
    go_loopw [2] (fun q wr => q = .int .i64 0 ∧ w = wr) (fun _ _ => 0)
    case atStart => exact ⟨rfl, rfl⟩
    case round =>
      obtain ⟨rfl, rfl⟩ := hrel
      go_wp2_with fail
      go_end0
      exact ⟨rfl, grownBy_refl _ _, hb.out⟩
  · have hgB : B ≤ g := (own_lt2 h g rfl).1
    have H := Lib.hid h
    clear h
    go_enter Try.func15, Try.ntmps15
    go_wp2_with fail
    go_loopw [2] (fun q wr => ∃ (j : Nat) (R : RL), q = .int .i64 j ∧ j ≤ l.length ∧ R.length = l.length ∧ Hid (wr.ownsRow B 30 2 (.slice (some ⟨g, 0, none⟩) l.length co) l.length (rcells R)) ∧ Hid (w.grownBy wr (some g)) ∧ Hid (Below B w wr)) (fun q _ => l.length - (intOf q).toNat)
    case atStart => exact ⟨0, l, rfl, by omega, rfl, H, Lib.hid (grownBy_refl _ _), Lib.hid (Below.refl _ _)⟩
    case round =>
      obtain ⟨j, R, rfl, hj, hR, ho, hg, hb⟩ := hrel
      by_cases hlt : j < l.length
      · have i0 : (0 : Int) ≤ (j : Int) := by omega
        have i1 : (j : Int) < (l.length : Int) := by omega
        obtain ⟨y0, y1⟩ := rcells_at R j (by omega)
        have c0 := own_cellAt2 ho.out y0
        have c1 := own_cellAt2 ho.out y1
        have f0 := own_free2 ho.out (j * 2)
        have f1 := own_free2 ho.out (j * 2 + 1)
        have o2 := own_set2 (own_set2 ho.out (j * 2) (.int .i64 (-9))) (j * 2 + 1) (.int .i64 (-9))
        have hrs := rcells_set R j (-9, -9) (by omega)
        dsimp only at hrs
        rw [hrs] at o2
        have O2 := Lib.hid o2
        have G2 := Lib.hid (grownBy_set (k := j * 2 + 1) (grownBy_set (k := j * 2) hg.out (.int .i64 (-9))) (.int .i64 (-9)))
        have B2 := Lib.hid ((hb.out.setCell (p := ⟨g, j * 2, none⟩) hgB (.int .i64 (-9))).setCell (p := ⟨g, j * 2 + 1, none⟩) hgB (.int .i64 (-9)))
        clear o2 hrs y0 y1
        go_wp2_with fail
        go_roundw
        case rel => exact ⟨j + 1, R.set j (-9, -9), by go_num, by omega, by simp [hR], O2, G2, B2⟩
        case measure => simp [intOf]; omega
      · obtain rfl : j = l.length := by omega
        go_wp2_with fail
        go_end0
        exact ⟨rfl, hg.out, hb.out⟩

set_option maxHeartbeats 2000000 in
theorem left_any (B : Nat) (vt vl : Value) (l : RL) (w : World) (ht : TwinAt B w vt l) (hl : RunsAt w vl l) (hn : l.length ≤ 1000) :
    Calls Try.prog 16 #[vt, vl] w fun e w' => e = .returned (.bool true) ∧ Below w.heap.size w w' := by
  have q := Lib.hid (same_b w vt vl l l ht.at hl (by omega) (by omega) true (by simp))
  obtain ⟨ad, cl, rfl⟩ : ∃ ad cap, vl = .slice ad l.length cap := by
    rcases hl with ⟨rfl, rfl⟩ | ⟨b, off, cap, rfl, _⟩
    · exact ⟨_, _, rfl⟩
    · exact ⟨_, _, rfl⟩
  obtain ⟨g, cap, rfl, hc, ho⟩ := ht
  have ho' : w.ownsRow B 30 2 (.slice (some ⟨g, 0, none⟩) (l.length + 2) cap) (l.length + 2) (rcells (l ++ twinTail)) := by
    have := ho
    unfold OwnRuns at this
    rwa [show (l ++ twinTail).length = l.length + 2 by simp [twinTail]] at this
  have hcm : cap ≤ 9223372036854775807 := by
    rcases ho'.2 with ⟨e, _⟩ | ⟨_, _, _, e, _, _, h1, h2, _⟩
    · cases e
    · cases e; unfold maxLen at h2; exact h2
  have x0 : (rcells (l ++ twinTail))[l.length * 2]? = some (.int .i64 (-70)) := by
    rw [rcells_append, List.getElem?_append_right (by rw [rcells_length]; exact Nat.le_refl _), rcells_length, Nat.sub_self]
    rfl
  have x1 : (rcells (l ++ twinTail))[(l.length + 1) * 2]? = some (.int .i64 (-71)) := by
    rw [rcells_append, List.getElem?_append_right (by rw [rcells_length]; omega), rcells_length, show (l.length + 1) * 2 - l.length * 2 = 2 by omega]
    rfl
  have hgl := (World.ownsRow.lt ho' g rfl).2
  have c0 := Lib.hid (own_cellAt2 ho' x0)
  have c1 := Lib.hid (own_cellAt2 ho' x1)
  clear ho ho' x0 x1 hl
  have hw2 : IntKind.i64.wrap ((l.length : Int) + 2) = (l.length : Int) + 2 := IntWalk.i64_in _ (by omega)
  have hw1 : IntKind.i64.wrap ((l.length : Int) + 1) = (l.length : Int) + 1 := IntWalk.i64_in _ (by omega)
  have k1 : (l.length : Int) + 2 ≤ (cap : Int) := by omega
  have k2 : ¬ (cap : Int) < (l.length : Int) + 2 := by omega
  go_enter Try.func16, Try.ntmps16
  go_wp2_with fail
  refine q.out.mono ?_
  rintro e w1 ⟨rfl, b1⟩
  have d0 := (b1.cell (p := ⟨g, l.length * 2, none⟩) hgl).trans c0.out
  have d1 := (b1.cell (p := ⟨g, (l.length + 1) * 2, none⟩) hgl).trans c1.out
  have B1 := Lib.hid b1
  clear b1 q c0 c1
  go_wp2_with fail
  go_ret
  exact ⟨rfl, B1.out⟩

end Go.Proofs.Ytkpnimekhekpmaa
