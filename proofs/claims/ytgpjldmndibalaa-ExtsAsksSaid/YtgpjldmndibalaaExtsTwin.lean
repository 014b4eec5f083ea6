/- Twin, Left of rows of exts; same, which writes over what it is handed. -/
import Derived.Test.YtgpjldmndibalaaExtsSets
import Derived.Test.YtgpjldmndibalaaExtsJoined
namespace Go.Proofs.Ytgpjldmndibalaa
open Go Go.RowKit

def twinTailE : EL := [(0, 0, -70), (0, 0, -71)]
/-- A twin of a list: runs in memory of its own, with room behind. -/
def TwinE (B : Nat) (w : World) (v : Value) (l : EL) : Prop := ∃ g cap, v = .slice (some ⟨g, 0, none⟩) l.length cap ∧ l.length + 2 ≤ cap ∧ OwnExts B w (.slice (some ⟨g, 0, none⟩) (l.length + 2) cap) (l ++ twinTailE)
theorem TwinE.below {B : Nat} {w w' : World} {v : Value} {l : EL} (h : TwinE B w v l) (hb : Below w.heap.size w w') : TwinE B w' v l := by
  obtain ⟨g, cap, e, hc, ho⟩ := h
  exact ⟨g, cap, e, hc, OwnExts.below ho hb⟩
theorem TwinE.at {B : Nat} {w : World} {v : Value} {l : EL} (h : TwinE B w v l) : ExtsAt w v l := by
  obtain ⟨g, cap, rfl, hc, ho⟩ := h
  refine .inr ⟨g, 0, cap, rfl, fun j u hj => ?_⟩
  have ho' : w.ownsRow B 37 3 (.slice (some ⟨g, 0, none⟩) (l.length + 2) cap) (l.length + 2) (ecells (l ++ twinTailE)) := by
    have := ho
    unfold OwnExts at this
    rwa [show (l ++ twinTailE).length = l.length + 2 by simp [twinTailE]] at this
  rw [Nat.zero_add]
  refine own_cellN ho' ?_
  rw [ecells_append, List.getElem?_append_left (List.getElem?_eq_some_iff.1 hj).1]
  exact hj

set_option maxRecDepth 100000 in
set_option maxHeartbeats 4000000 in
theorem etwin_any (v : Value) (l : EL) (w : World) (h : ExtsAt w v l) (hl : l.length ≤ 1000) :
    Calls Try.prog 11 #[v] w fun e w' => ∃ v', e = .returned v' ∧ TwinE w.heap.size w' v' l ∧ Below w.heap.size w w' := by
  obtain ⟨i0', hi0, hz0, hz1, hz2⟩ := info_parts info_ext
  obtain ⟨MC, hMC, hmk⟩ : ∃ MC : Array Value, MC.size = (l.length + 2) * 3 ∧ ∀ wx : World, (Instr.makeSlice 22 (.int .i64 0) (.int .i64 ((l.length : Int) + 2))).run Try.prog wx = .ok (.slice (some ⟨wx.heap.size, 0, none⟩) 0 (l.length + 2)) (wx.alloc (.cells MC 37)) := by
    refine ⟨madeCells (Value.agg #[.int .i64 0, .int .i64 0, .int .i64 0]).cells (((l.length : Int) + 2).toNat * i0'.size), ?_, fun wx => ?_⟩
    · rw [size_madeCells, hz1]
      omega
    · have hr := run_make (P := Try.prog) wx 22 37 i0' _ Try.underlying22 hi0 hz0 .i64 .i64 0 ((l.length : Int) + 2) (by omega) (by omega) (by rw [hz2]; omega) (by omega)
      rw [show ((l.length : Int) + 2).toNat = l.length + 2 by omega] at hr ⊢
      exact hr
  have h0 : Hid ((w.alloc (.cells MC 37)).ownsRow w.heap.size 37 3 (.slice (some ⟨w.heap.size, 0, none⟩) 0 (l.length + 2)) 0 []) := Lib.hid
    ⟨rfl, .inr ⟨w.heap.size, l.length + 2, MC, rfl, Nat.le_refl _, heap_alloc_new w _, Nat.zero_le _, by unfold maxLen; omega, hMC, by simp⟩⟩
  have b0 : Hid (Below w.heap.size w (w.alloc (.cells MC 37))) := Lib.hid ((Below.refl _ _).alloc (Nat.le_refl _) _)
  have hlw : IntKind.i64.wrap ((l.length : Int) + 2) = (l.length : Int) + 2 := IntWalk.i64_in _ (by omega)
  rcases h with ⟨rfl, rfl⟩ | ⟨gx, ox, cx, rfl, hcx⟩
  · have hmk' : ∀ wx : World, (Instr.makeSlice 22 (.int .i64 0) (.int .i64 2)).run Try.prog wx = .ok (.slice (some ⟨wx.heap.size, 0, none⟩) 0 2) (wx.alloc (.cells MC 37)) := fun wx => by simpa using hmk wx
    have o1 : (w.alloc (.cells MC 37)).ownsRow w.heap.size 37 3 (.slice (some ⟨w.heap.size, 0, none⟩) 0 2) 0 [] := by simpa using h0.out
    have b1 := b0.out
    clear hmk h0 b0 hlw
    go_enter Try.func11, Try.ntmps11
    have O1 := Lib.hid o1
    have B1 := Lib.hid b1
    have z1 := b1.size
    have G : ((w.alloc (.cells MC 37)).alloc (.cells #[.int .i64 0, .int .i64 0, .int .i64 (-70), .int .i64 0, .int .i64 0, .int .i64 (-71)] 37)).ownsRow w.heap.size 37 3 (.slice (some ⟨w.heap.size, 0, none⟩) 0 2) 0 [] := own_belowR O1.out ((Below.refl _ _).alloc (Nat.le_refl _) _)
    have NN : ∀ jj uu, [Value.int .i64 0, Value.int .i64 0, Value.int .i64 (-70), Value.int .i64 0, Value.int .i64 0, Value.int .i64 (-71)][jj]? = some uu → ((w.alloc (.cells MC 37)).alloc (.cells #[.int .i64 0, .int .i64 0, .int .i64 (-70), .int .i64 0, .int .i64 0, .int .i64 (-71)] 37)).cell? ((⟨w.heap.size + 1, 0, none⟩ : Addr).add jj) = some uu := fun jj uu hjj => by
      have hadd : (⟨w.heap.size + 1, 0, none⟩ : Addr).add jj = ⟨w.heap.size + 1, jj, none⟩ := by unfold Addr.add; split <;> simp_all
      rw [hadd, World.cell?_alloc_at _ _ _ _ (by simp)]
      simpa using hjj
    have hone2 := ecells_one twinTailE
    clear o1 b1
    go_wp2_with (first
      | (at_builtin; refine wpList_append_own _ rfl (.tmp 8) (.tmp 11) 22 rfl w.heap.size 37 i0' (.agg #[.int .i64 0, .int .i64 0, .int .i64 0]) 3 24 Try.underlying22 hi0 hz0 hz1 hz2 rfl (by decide) _ 0 _ rfl G ⟨w.heap.size + 1, 0, none⟩ 2 2 [.int .i64 0, .int .i64 0, .int .i64 (-70), .int .i64 0, .int .i64 0, .int .i64 (-71)] rfl rfl NN hone2 (by unfold maxLen; omega) (by omega) (by simp; omega) ?_))
    intro v' w5 hown hgrow _
    have B5 : Hid (Below w.heap.size w w5) := Lib.hid ((B1.out.alloc z1 (.cells #[.int .i64 0, .int .i64 0, .int .i64 (-70), .int .i64 0, .int .i64 0, .int .i64 (-71)] 37)).grown hgrow (by simp; omega) (fun k hk => (World.ownsRow.lt O1.out k hk).1))
    obtain ⟨g5, c5, rfl, _, _⟩ := World.ownsRow.form hown (by omega)
    have hc5 : 2 ≤ c5 ∧ c5 ≤ maxLen := by
      rcases hown.2 with ⟨e, _⟩ | ⟨_, _, _, e, _, _, h1, h2, _⟩
      · cases e
      · cases e; exact ⟨h1, h2⟩
    have O5 : Hid (OwnExts w.heap.size w5 (.slice (some ⟨g5, 0, none⟩) (2) c5) ([] ++ twinTailE)) := Lib.hid (by
      unfold OwnExts
      exact hown)
    have k1 : (0 : Int) ≤ (0 : Int) := by omega
    have k2 : (0 : Int) ≤ (c5 : Int) := by omega
    unfold maxLen at hc5
    clear hown hgrow G NN
    go_wp2_with fail
    go_ret
    exact ⟨_, rfl, ⟨g5, c5, rfl, hc5.1, O5.out⟩, B5.out⟩
  · have hne : ∀ j u, (ecells l)[j]? = some u → (w.alloc (.cells MC 37)).cell? ((⟨gx, ox, none⟩ : Addr).add j) = some u := fun j u hu => by
      have e1 : (⟨gx, ox, none⟩ : Addr).add j = ⟨gx, ox + j, none⟩ := by unfold Addr.add; split <;> simp_all
      rw [e1]
      exact Lib.cell?_alloc_some _ (hcx j u hu)
    have hone := ecells_one l
    have hrl := ecells_length l
    clear hcx
    go_enter Try.func11, Try.ntmps11
    go_wp2_with (first
      | (at_builtin; refine wpList_append_own _ rfl _ _ 22 rfl w.heap.size 37 i0' (.agg #[.int .i64 0, .int .i64 0, .int .i64 0]) 3 24 Try.underlying22 hi0 hz0 hz1 hz2 rfl (by decide) _ 0 _ rfl h0.out ⟨gx, ox, none⟩ l.length _ (ecells l) rfl hrl hne hone (by unfold maxLen; omega) (by omega) (by simp) ?_))
    intro u W1 o1' hgrow1 _
    have o1 : W1.ownsRow w.heap.size 37 3 u l.length (ecells l) := by simpa using o1'
    have b1 : Below w.heap.size w W1 := b0.out.grown hgrow1 (by simp) (fun k hk => (World.ownsRow.lt h0.out k hk).1)
    clear o1' hgrow1 h0 b0
    have O1 := Lib.hid o1
    have B1 := Lib.hid b1
    have z1 := b1.size
    have G : (W1.alloc (.cells #[.int .i64 0, .int .i64 0, .int .i64 (-70), .int .i64 0, .int .i64 0, .int .i64 (-71)] 37)).ownsRow w.heap.size 37 3 u l.length (ecells l) := own_belowR O1.out ((Below.refl _ _).alloc (Nat.le_refl _) _)
    have NN : ∀ jj uu, [Value.int .i64 0, Value.int .i64 0, Value.int .i64 (-70), Value.int .i64 0, Value.int .i64 0, Value.int .i64 (-71)][jj]? = some uu → (W1.alloc (.cells #[.int .i64 0, .int .i64 0, .int .i64 (-70), .int .i64 0, .int .i64 0, .int .i64 (-71)] 37)).cell? ((⟨W1.heap.size, 0, none⟩ : Addr).add jj) = some uu := fun jj uu hjj => by
      have hadd : (⟨W1.heap.size, 0, none⟩ : Addr).add jj = ⟨W1.heap.size, jj, none⟩ := by unfold Addr.add; split <;> simp_all
      rw [hadd, World.cell?_alloc_at _ _ _ _ rfl]
      simpa using hjj
    have hone2 := ecells_one twinTailE
    clear o1 b1
    go_wp2_with (first
      | (at_builtin; refine wpList_append_own _ rfl _ _ 22 rfl w.heap.size 37 i0' (.agg #[.int .i64 0, .int .i64 0, .int .i64 0]) 3 24 Try.underlying22 hi0 hz0 hz1 hz2 rfl (by decide) _ l.length _ rfl G ⟨W1.heap.size, 0, none⟩ 2 2 [.int .i64 0, .int .i64 0, .int .i64 (-70), .int .i64 0, .int .i64 0, .int .i64 (-71)] rfl rfl NN hone2 (by unfold maxLen; omega) (by omega) (by simp; omega) ?_))
    intro v' w5 hown hgrow _
    have B5 : Hid (Below w.heap.size w w5) := Lib.hid ((B1.out.alloc z1 (.cells #[.int .i64 0, .int .i64 0, .int .i64 (-70), .int .i64 0, .int .i64 0, .int .i64 (-71)] 37)).grown hgrow (by simp; omega) (fun k hk => (World.ownsRow.lt O1.out k hk).1))
    obtain ⟨g5, c5, rfl, _, _⟩ := World.ownsRow.form hown (by omega)
    have hc5 : l.length + 2 ≤ c5 ∧ c5 ≤ maxLen := by
      rcases hown.2 with ⟨e, _⟩ | ⟨_, _, _, e, _, _, h1, h2, _⟩
      · cases e
      · cases e; exact ⟨h1, h2⟩
    have O5 : Hid (OwnExts w.heap.size w5 (.slice (some ⟨g5, 0, none⟩) (l.length + 2) c5) (l ++ twinTailE)) := Lib.hid (by
      unfold OwnExts
      rw [show (l ++ twinTailE).length = l.length + 2 by simp [twinTailE], ecells_append]
      exact hown)
    have k1 : (0 : Int) ≤ (l.length : Int) := by omega
    have k2 : (l.length : Int) ≤ (c5 : Int) := by omega
    unfold maxLen at hc5
    clear hown hgrow G NN
    go_wp2_with fail
    go_ret
    exact ⟨_, rfl, ⟨g5, c5, rfl, hc5.1, O5.out⟩, B5.out⟩

set_option maxHeartbeats 2000000 in
theorem eleft_any (B : Nat) (vt vl : Value) (l : EL) (w : World) (ht : TwinE B w vt l) (hl : ExtsAt w vl l) (hn : l.length ≤ 1000) :
    Calls Try.prog 23 #[vt, vl] w fun e w' => e = .returned (.bool true) ∧ Below w.heap.size w w' := by
  have q := Lib.hid (esame_b w vt vl l l ht.at hl (by omega) (by omega) true (by simp))
  obtain ⟨ad, cl, rfl⟩ : ∃ ad cap, vl = .slice ad l.length cap := by
    rcases hl with ⟨rfl, rfl⟩ | ⟨b, off, cap, rfl, _⟩
    · exact ⟨_, _, rfl⟩
    · exact ⟨_, _, rfl⟩
  obtain ⟨g, cap, rfl, hc, ho⟩ := ht
  have ho' : w.ownsRow B 37 3 (.slice (some ⟨g, 0, none⟩) (l.length + 2) cap) (l.length + 2) (ecells (l ++ twinTailE)) := by
    have := ho
    unfold OwnExts at this
    rwa [show (l ++ twinTailE).length = l.length + 2 by simp [twinTailE]] at this
  have hcm : cap ≤ 9223372036854775807 := by
    rcases ho'.2 with ⟨e, _⟩ | ⟨_, _, _, e, _, _, h1, h2, _⟩
    · cases e
    · cases e; unfold maxLen at h2; exact h2
  have x0 : (ecells (l ++ twinTailE))[l.length * 3 + 2]? = some (.int .i64 (-70)) := by
    rw [ecells_append, List.getElem?_append_right (by rw [ecells_length]; omega), ecells_length, show l.length * 3 + 2 - l.length * 3 = 2 by omega]
    rfl
  have x1 : (ecells (l ++ twinTailE))[(l.length + 1) * 3 + 2]? = some (.int .i64 (-71)) := by
    rw [ecells_append, List.getElem?_append_right (by rw [ecells_length]; omega), ecells_length, show (l.length + 1) * 3 + 2 - l.length * 3 = 5 by omega]
    rfl
  have hgl := (World.ownsRow.lt ho' g rfl).2
  have c0 := Lib.hid (own_cellN ho' x0)
  have c1 := Lib.hid (own_cellN ho' x1)
  clear ho ho' x0 x1 hl
  have hw2 : IntKind.i64.wrap ((l.length : Int) + 2) = (l.length : Int) + 2 := IntWalk.i64_in _ (by omega)
  have hw1 : IntKind.i64.wrap ((l.length : Int) + 1) = (l.length : Int) + 1 := IntWalk.i64_in _ (by omega)
  have k1 : (l.length : Int) + 2 ≤ (cap : Int) := by omega
  have k2 : ¬ (cap : Int) < (l.length : Int) + 2 := by omega
  go_enter Try.func23, Try.ntmps23
  go_wp2_with fail
  refine q.out.mono ?_
  rintro e w1 ⟨rfl, b1⟩
  have d0 := (b1.cell (p := ⟨g, l.length * 3 + 2, none⟩) hgl).trans c0.out
  have d1 := (b1.cell (p := ⟨g, (l.length + 1) * 3 + 2, none⟩) hgl).trans c1.out
  have B1 := Lib.hid b1
  clear b1 q c0 c1
  go_wp2_with fail
  go_ret
  exact ⟨rfl, B1.out⟩

theorem OwnRuns.below' {B : Nat} {w w' : World} {v : Value} {l : RL} (h : OwnRuns B w v l) (hb : Below w.heap.size w w') : OwnRuns B w' v l := own_belowR h hb
theorem OwnRuns.formsR {B : Nat} {w : World} {v : Value} {l : RL} (h : OwnRuns B w v l) : (v = .slice none 0 0 ∧ l = []) ∨ ∃ g cap, v = .slice (some ⟨g, 0, none⟩) l.length cap ∧ B ≤ g := by
  rcases h.2 with ⟨rfl, hn⟩ | ⟨g, cap, cur, rfl, hb, _⟩
  · exact .inl ⟨rfl, List.eq_nil_of_length_eq_zero hn⟩
  · exact .inr ⟨g, cap, rfl, hb⟩

set_option maxRecDepth 100000 in
set_option maxHeartbeats 4000000 in
theorem espoil_any (B c : Nat) (vo vf vw vg : Value) (O : EL) (F : RL) (k : Int) (w : World) (hB0 : B ≤ w.heap.size) (ho : OwnExts B w vo O) (hc : B ≤ c) (hk : ∀ g, vo.ownBlock = some g → g < c) (hf : OwnRuns c w vf F) (hw : ExtsAt w vw O) (hg : RunsAt w vg F) (lo : O.length ≤ 1000000) (lf : F.length ≤ 1000000) :
    Calls Try.prog 27 #[vo, vf, .int .i64 k, vw, vg, .int .i64 k] w fun e w' => e = .returned (.bool true) ∧ Below B w w' := by
  have q1 := Lib.hid (esame_b w vo vw O O ho.at hw (by omega) (by omega) true (by simp))
  have G := Lib.hid hg
  have HO := Lib.hid ho
  have HF := Lib.hid hf
  have HK := Lib.hid hk
  obtain ⟨ao, co, hvo⟩ := ho.slice
  obtain ⟨af, cf, hvf⟩ := own_sliceR hf
  clear ho hf hw hg hk
  have HVO := Lib.hid hvo
  have HVF := Lib.hid hvf
  subst hvo
  subst hvf
  go_enter Try.func27, Try.ntmps27
  go_wp2_with fail
  refine q1.out.mono ?_
  rintro e w1 ⟨rfl, b1⟩
  have O1 := Lib.hid (OwnExts.below HO.out b1)
  have F1 := Lib.hid (OwnRuns.below' HF.out b1)
  have q2 := Lib.hid (same_b w1 _ vg F F (OwnRuns.at F1.out) (G.out.below (B := 0) b1) (by omega) (by omega) true (by simp))
  have hsz := HO.out
  have Y1 : Hid (Below w.heap.size w w1) := Lib.hid b1
  clear b1 q1 HF hsz
  go_wp2_with fail
  refine q2.out.mono ?_
  rintro e w2 ⟨rfl, b2⟩
  have O2 := Lib.hid (OwnExts.below O1.out b2)
  have F2 := Lib.hid (OwnRuns.below' F1.out b2)
  have Y2 : Hid (Below w.heap.size w w2) := Lib.hid (Y1.out.trans (b2.mono Y1.out.size))
  clear b2 q2 O1 F1 Y1
  have hko := Lib.hid (fun g (hg : (Value.slice ao O.length co).ownBlock = some g) => (World.ownsRow.lt HO.out g hg).1)
  have hkf := Lib.hid (fun g (hg : (Value.slice af F.length cf).ownBlock = some g) => (World.ownsRow.lt F2.out g hg).1)
  go_wp2_with fail
  go_loopw [13] (fun q wr => ∃ (j : Nat) (R : EL), q = .int .i64 j ∧ j ≤ O.length ∧ R.length = O.length ∧ Hid (wr.ownsRow B 37 3 (.slice ao O.length co) O.length (ecells R)) ∧ Hid (OwnRuns c wr (.slice af F.length cf) F) ∧ Hid (Below B w2 wr)) (fun q _ => O.length - (intOf q).toNat)
  case atStart => exact ⟨0, O, rfl, by omega, rfl, Lib.hid O2.out, F2, Lib.hid (Below.refl _ _)⟩
  case round =>
    obtain ⟨j, R, rfl, hj, hR, hor, hfr, hb⟩ := hrel
    by_cases hlt : j < O.length
    · have i0 : (0 : Int) ≤ (j : Int) := by omega
      have i1 : (j : Int) < (O.length : Int) := by omega
      rcases OwnExts.forms O2.out with ⟨_, e⟩ | ⟨g, co', e, hgB⟩
      · rw [e] at hlt; simp at hlt
      cases e
      obtain ⟨y0, y1, y2⟩ := ecells_at R j (by omega)
      have d0 := own_cellN hor.out y0
      have d1 := own_cellN hor.out y1
      have d2 := own_cellN hor.out y2
      have f0 := own_freeN hor.out (j * 3)
      have f1 := own_freeN hor.out (j * 3 + 1)
      have f2 := own_freeN hor.out (j * 3 + 2)
      have hgc : g < c := HK.out g rfl
      have o3 := own_setN (own_setN (own_setN hor.out (j * 3) (.int .i64 0)) (j * 3 + 1) (.int .i64 0)) (j * 3 + 2) (.int .i64 (-9))
      have hrs := ecells_set R j (0, 0, -9) (by omega)
      dsimp only at hrs
      rw [hrs] at o3
      have O3 := Lib.hid o3
      have F3 := Lib.hid (own_setB (own_setB (own_setB hfr.out (a := ⟨g, j * 3, none⟩) hgc (.int .i64 0)) (a := ⟨g, j * 3 + 1, none⟩) hgc (.int .i64 0)) (a := ⟨g, j * 3 + 2, none⟩) hgc (.int .i64 (-9)))
      have B3 := Lib.hid (((hb.out.setCell (p := ⟨g, j * 3, none⟩) hgB (.int .i64 0)).setCell (p := ⟨g, j * 3 + 1, none⟩) hgB (.int .i64 0)).setCell (p := ⟨g, j * 3 + 2, none⟩) hgB (.int .i64 (-9)))
      clear o3 hrs y0 y1 y2
      go_wp2_with fail
      go_roundw
      case rel => exact ⟨j + 1, R.set j (0, 0, -9), by go_num, by omega, by simp [hR], O3, F3, B3⟩
      case measure => simp [intOf]; omega
    · obtain rfl : j = O.length := by omega
      obtain ⟨wo, rfl⟩ : ∃ wo : World, wo = wr := ⟨_, rfl⟩
      have B3 := Lib.hid hb.out
      have F4 := Lib.hid hfr.out
      clear hor hfr hb O2 F2
      go_wp2_with fail
      go_loopw [14] (fun q wr => ∃ (j : Nat) (R : RL), q = .int .i64 j ∧ j ≤ F.length ∧ R.length = F.length ∧ Hid (wr.ownsRow c 32 2 (.slice af F.length cf) F.length (rcells R)) ∧ Hid (Below B w2 wr)) (fun q _ => F.length - (intOf q).toNat)
      case atStart => exact ⟨0, F, rfl, by omega, rfl, Lib.hid F4.out, B3⟩
      case round =>
        obtain ⟨j, R2, rfl, hj, hR2, hfr, hb⟩ := hrel
        by_cases hlt : j < F.length
        · have i0 : (0 : Int) ≤ (j : Int) := by omega
          have i1 : (j : Int) < (F.length : Int) := by omega
          rcases OwnRuns.formsR F4.out with ⟨_, e⟩ | ⟨g, cf', e, hgB⟩
          · rw [e] at hlt; simp at hlt
          cases e
          obtain ⟨y0, y1⟩ := rcells_at R2 j (by omega)
          have d0 := own_cellN hfr.out y0
          have d1 := own_cellN hfr.out y1
          have f0 := own_freeN hfr.out (j * 2)
          have f1 := own_freeN hfr.out (j * 2 + 1)
          have hgB' : B ≤ g := Nat.le_trans hc hgB
          have o3 := own_setN (own_setN hfr.out (j * 2) (.int .i64 0)) (j * 2 + 1) (.int .i64 (-9))
          have hrs := rcells_set R2 j (0, -9) (by omega)
          dsimp only at hrs
          rw [hrs] at o3
          have F3 := Lib.hid o3
          have B5 := Lib.hid ((hb.out.setCell (p := ⟨g, j * 2, none⟩) hgB' (.int .i64 0)).setCell (p := ⟨g, j * 2 + 1, none⟩) hgB' (.int .i64 (-9)))
          clear o3 hrs y0 y1
          go_wp2_with fail
          go_roundw
          case rel => exact ⟨j + 1, R2.set j (0, -9), by go_num, by omega, by simp [hR2], F3, B5⟩
          case measure => simp [intOf]; omega
        · obtain rfl : j = F.length := by omega
          have hB : Hid (Below B w wr) := Lib.hid ((Y2.out.mono hB0).trans hb.out)
          go_wp2_with fail
          go_ret
          exact ⟨rfl, hB.out⟩

end Go.Proofs.Ytgpjldmndibalaa
