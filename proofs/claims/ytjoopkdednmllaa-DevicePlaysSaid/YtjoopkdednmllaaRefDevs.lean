/- The document's device: Write, Flush, Pending, Crash, Kept. -/
import Derived.Test.YtjoopkdednmllaaRefDev
import Derived.BigQuiet
namespace Go.Proofs.Ytjoopkdednmllaa
open Go Go.RowKit
variable {B b : Nat} {w : World} {z : RLay} {D : Dev}

theorem RefAt.put (h : RefAt B w b z D) (k : Nat) (t : ByteArray) : RefAt B ((w.setCell ⟨z.gn, k, none⟩ (.string t)).setCell ⟨z.gp, k, none⟩ (.bool true)) b z (D.put k t) := by
  obtain ⟨n1, n2, n3, n4, n5, n6⟩ := h.ne
  refine ⟨h.own, (h.cells.other (fun e => n1 e.symm) _).other (fun e => n3 e.symm) _, ?_, ?_, ?_, h.ne, h.pos, h.left, h.acts⟩
  · have := ownsRow_setCell_other (ownsRow_set h.now k (.string t)) (a := ⟨z.gp, k, none⟩) (by simp [Value.ownBlock]; exact n5) (.bool true)
    simpa [Dev.put, strs, List.map_set] using this
  · exact ownsRow_setCell_other (ownsRow_setCell_other h.was (by simp [Value.ownBlock]; exact fun e => n4 e.symm) _) (by simp [Value.ownBlock]; exact n6) _
  · have := ownsRow_set (ownsRow_setCell_other h.pend (a := ⟨z.gn, k, none⟩) (by simp [Value.ownBlock]; exact fun e => n5 e.symm) (.string t)) k (.bool true)
    simpa [Dev.put, bools, List.map_set] using this

set_option maxHeartbeats 1000000 in
theorem rwrite_any (h : RefAt B w b z D) (i : Int) (t : ByteArray) (ht : t.size ≤ 9223372036854775807) (ha : D.acts < 1000000000000) :
    Calls Try.prog 16 #[.pointer (some ⟨b, 0, none⟩), .int .i64 i, .string t] w fun e w' => e = .returned (.int .i64 (D.writeE i t)) ∧ RefAt B w' b z (D.write i t) ∧ Only [b, z.gn, z.gp] w w' := by
  have c0 := h.c0
  have hp := h.pos
  by_cases hi : i < 0 ∨ (D.kept.length : Int) ≤ i
  · have hk : D.ask i = 60 := by unfold Dev.ask; rw [if_pos hi]
    have e1 : D.writeE i t = 60 := by unfold Dev.writeE; rw [hk]; rfl
    have e2 : D.write i t = D := by unfold Dev.write; rw [e1]; rfl
    rw [e1, e2]
    have HH := Lib.hid h
    clear h hk e1 e2
    generalize D.kept.length = n at *
    by_cases h1 : i < 0
    · go_enter Try.func16, Try.ntmps16
      go_wp2_with fail
      go_ret
      exact ⟨rfl, HH.out, Only.refl _ _⟩
    · have h2 : (n : Int) ≤ i := by omega
      go_enter Try.func16, Try.ntmps16
      go_wp2_with fail
      go_ret
      exact ⟨rfl, HH.out, Only.refl _ _⟩
  · have hk : D.ask i = 0 := by unfold Dev.ask; rw [if_neg hi]
    obtain ⟨k, rfl⟩ := Int.eq_ofNat_of_zero_le (show 0 ≤ i by omega)
    have i0 : (0 : Int) ≤ (k : Int) := by omega
    have i1 : (k : Int) < (D.kept.length : Int) := by omega
    by_cases hs : t.size = 128
    · have hact := ract_any h ha
      cases hd : D.dead
      · have e1 : D.writeE k t = 0 := by unfold Dev.writeE; rw [hk, hs, hd]; rfl
        have e2 : D.write k t = D.acted.put k t := by unfold Dev.write; rw [e1]; rfl
        rw [e1, e2]
        rw [hd] at hact
        simp only [Bool.false_eq_true, if_false] at hact
        have HC := Lib.hid hact
        have hkn : k < D.acted.kept.length := by show k < D.kept.length; omega
        have hnn : Hid (D.acted.kept.length = D.kept.length) := Lib.hid rfl
        clear h hact hk hd e1 e2 ha hi
        generalize D.acted = E at *
        generalize D.kept.length = n at *
        go_enter Try.func16, Try.ntmps16
        go_wp2_with fail
        refine HC.out.mono ?_
        rintro e w2 ⟨rfl, hE, hO⟩
        have d0 := hE.c0
        have d2 := hE.c2
        rw [hnn.out] at d0 d2
        obtain ⟨_, n2, n3, _⟩ := hE.ne
        have fgn := ownsRow_free1 hE.now k
        have fgp := ownsRow_free1 hE.pend k
        have cgn : ∃ u, w2.cell? ⟨z.gn, k, none⟩ = some u := ⟨_, own_cellAt hE.now (List.getElem?_eq_getElem (by rw [hE.now.1]; omega))⟩
        have cgp : ∃ u, w2.cell? ⟨z.gp, k, none⟩ = some u := ⟨_, own_cellAt hE.pend (List.getElem?_eq_getElem (by rw [hE.pend.1]; omega))⟩
        obtain ⟨u1, cgn⟩ := cgn
        obtain ⟨u2, cgp⟩ := cgp
        have hbn := hE.ne
        have d2' : (w2.setCell ⟨z.gn, k, none⟩ (.string t)).cell? ⟨b, 2, none⟩ = some (.slice (some ⟨z.gp, 0, none⟩) n z.cp) := (World.cell?_setCell_other _ _ _ _ (by simp)).trans d2
        have cgp' : (w2.setCell ⟨z.gn, k, none⟩ (.string t)).cell? ⟨z.gp, k, none⟩ = some u2 := (World.cell?_setCell_other _ _ _ _ (by simp [hbn.2.2.2.2.1.symm])).trans cgp
        have fgp' : (w2.setCell ⟨z.gn, k, none⟩ (.string t)).frozen? ⟨z.gp, k, none⟩ = false := by rw [World.frozen?_setCell]; exact fgp
        have HP := Lib.hid (hE.put k t)
        have HO := Lib.hid (((hO.sub (T := [b, z.gn, z.gp]) (by simp)).trans (Only.setCell w2 ⟨z.gn, k, none⟩ (.string t) (by simp))).trans (Only.setCell _ ⟨z.gp, k, none⟩ (.bool true) (by simp)))
        clear hE hO d2 cgp fgp hbn n2 n3 c0
        go_wp2_with fail
        go_ret
        exact ⟨rfl, HP.out, HO.out⟩
      · have e1 : D.writeE k t = 61 := by unfold Dev.writeE; rw [hk, hs, hd]; rfl
        have e2 : D.write k t = D := by unfold Dev.write; rw [e1]; rfl
        rw [e1, e2]
        rw [hd] at hact
        simp only [if_true] at hact
        have HC := Lib.hid hact
        have HH := Lib.hid h
        clear h hact hk hd e1 e2 ha
        generalize D.kept.length = n at *
        go_enter Try.func16, Try.ntmps16
        go_wp2_with fail
        refine HC.out.mono ?_
        rintro e w' ⟨rfl, rfl⟩
        go_wp2_with fail
        go_ret
        exact ⟨rfl, HH.out, Only.refl _ _⟩
    · have e1 : D.writeE k t = 2 := by unfold Dev.writeE; rw [hk]; simp [hs]
      have e2 : D.write k t = D := by unfold Dev.write; rw [e1]; rfl
      rw [e1, e2]
      have HH := Lib.hid h
      have hs' : ¬ (t.size : Int) = 128 := by omega
      clear h hk e1 e2 ha hs
      generalize D.kept.length = n at *
      go_enter Try.func16, Try.ntmps16
      go_wp2_with fail
      go_ret
      exact ⟨rfl, HH.out, Only.refl _ _⟩

theorem rpending_any (h : RefAt B w b z D) : Calls Try.prog 25 #[.pointer (some ⟨b, 0, none⟩)] w fun e w' =>
    ∃ v, e = .returned v ∧ w'.ownsRow w.heap.size 3 1 v (pendTo D.pend D.pend.length).length (natVs (pendTo D.pend D.pend.length)) ∧ Below w.heap.size w w' := by
  obtain ⟨i0, hi0, hz0, hz1, hz2⟩ := info_parts info_int
  have hlen : D.pend.length = D.kept.length := by have := h.pend.1; simpa [bools] using this
  have hp := h.pos
  have H := Lib.hid h
  have HB := Lib.hid h.bounds
  have HC : Hid (∀ w', RefAt B w' b z D → ∀ k, k < D.kept.length → w'.cell? ⟨z.gp, k, none⟩ = some (.bool (D.pend.getD k false))) := Lib.hid fun w' h k hk => own_cellAt h.pend (by simp [bools, List.getD, hlen, hk])
  have H2 : Hid (∀ w', RefAt B w' b z D → w'.cell? ⟨b, 2, none⟩ = some (.slice (some ⟨z.gp, 0, none⟩) D.kept.length z.cp)) := Lib.hid fun w' h => h.c2
  have HW : Hid (∀ w', Below w.heap.size w w' → RefAt B w' b z D) := Lib.hid fun w' hb => H.out.below hb
  rw [hlen]
  clear h hlen H
  obtain ⟨M, hM⟩ : ∃ M : World → Prop, ∀ w', RefAt B w' b z D = M w' := ⟨_, fun _ => rfl⟩
  simp only [hM] at HC H2 HW
  clear hM
  generalize D.kept.length = n at *
  generalize D.pend = L at *
  go_enter Try.func25, Try.ntmps25
  go_wp2_with fail
  go_loopw [3, 4] (fun v q wr => ∃ (j : Nat) (u : Value), j ≤ n ∧ u = v ∧ q = .int .i64 j ∧ Hid (wr.ownsRow w.heap.size 3 1 u (pendTo L j).length (natVs (pendTo L j))) ∧ Hid (Below w.heap.size w wr)) (fun _ q _ => n - (intOf q).toNat)
  case atStart => exact ⟨0, _, by omega, rfl, rfl, Lib.hid (World.ownsRow_nil _ _ _ _), Lib.hid (Below.refl _ _)⟩
  case round =>
    obtain ⟨j, v, hj, rfl, rfl, hg, hbw⟩ := hrel
    have hMw := HW.out wr hbw.out
    have c2 := H2.out wr hMw
    by_cases hlt : j < n
    · have hc := HC.out wr hMw j hlt
      have i0' : (0 : Int) ≤ (j : Int) := by omega
      have i1 : (j : Int) < (n : Int) := by omega
      have hl := pendTo_length L j
      cases hb : L.getD j false
      · have hr : Hid (pendTo L (j + 1) = pendTo L j) := Lib.hid (by show (if L.getD j false = true then pendTo L j ++ [j] else pendTo L j) = _; rw [hb]; rfl)
        rw [hb] at hc
        clear hb
        go_wp2_with fail
        go_roundw
        case rel => exact ⟨j + 1, _, by omega, rfl, by go_num, by rw [hr.out]; exact hg, hbw⟩
        case measure => simp [intOf]; omega
      · have hr : Hid (pendTo L (j + 1) = pendTo L j ++ [j]) := Lib.hid (by show (if L.getD j false = true then pendTo L j ++ [j] else pendTo L j) = _; rw [hb]; rfl)
        rw [hb] at hc
        clear hb
        generalize pendTo L j = P at *
        have hone : ∀ u ∈ ([.int .i64 (j : Int)] : List Value), u.oneCell' = true := by simp [Value.oneCell']
        go_wp2_with (first
          | (at_builtin; refine wpList_append_own _ rfl _ _ 41 rfl w.heap.size 3 i0 (.int .i64 0) 1 8 Try.underlying41 hi0 hz0 hz1 hz2 rfl (by decide) _ P.length _ rfl (hg.out.alloc _) ⟨wr.heap.size, 0, none⟩ 1 1 [.int .i64 j] rfl rfl
              (World.news_of_block (heap_alloc_new _ _)) hone (by unfold maxLen; omega) (by omega) (by have := hbw.out.size; simp; omega) ?_))
        intro v' w1 hown hgrow _
        have hW : Below w.heap.size w w1 := (hbw.out.alloc hbw.out.size (.cells #[.int .i64 j] 3)).grown hgrow (by have := hbw.out.size; simp; omega) (fun k hk => (hg.out.lt k hk).1)
        have hG : Hid (w1.ownsRow w.heap.size 3 1 v' (P ++ [j]).length (natVs (P ++ [j]))) := Lib.hid (by
          have e : natVs (P ++ [j]) = natVs P ++ [.int .i64 (j : Int)] := by simp [natVs]
          rw [e, List.length_append]; exact hown)
        have HWW := Lib.hid hW
        clear hown hgrow hW
        go_wp2_with fail
        go_roundw
        case rel => exact ⟨j + 1, v', by omega, rfl, by go_num, by rw [hr.out]; exact hG, HWW⟩
        case measure => simp [intOf]; omega
    · obtain rfl : j = n := by omega
      go_wp2_with fail
      go_ret
      exact ⟨_, rfl, hg.out, hbw.out⟩

end Go.Proofs.Ytjoopkdednmllaa
