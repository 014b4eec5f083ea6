/- Laws of trees: holds, where all that it asks is so. -/
import Derived.Test.YtgjmeeiejcbjfaaGreatM50
import Derived.Test.YtgjmeeiejcbjfaaGreatM48
import Derived.Test.YtgjmeeiejcbjfaaGreatM30
set_option linter.unusedSimpArgs false
set_option linter.unusedVariables false
namespace Go.Proofs.YtgjmeeiejcbjfaaGreat
open Go.Lib (hid)
open Go Go.RowKit
def goneT (N M : IL) : IL := N.filter fun b => !M.contains b
theorem goneT_take (N M : IL) (i : Nat) (hi : i < N.length) : goneT (N.take (i + 1)) M = goneT (N.take i) M ++ if M.contains (N.getD i 0) = false then [N.getD i 0] else [] := by
 unfold goneT
 rw [List.take_succ_eq_append_getElem hi, List.filter_append, show N.getD i 0 = N[i] by simp [List.getD, hi]]
 congr 1
 rw [List.filter_cons, List.filter_nil]
 cases M.contains N[i] <;> rfl
theorem goneT_len (N M : IL) : (goneT N M).length ≤ N.length := List.length_filter_le _ _
theorem putC_step (C : CL) (L : List ByteArray) (i : Nat) (hi : i < C.length) (h1 : 0 ≤ (C.getD i (0, ⟨#[]⟩)).1) (h2 : (C.getD i (0, ⟨#[]⟩)).1 < 4096) : Forks.putC (C.take (i + 1)) L = (Forks.putC (C.take i) L).set (C.getD i (0, ⟨#[]⟩)).1.toNat (C.getD i (0, ⟨#[]⟩)).2 := by
 unfold Forks.putC
 rw [List.take_succ_eq_append_getElem hi, List.foldl_append, List.foldl_cons, List.foldl_nil, show C.getD i (0, ⟨#[]⟩) = C[i] by simp [List.getD, hi]] at *
 show putD C[i] _ = _
 unfold putD
 rw [if_pos ⟨by simpa [List.getD, hi] using h1, by simpa [List.getD, hi] using h2⟩]
set_option maxRecDepth 100000 in
set_option maxHeartbeats 8000000 in
theorem holds_any (D cD : Nat) (Ld : List ByteArray) (v1 : Value) (N : IL) (v2 : Value) (W : EL) (dn : Nat) (rv cv fv : Value) (root : EL) (C : CL) (F : IL) (v4 : Value) (FR : IL) (M : IL) (w : World)
  (hT : Row w D 9 (Ld.map .string)) (hL : Ld.length = 4096) (h1 : IntsAt w v1 N) (h2 : ExtsAt w v2 W) (hr : ExtsAt w rv root) (hrs : SmallsE root) (hrl : root.length ≤ 1000000) (hc : ChgsAt w cv C) (hf : IntsAt w fv F) (h4 : IntsAt w v4 FR)
  (hC1 : ∀ i, i < C.length → 0 ≤ (C.getD i (0, ⟨#[]⟩)).1 ∧ (C.getD i (0, ⟨#[]⟩)).1 < 4096 ∧ (0 < i → (C.getD (i - 1) (0, ⟨#[]⟩)).1 < (C.getD i (0, ⟨#[]⟩)).1)) (hC2 : ∀ x ∈ C, Ld[x.1.toNat]? ≠ some x.2 ∨ N.contains x.1 = false)
  (hw : ∃ v', Forks.walkT ⟨Forks.putC C Ld, -1⟩ dn root = .ok (v', W) ∧ M = natI (Forks.nodes v')) (hC3 : ∀ x ∈ C, M.contains x.1 = true) (hF : F = goneT N M) (hFR : ∀ x ∈ FR, (goneT M N).contains x = true) (hFl : (goneT M N).length = FR.length)
  (hds : ∀ b s, (⟨Forks.putC C Ld, -1⟩ : Forks.Disk).rd b = some s → s.size ≤ 140737488351232) (hNl : N.length ≤ 4096) (hCl : C.length ≤ 4096) (hdn : dn ≤ 4) :
  Calls Tryz.prog 71 #[.slice (some ⟨D, 0, none⟩) 4096 cD, v1, v2, .agg #[.int .i64 (dn : Int), rv, cv, fv], v4] w fun e w' => e = .returned (.bool true) ∧ Below w.heap.size w w' := by
 obtain ⟨is, his, hzs, hss, hbs⟩ := info_parts info_str
 obtain ⟨ii, hii, hzi, hsi, hbi⟩ := info_parts infoInt
 have H1 := hid h1
 have H2 := hid h2
 have HRt := hid hr
 have HC0 := hid hc
 have HF0 := hid hf
 have H4 := hid h4
 have HT := hid hT
 have HLd := hid hL
 have HC1 := hid hC1
 have HC2 := hid hC2
 have HW := hid hw
 have HC3 := hid hC3
 have HFq := hid hF
 have HFR := hid hFR
 have HFL := hid hFl
 have HDS := hid hds
 have HRS := hid hrs
 obtain ⟨p1, k1, rfl⟩ := h1.form
 obtain ⟨p2, k2, rfl⟩ := h2.form
 obtain ⟨ar, kr, rfl⟩ := hr.form
 obtain ⟨ac, kc, rfl⟩ := hc.form
 obtain ⟨af, kf, rfl⟩ := hf.form
 obtain ⟨a4, k4, rfl⟩ := h4.form
 clear h1 h2 hr hc hf h4 hT hL hC1 hC2 hw hC3 hF hFR hFl hds hrs
 have bA : Below w.heap.size w (w.alloc (.cells #[.int .i64 (dn : Int), .slice ar root.length kr, .slice ac C.length kc, .slice af F.length kf] 58)) := (Below.refl _ _).alloc (Nat.le_refl _) _
 have x0 := heap_alloc_new w (.cells #[.int .i64 (dn : Int), .slice ar root.length kr, .slice ac C.length kc, .slice af F.length kf] 58)
 have hTA := HT.out.below bA HT.out.lt
 have BA := hid bA
 clear bA
 go_enter Tryz.func71, Tryz.ntmps71
 go_upto_region 1 with fail
 generalize w.alloc (.cells #[.int .i64 (dn : Int), .slice ar root.length kr, .slice ac C.length kc, .slice af F.length kf] 58) = w1 at *
 go_cut [11] from 23 to 25 (fun y wc => ∃ (E cap : Nat), y = .slice (some ⟨E, 0, none⟩) 4096 cap ∧ Hid (HC w w.heap.size E cap dn (.slice ar root.length kr) (.slice ac C.length kc) (.slice af F.length kf) Ld wc))
 case first =>
  have hown : (w1.alloc (.cells #[] 9)).ownsRow w1.heap.size 9 1 (.slice (some ⟨w1.heap.size, 0, none⟩) 0 0) 0 [] := World.ownsRow_lit w1 #[] 0 (Nat.le_refl _) (Nat.zero_le _) rfl
  have hnews : ∀ j u, (Ld.map Value.string)[j]? = some u → (w1.alloc (.cells #[] 9)).cell? ((⟨D, 0, none⟩ : Addr).add j) = some u := fun j u hu => by
   have e1 : (⟨D, 0, none⟩ : Addr).add j = ⟨D, 0 + j, none⟩ := by unfold Addr.add; split <;> simp_all
   rw [e1, Nat.zero_add]
   exact Lib.cell?_alloc_some _ (hTA.cellAt j hu)
  have hone : ∀ u ∈ Ld.map Value.string, u.oneCell' = true := by
   intro u hu
   obtain ⟨x, -, rfl⟩ := List.mem_map.1 hu
   rfl
  have hrl2 : (Ld.map Value.string).length = 4096 * 1 := by rw [List.length_map, HLd.out]
  have HOWN := hid hown
  have HX := hid x0
  clear hTA x0
  have hbz : w1.heap.size ≤ (w1.alloc (.cells #[] 9)).heap.size := by simp
  go_wp2_with (first | (at_builtin; (refine wpList_append_own _ rfl _ _ 40 rfl w1.heap.size 9 is (.string ⟨#[]⟩) 1 16 Tryz.underlying40 his hzs hss hbs rfl (by decide) _ 0 _ rfl hown ⟨D, 0, none⟩ 4096 cD (Ld.map Value.string) rfl hrl2 hnews hone (by unfold maxLen; omega) (by omega) hbz ?_)))
  intro v' w3 hown1 hgrow _
  have b13 : Below w1.heap.size w1 w3 := ((Below.refl _ _).alloc (Nat.le_refl _) (.cells #[] 9)).grown hgrow (by simp) (fun k hk => by have := (HOWN.out.lt k hk).1; exact this)
  have hown2 : w3.ownsRow w1.heap.size 9 1 v' 4096 (Ld.map Value.string) := hown1
  obtain ⟨E, cap, rfl⟩ : ∃ E cap, v' = .slice (some ⟨E, 0, none⟩) 4096 cap := by
   rcases hown2.2 with ⟨_, h0⟩ | ⟨g, cap, cur, hv, _⟩
   ·omega
   ·exact ⟨g, cap, hv⟩
  have F := hid (show HC w w.heap.size E cap dn (.slice ar root.length kr) (.slice ac C.length kc) (.slice af F.length kf) Ld w3 from ⟨(b13.block _ (lt_of_block HX.out)).trans HX.out, World.ownsRow.mono hown2 BA.out.size, BA.out.trans (b13.mono BA.out.size), Nat.le_refl _⟩)
  clear hown hown1 hown2 hgrow hnews b13
  go_wp2_with fail
  go_meet
  exact ⟨E, cap, rfl, F⟩
 obtain ⟨E, cap, rfl, hcut1⟩ := hcut
 clear x0 hTA BA
 have BW := hid (hcut1.out.bel)
 go_wp2_with fail
 go_loopw [12] (fun q wr => ∃ i : Nat, i ≤ C.length ∧ q = .int .i64 i ∧ Hid (HC w w.heap.size E cap dn (.slice ar root.length kr) (.slice ac C.length kc) (.slice af F.length kf) (Forks.putC (C.take i) Ld) wr)) (fun q _ => C.length - (intOf q).toNat)
 case atStart => exact ⟨0, by omega, rfl, hcut1⟩
 case round =>
  clear hcut1 BW
  obtain ⟨i, hi, rfl, hst⟩ := hrel
  have s2 := hst.out.cells.2.2.1
  by_cases hlt : i < C.length
  ·have i0 : (0 : Int) ≤ (i : Int) := by omega
   have i1 : (i : Int) < (C.length : Int) := by omega
   have HCr := HC0.out.below hst.out.bel
   obtain ⟨g, off, rfl, d0, d1⟩ := HCr.cells i hlt
   clear HCr
   have hci := HC1.out i hlt
   have hpi : Hid (Forks.putC (C.take (i + 1)) Ld = (Forks.putC (C.take i) Ld).set (C.getD i (0, ⟨#[]⟩)).1.toNat (C.getD i (0, ⟨#[]⟩)).2) := hid (putC_step C Ld i hlt hci.1 hci.2.1)
   have hpr : Hid (0 < i → (C.getD (i - 1) (0, ⟨#[]⟩)).1 < (C.getD i (0, ⟨#[]⟩)).1) := hid hci.2.2
   have hni : Hid (Ld[(C.getD i (0, ⟨#[]⟩)).1.toNat]? ≠ some (C.getD i (0, ⟨#[]⟩)).2 ∨ N.contains (C.getD i (0, ⟨#[]⟩)).1 = false) := hid (HC2.out _ (by rw [show C.getD i (0, ⟨#[]⟩) = C[i] by simp [List.getD, hlt]]; exact List.getElem_mem hlt))
   have hd5 : Hid (0 < i → ∃ pn, pn < (C.getD i (0, ⟨#[]⟩)).1 ∧ wr.cell? ⟨g, off + (i - 1) * 2, none⟩ = some (.int .i64 pn)) := hid (fun h0 => ⟨_, hpr.out h0, by
    obtain ⟨g', off', e, c0, -⟩ := (HC0.out.below hst.out.bel).cells (i - 1) (by omega)
    cases e
    exact c0⟩)
   have hn0 := hci.1
   have hn1 := hci.2.1
   clear hci hpr
   generalize (C.getD i (0, ⟨#[]⟩)).1 = ni at *
   generalize (C.getD i (0, ⟨#[]⟩)).2 = si at *
   obtain ⟨n, rfl⟩ : ∃ n : Nat, ni = (n : Int) := ⟨ni.toNat, by omega⟩
   rw [Int.toNat_natCast] at hpi hni
   have b6 : Below wr.heap.size wr (wr.alloc (.cells #[.int .i64 (n : Int), .string si] 72)) := (Below.refl _ _).alloc (Nat.le_refl _) _
   have y0 := heap_alloc_new wr (.cells #[.int .i64 (n : Int), .string si] 72)
   have HX6 := hid (hst.out.below b6)
   have kk2 := HX6.out.cells.2.2.1
   have hd6 : Hid (0 < i → ∃ pn, pn < (n : Int) ∧ (wr.alloc (.cells #[.int .i64 (n : Int), .string si] 72)).cell? ⟨g, off + (i - 1) * 2, none⟩ = some (.int .i64 pn)) := hid (fun h0 => by
    obtain ⟨pn, h1, h2⟩ := hd5.out h0
    exact ⟨pn, h1, Lib.cell?_alloc_some _ h2⟩)
   have y1 := cell_of_row _ _ 0 _ _ _ y0
   have y2 := cell_of_row _ _ 1 _ _ _ y0
   have BX := hid (hst.out.bel.trans (b6.mono hst.out.bel.size))
   clear hst hd5 b6 y0
   go_upto_region 6 with fail
   generalize wr.alloc (.cells #[.int .i64 (n : Int), .string si] 72) = w6 at *
   generalize wr.heap.size = X6 at *
   clear d0 d1 s2
   have a1 : decide ((n : Int) < 0) = false := decide_eq_false (by omega)
   have a2 : decide (4096 ≤ (n : Int)) = false := decide_eq_false (by omega)
   obtain ⟨t', hte'⟩ : ∃ t, (Forks.putC (C.take i) Ld)[n]? = some t := ⟨_, List.getElem?_eq_getElem (by rw [Forks.putC_len, HLd.out]; omega)⟩
   have cE : w6.cell? ⟨E, n, none⟩ = some (.string t') := ownsRow_cell HX6.out.row (by rw [List.getElem?_map, hte']; rfl)
   have fE := ownsRow_free HX6.out.row n
   clear hte'
   obtain ⟨t, hte⟩ : ∃ t, Ld[n]? = some t := ⟨_, List.getElem?_eq_getElem (by rw [HLd.out]; omega)⟩
   have cD : w6.cell? ⟨D, n, none⟩ = some (.string t) := (HT.out.below BX.out HT.out.lt).cellAt n (by rw [List.getElem?_map, hte]; rfl)
   have hte := hid hte
   by_cases h0 : i = 0
   ·have g0 : decide (0 < i) = false := decide_eq_false (by omega)
    clear h0
    go_quiet (fail)
    generalize hw7 : w6.drewN nq = w7
    have e7 : w7.cell? = w6.cell? := by rw [← hw7]; rfl
    have f7 : w7.frozen? = w6.frozen? := by rw [← hw7]; rfl
    have b7 : Below w6.heap.size w6 w7 := by rw [← hw7]; exact Below.drewN' (Below.refl _ _) _
    have HX7 := hid (HX6.out.below b7)
    rw [← e7] at y1 y2 cE cD
    rw [← f7] at fE
    have B7 := hid (BX.out.trans (b7.mono BX.out.size))
    have hqin := hid (fun (r : Bool) (hr : N.contains (n : Int) = r) k => (in_any (.slice p1 N.length k1) N (n : Int) (w7.drewN k) ((H1.out.below B7.out).below (Below.drewN' (Below.refl _ _) k)) (by omega) r hr).mono (fun e w' h => (⟨h.1, h.2.symm⟩ : e = .returned (.bool r) ∧ w' = w7.drewN k)))
    clear e7 f7 hw7 b7 HX6 BX hd6
    have HN7 : Hid (∀ k, HC w w.heap.size E cap dn (.slice ar root.length kr) (.slice (some ⟨g, off, none⟩) C.length kc) (.slice af F.length kf) (Forks.putC (C.take (i + 1)) Ld) ((w7.drewN k).setCell ⟨E, n, none⟩ (.string si))) := hid (fun k => by rw [hpi.out]; exact (HX7.out.below (Below.drewN' (Below.refl _ _) k)).put n (by omega) si)
    clear HX7
    by_cases hts : t = si
    ·have hcn : N.contains (n : Int) = false := by
      rcases hni.out with h | h
      ·exact absurd (hte.out.trans (by rw [hts])) h
      ·exact h
     have qin := hid (hqin.out false hcn)
     clear hqin hcn hni hte
     subst hts
     have hbb : (t.toList == t.toList) = true := by simp
     go_upto_region 8 with fail
     go_quiet ((go_at_call 72; exact Calls.quiet_of_same (qin.out _)))
     go_wp2_with fail
     go_roundw
     case rel => exact ⟨i + 1, by omega, by go_num, HN7.out _⟩
     case measure => simp [intOf]; omega
    ·have hbb : (si.toList == t.toList) = false := by
      exact str_ne (fun h => hts h.symm)
     clear hqin hni hte hts
     go_upto_region 8 with fail
     go_quiet (fail)
     go_wp2_with fail
     go_roundw
     case rel => exact ⟨i + 1, by omega, by go_num, HN7.out _⟩
     case measure => simp [intOf]; omega
   ·obtain ⟨pn, hpn, hpc⟩ := hd6.out (by omega)
    have g0 : decide (0 < (i : Int)) = true := decide_eq_true (by omega)
    have g1 : decide ((n : Int) ≤ pn) = false := decide_eq_false (by omega)
    obtain ⟨j, rfl⟩ : ∃ j, i = j + 1 := ⟨i - 1, by omega⟩
    rw [Nat.add_sub_cancel] at hpc
    go_quiet (fail)
    generalize hw7 : w6.drewN nq = w7
    have e7 : w7.cell? = w6.cell? := by rw [← hw7]; rfl
    have f7 : w7.frozen? = w6.frozen? := by rw [← hw7]; rfl
    have b7 : Below w6.heap.size w6 w7 := by rw [← hw7]; exact Below.drewN' (Below.refl _ _) _
    have HX7 := hid (HX6.out.below b7)
    rw [← e7] at y1 y2 cE cD
    rw [← f7] at fE
    have B7 := hid (BX.out.trans (b7.mono BX.out.size))
    have hqin := hid (fun (r : Bool) (hr : N.contains (n : Int) = r) k => (in_any (.slice p1 N.length k1) N (n : Int) (w7.drewN k) ((H1.out.below B7.out).below (Below.drewN' (Below.refl _ _) k)) (by omega) r hr).mono (fun e w' h => (⟨h.1, h.2.symm⟩ : e = .returned (.bool r) ∧ w' = w7.drewN k)))
    clear e7 f7 hw7 b7 HX6 BX hd6
    have HN7 : Hid (∀ k, HC w w.heap.size E cap dn (.slice ar root.length kr) (.slice (some ⟨g, off, none⟩) C.length kc) (.slice af F.length kf) (Forks.putC (C.take ((j + 1) + 1)) Ld) ((w7.drewN k).setCell ⟨E, n, none⟩ (.string si))) := hid (fun k => by rw [hpi.out]; exact (HX7.out.below (Below.drewN' (Below.refl _ _) k)).put n (by omega) si)
    clear HX7
    by_cases hts : t = si
    ·have hcn : N.contains (n : Int) = false := by
      rcases hni.out with h | h
      ·exact absurd (hte.out.trans (by rw [hts])) h
      ·exact h
     have qin := hid (hqin.out false hcn)
     clear hqin hcn hni hte
     subst hts
     have hbb : (t.toList == t.toList) = true := by simp
     go_upto_region 8 with fail
     go_quiet ((go_at_call 72; exact Calls.quiet_of_same (qin.out _)))
     go_wp2_with fail
     go_roundw
     case rel => exact ⟨(j + 1) + 1, by omega, by go_num, HN7.out _⟩
     case measure => simp [intOf]; omega
    ·have hbb : (si.toList == t.toList) = false := by
      exact str_ne (fun h => hts h.symm)
     clear hqin hni hte hts
     go_upto_region 8 with fail
     go_quiet (fail)
     go_wp2_with fail
     go_roundw
     case rel => exact ⟨(j + 1) + 1, by omega, by go_num, HN7.out _⟩
     case measure => simp [intOf]; omega
  ·obtain rfl : i = C.length := by omega
   have hst2 := hst.out
   rw [List.take_length] at hst2
   have HX := hid hst2
   clear hst hst2 hlt HC1 HC2
   obtain ⟨v', hwv, hM⟩ := HW.out
   have hdl : (-9223372036854775808 : Int) ≤ (dn : Int) ∧ (dn : Int) ≤ 9223372036854775807 := by omega
   have hTE : TextsAt wr.heap.size E wr (Forks.putC C Ld) := ⟨fun b s hs => ownsRow_cell HX.out.row (by rw [List.getElem?_map, hs]; rfl), by rw [Forks.putC_len, HLd.out], by
    obtain ⟨g, e, hg, cs, hc⟩ := own_form HX.out.row (by omega)
    cases e
    exact lt_of_block hc⟩
   have qw := hid (rWalk_any E cap (Forks.putC C Ld) (-1) (dn : Int) hdl (.slice ar root.length kr) root wr HRS.out (HRt.out.below (B := 0) HX.out.bel) (by omega) hTE HDS.out)
   rw [hwv] at qw
   have hml := hid (wk_len (d := ⟨Forks.putC C Ld, -1⟩) (depth := (dn : Int)) (root := root))
   rw [hwv] at hml
   have hml2 : Hid (M.length ≤ 4096 ∧ W.length ≤ 2048) := hid ⟨by rw [hM]; exact hml.out.2, hml.out.1⟩
   have HMq := hid hM
   obtain ⟨k0, k1', -, -⟩ := HX.out.cells
   clear hwv hdl hTE hml hM HW HRt HRS HDS HT HLd
   go_wp2_with fail
   refine qw.out.mono ?_
   rintro e w9 ⟨b9, a, b, rfl, o9, p9, -⟩
   obtain ⟨a3, c3, rfl⟩ := (OwnExts.at o9).form
   rw [← HMq.out] at p9
   obtain ⟨a4', c4, rfl⟩ := (OwnInts.at p9).form
   have HX9 := hid (HX.out.below b9)
   have HI9 := hid (OwnInts.at p9)
   have hml := hml2.out
   have hMl := hml.1
   have qs := hid (esame_bel w9 (.slice a3 W.length c3) (.slice p2 W.length k2) W (OwnExts.at o9) (H2.out.below (B := 0) HX9.out.bel) (by omega))
   clear b9 o9 p9 qw HX k0 k1' s2 hml hml2 HMq
   go_wp2_with fail
   refine qs.out.mono ?_
   rintro e wd ⟨rfl, bd⟩
   have HXd := hid (HX9.out.below bd)
   have HId := hid (HI9.out.below bd)
   clear qs bd HX9 HI9
   go_wp2_with fail
   go_loopw [17] (fun q wr => ∃ i : Nat, i ≤ C.length ∧ q = .int .i64 i ∧ wd = wr) (fun q _ => C.length - (intOf q).toNat)
   case atStart => exact ⟨0, by omega, rfl, rfl⟩
   case round =>
    obtain ⟨i, hi, rfl, rfl⟩ := hrel
    have s2 := HXd.out.cells.2.2.1
    by_cases hlt : i < C.length
    ·have i0 : (0 : Int) ≤ (i : Int) := by omega
     have i1 : (i : Int) < (C.length : Int) := by omega
     have HCr := HC0.out.below HXd.out.bel
     obtain ⟨g, off, rfl, d0, -⟩ := HCr.cells i hlt
     have hin : M.contains (C.getD i (0, ⟨#[]⟩)).1 = true := HC3.out _ (by rw [show C.getD i (0, ⟨#[]⟩) = C[i] by simp [List.getD, hlt]]; exact List.getElem_mem hlt)
     have q := hid (in_any (.slice a4' M.length c4) M (C.getD i (0, ⟨#[]⟩)).1 wd HId.out (by omega) true hin)
     clear HCr hin
     generalize (C.getD i (0, ⟨#[]⟩)).1 = ni at *
     go_wp2_with fail
     refine q.out.mono ?_
     rintro e w' ⟨rfl, rfl⟩
     go_wp2_with fail
     go_roundw
     case rel => exact ⟨i + 1, by omega, by go_num, trivial⟩
     case measure => simp [intOf]; omega
    ·obtain rfl : i = C.length := by omega
     clear HC0 HC3 hlt hi
     go_wp2_with fail
     have H1d := hid (H1.out.below HXd.out.bel)
     have hN0 : Hid (0 = (goneT (N.take 0) M).length ∧ OwnInts wd.heap.size wd (.slice none 0 0) (goneT (N.take 0) M)) := hid ⟨rfl, by constructor; rfl; exact .inl ⟨rfl, rfl⟩⟩
     go_loopw [18, 20] (fun x q wr => ∃ (i : Nat) (a : Option Addr) (n c : Nat), i ≤ N.length ∧ x = .slice a n c ∧ q = .int .i64 i ∧ Hid (n = (goneT (N.take i) M).length ∧ OwnInts wd.heap.size wr (.slice a n c) (goneT (N.take i) M)) ∧ Hid (Below wd.heap.size wd wr)) (fun _ q _ => N.length - (intOf q).toNat)
     case atStart => exact ⟨0, none, 0, 0, by omega, rfl, rfl, hN0, hid (Below.refl _ _)⟩
     case round =>
      clear hN0
      obtain ⟨i, a, n, c, hi, rfl, rfl, ho, hb⟩ := hrel
      by_cases hlt : i < N.length
      ·have i0 : (0 : Int) ≤ (i : Int) := by omega
       have i1 : (i : Int) < (N.length : Int) := by omega
       have H1r := H1d.out.below hb.out
       obtain ⟨g, off, rfl, d0⟩ := H1r.cells i hlt
       have hG := hid (goneT_take N M i hlt)
       have hnl : n ≤ 4096 := by
        have h1 := ho.out.1
        have h2 := goneT_len (N.take i) M
        rw [List.length_take] at h2
        omega
       have q := hid (fun r (hr : M.contains (N.getD i 0) = r) => in_any (.slice a4' M.length c4) M (N.getD i 0) wr (HId.out.below hb.out) (by omega) r hr)
       clear H1r
       generalize goneT (N.take i) M = G at *
       generalize hG1 : goneT (N.take (i + 1)) M = G' at *
       generalize N.getD i 0 = x at *
       have HG1 := hid hG1
       clear hG1
       cases hr : M.contains x
       ·have q1 := hid (q.out false hr)
        rw [hr] at hG
        have hG' : Hid (G' = G ++ [x]) := hid (by rw [hG.out, if_pos rfl])
        clear q hr hG
        go_wp2_with fail
        refine q1.out.mono ?_
        rintro e w' ⟨rfl, rfl⟩
        clear q1
        obtain ⟨hn, ho2⟩ := ho.out
        have HO := hid (show World.ownsRow _ wd.heap.size 3 1 (.slice a n c) n (icells G) from by rw [hn] at ho2 ⊢; exact ho2)
        have hone : ∀ u ∈ [(Value.int .i64 x)], u.oneCell' = true := by simp [Value.oneCell']
        have hbs2 : wd.heap.size ≤ (wr.alloc (.cells #[.int .i64 x] 3)).heap.size := by have := hb.out.size; simp; omega
        have HN := hid hn
        clear ho hn ho2
        go_wp2_with (first
         | (at_builtin; refine wpList_append_own _ rfl (.tmp 134) (.tmp 139) 43 rfl wd.heap.size 3 ii (.int .i64 0) 1 8 Tryz.underlying43 hii hzi hsi hbi rfl (by decide) _ n _ rfl (HO.out.alloc _) ⟨wr.heap.size, 0, none⟩ 1 1 [.int .i64 x] rfl rfl (World.news_of_block (heap_alloc_new _ _)) hone (by unfold maxLen; omega) (by omega) hbs2 ?_))
        intro v' w2 hown1 hgrow _
        have HW := hid ((hb.out.alloc hb.out.size (.cells #[.int .i64 x] 3)).grown hgrow hbs2 (fun k hk => (HO.out.lt k hk).1))
        obtain ⟨a2, c2, rfl⟩ : ∃ a2 c2, v' = .slice a2 (n + 1) c2 := by
         rcases hown1.2 with ⟨_, h0⟩ | ⟨g, cap, cur, hv, _⟩
         ·omega
         ·exact ⟨_, cap, hv⟩
        have HG : Hid (n + 1 = (goneT (N.take (i + 1)) M).length ∧ OwnInts wd.heap.size w2 (.slice a2 (n + 1) c2) (goneT (N.take (i + 1)) M)) := hid (by
         rw [HG1.out, hG'.out]
         have hl : n + 1 = (G ++ [x]).length := by rw [List.length_append, ← HN.out]; rfl
         refine ⟨hl, ?_⟩
         unfold OwnInts
         rw [← hl, icells_append]
         exact hown1)
        clear hown1 hgrow
        go_wp2_with fail
        go_roundw
        case rel => exact ⟨i + 1, a2, n + 1, c2, by omega, by go_num, by go_num, HG, HW⟩
        case measure => simp [intOf]; omega
       ·have q1 := hid (q.out true hr)
        rw [hr] at hG
        have hG' : Hid (G' = G) := hid (by rw [hG.out, if_neg (by decide), List.append_nil])
        clear q hr hG
        go_wp2_with fail
        refine q1.out.mono ?_
        rintro e w' ⟨rfl, rfl⟩
        clear q1
        go_wp2_with fail
        go_roundw
        case rel => exact ⟨i + 1, a, n, c, by omega, rfl, by go_num, hid (by rw [HG1.out, hG'.out]; exact ho.out), hb⟩
        case measure => simp [intOf]; omega
      ·obtain rfl : i = N.length := by omega
       have ho2 := ho.out
       rw [List.take_length] at ho2
       have HO3 := hid ho2
       clear ho ho2 hlt hi
       have HXf := hid (HXd.out.below hb.out)
       have H1f := hid (H1.out.below HXf.out.bel)
       have H4f := hid (H4.out.below HXf.out.bel)
       have HFf := hid (HF0.out.below HXf.out.bel)
       have HIf := hid (HId.out.below hb.out)
       have HO3f := HO3
       rename World => wf
       rename Option Addr => a3x
       clear hb HXd H1 HId HO3 H4 HF0
       go_wp2_with fail
       have hN0 : Hid (0 = (goneT (M.take 0) N).length ∧ OwnInts wf.heap.size wf (.slice none 0 0) (goneT (M.take 0) N)) := hid ⟨rfl, by constructor; rfl; exact .inl ⟨rfl, rfl⟩⟩
       go_loopw [19, 21] (fun x q wr => ∃ (i : Nat) (a : Option Addr) (n c : Nat), i ≤ M.length ∧ x = .slice a n c ∧ q = .int .i64 i ∧ Hid (n = (goneT (M.take i) N).length ∧ OwnInts wf.heap.size wr (.slice a n c) (goneT (M.take i) N)) ∧ Hid (Below wf.heap.size wf wr)) (fun _ q _ => M.length - (intOf q).toNat)
       case atStart => exact ⟨0, none, 0, 0, by omega, rfl, rfl, hN0, hid (Below.refl _ _)⟩
       case round =>
        clear hN0
        obtain ⟨i, a, n, c, hi, rfl, rfl, ho, hb⟩ := hrel
        by_cases hlt : i < M.length
        ·have i0 : (0 : Int) ≤ (i : Int) := by omega
         have i1 : (i : Int) < (M.length : Int) := by omega
         have H1r := HIf.out.below hb.out
         obtain ⟨g, off, rfl, d0⟩ := H1r.cells i hlt
         have hG := hid (goneT_take M N i hlt)
         have hnl : n ≤ 4096 := by
          have h1 := ho.out.1
          have h2 := goneT_len (M.take i) N
          rw [List.length_take] at h2
          omega
         have q := hid (fun r (hr : N.contains (M.getD i 0) = r) => in_any (.slice p1 N.length k1) N (M.getD i 0) wr (H1f.out.below hb.out) (by omega) r hr)
         clear H1r
         generalize goneT (M.take i) N = G at *
         generalize hG1 : goneT (M.take (i + 1)) N = G' at *
         generalize M.getD i 0 = x at *
         have HG1 := hid hG1
         clear hG1
         cases hr : N.contains x
         ·have q1 := hid (q.out false hr)
          rw [hr] at hG
          have hG' : Hid (G' = G ++ [x]) := hid (by rw [hG.out, if_pos rfl])
          clear q hr hG
          go_wp2_with fail
          refine q1.out.mono ?_
          rintro e w' ⟨rfl, rfl⟩
          clear q1
          obtain ⟨hn, ho2⟩ := ho.out
          have HO := hid (show World.ownsRow _ wf.heap.size 3 1 (.slice a n c) n (icells G) from by rw [hn] at ho2 ⊢; exact ho2)
          have hone : ∀ u ∈ [(Value.int .i64 x)], u.oneCell' = true := by simp [Value.oneCell']
          have hbs2 : wf.heap.size ≤ (wr.alloc (.cells #[.int .i64 x] 3)).heap.size := by have := hb.out.size; simp; omega
          have HN := hid hn
          clear ho hn ho2
          go_wp2_with (first
           | (at_builtin; refine wpList_append_own _ rfl (.tmp 154) (.tmp 159) 43 rfl wf.heap.size 3 ii (.int .i64 0) 1 8 Tryz.underlying43 hii hzi hsi hbi rfl (by decide) _ n _ rfl (HO.out.alloc _) ⟨wr.heap.size, 0, none⟩ 1 1 [.int .i64 x] rfl rfl (World.news_of_block (heap_alloc_new _ _)) hone (by unfold maxLen; omega) (by omega) hbs2 ?_))
          intro v' w2 hown1 hgrow _
          have HW := hid ((hb.out.alloc hb.out.size (.cells #[.int .i64 x] 3)).grown hgrow hbs2 (fun k hk => (HO.out.lt k hk).1))
          obtain ⟨a2, c2, rfl⟩ : ∃ a2 c2, v' = .slice a2 (n + 1) c2 := by
           rcases hown1.2 with ⟨_, h0⟩ | ⟨g, cap, cur, hv, _⟩
           ·omega
           ·exact ⟨_, cap, hv⟩
          have HG : Hid (n + 1 = (goneT (M.take (i + 1)) N).length ∧ OwnInts wf.heap.size w2 (.slice a2 (n + 1) c2) (goneT (M.take (i + 1)) N)) := hid (by
           rw [HG1.out, hG'.out]
           have hl : n + 1 = (G ++ [x]).length := by rw [List.length_append, ← HN.out]; rfl
           refine ⟨hl, ?_⟩
           unfold OwnInts
           rw [← hl, icells_append]
           exact hown1)
          clear hown1 hgrow
          go_wp2_with fail
          go_roundw
          case rel => exact ⟨i + 1, a2, n + 1, c2, by omega, by go_num, by go_num, HG, HW⟩
          case measure => simp [intOf]; omega
         ·have q1 := hid (q.out true hr)
          rw [hr] at hG
          have hG' : Hid (G' = G) := hid (by rw [hG.out, if_neg (by decide), List.append_nil])
          clear q hr hG
          go_wp2_with fail
          refine q1.out.mono ?_
          rintro e w' ⟨rfl, rfl⟩
          clear q1
          go_wp2_with fail
          go_roundw
          case rel => exact ⟨i + 1, a, n, c, by omega, rfl, by go_num, hid (by rw [HG1.out, hG'.out]; exact ho.out), hb⟩
          case measure => simp [intOf]; omega
        ·obtain rfl : i = M.length := by omega
         have ho2 := ho.out
         rw [List.take_length] at ho2
         have HO4 := hid ho2
         clear ho ho2 hlt hi
         have HXg := hid (HXf.out.below hb.out)
         have H4g := hid (H4f.out.below hb.out)
         have HFg := hid (HFf.out.below hb.out)
         have HO3g := hid (HO3f.out.2.below hb.out)
         have hn3 := HO3f.out.1
         have hn4 := HO4.out.1
         have HI4 := hid (OwnInts.at HO4.out.2)
         rename World => wg
         clear hb H1f HIf HXf H4f HFf HO3f
         go_wp2_with fail
         have hFL := HFL.out
         have hcl := goneT_len M N
         have e : n = FR.length := by rw [hn4, HFL.out]
         subst e
         have hgl := goneT_len N M
         have hfl2 : FR.length ≤ 1000000 := by omega
         have qF := hid (isame_bel wg (.slice af F.length kf) _ (goneT N M) (by rw [← HFq.out]; exact HFg.out) (OwnInts.at HO3g.out) (by omega))
         have HBg := hid HXg.out.bel
         have HF3 := hid HXg.out.cells.2.2.2
         clear hn3 hn4 HO3g HFg HXg HO4 HFL HFq
         go_loopw [22] (fun q wr => ∃ i : Nat, i ≤ FR.length ∧ q = .int .i64 i ∧ wg = wr) (fun q _ => FR.length - (intOf q).toNat)
         case atStart => exact ⟨0, by omega, rfl, rfl⟩
         case round =>
          obtain ⟨i, hi, rfl, rfl⟩ := hrel
          by_cases hlt : i < FR.length
          ·have i0 : (0 : Int) ≤ (i : Int) := by omega
           have i1 : (i : Int) < (FR.length : Int) := by omega
           obtain ⟨g, off, rfl, d0⟩ := H4g.out.cells i hlt
           have hin : (goneT M N).contains (FR.getD i 0) = true := HFR.out _ (by rw [show FR.getD i 0 = FR[i] by simp [List.getD, hlt]]; exact List.getElem_mem hlt)
           have q := hid (in_any _ (goneT M N) (FR.getD i 0) wg HI4.out (by omega) true hin)
           clear hin
           generalize FR.getD i 0 = ni at *
           clear qF hFL hcl hgl
           go_wp2_with fail
           refine q.out.mono ?_
           rintro e w' ⟨rfl, rfl⟩
           go_wp2_with fail
           go_roundw
           case rel => exact ⟨i + 1, by omega, by go_num, trivial⟩
           case measure => simp [intOf]; omega
          ·obtain rfl : i = FR.length := by omega
           have k3 := HF3.out
           clear H4g HI4 HFR hFL hcl hgl HF3
           go_wp2_with fail
           refine qF.out.mono ?_
           rintro e wh ⟨rfl, bh⟩
           have B := hid (HBg.out.trans (bh.mono HBg.out.size))
           clear qF bh
           go_wp2_with fail
           go_ret
           exact ⟨rfl, B.out⟩
structure SetIn (w : World) (r : Except Int Forks.SetR) (sd : Int) (rv cv fv : Value) (e : Int) (root : EL) (C : CL) (F : IL) : Prop where
 rt : ExtsAt w rv root
 ch : ChgsAt w cv C
 fr : IntsAt w fv F
 is : (r = .error e ∧ e ≠ 0) ∨ (e = 0 ∧ r = .ok ⟨sd, root, C, F⟩)
theorem SetIn.below {w w' : World} {r : Except Int Forks.SetR} {sd : Int} {rv cv fv : Value} {e : Int} {root : EL} {C : CL} {F : IL} (h : SetIn w r sd rv cv fv e root C F) (hb : Below w.heap.size w w') : SetIn w' r sd rv cv fv e root C F :=
 ⟨h.rt.below (B := 0) hb, h.ch.below hb, h.fr.below hb, h.is⟩
theorem SetIn.err {w : World} {r : Except Int Forks.SetR} {sd : Int} {rv cv fv : Value} {e : Int} {root : EL} {C : CL} {F : IL} (h : SetIn w r sd rv cv fv e root C F) {k : Int} (hr : r = .error k) : e = k := by
 rcases h.is with ⟨h1, -⟩ | ⟨-, h1⟩
 ·rw [hr] at h1
  cases h1
  rfl
 ·rw [hr] at h1
  cases h1
set_option maxRecDepth 100000 in
set_option maxHeartbeats 8000000 in
theorem moved_any (D cD : Nat) (Ld : List ByteArray) (bad : Int) (v1 : Value) (R : EL) (v2 : Value) (v : Forks.V) (dn : Nat) (tv : Value) (T : EL) (sd : Int) (rv cv fv : Value) (e : Int) (root : EL) (C : CL) (F : IL) (sl sn st sf sg : Int) (w : World)
  (hT : Row w D 9 (Ld.map .string)) (hL : Ld.length = 4096) (hsm : ∀ s ∈ Ld, s.size ≤ 140737488351232) (hw : Forks.walkT ⟨Ld, bad⟩ dn T = .ok (v, R)) (h1 : ExtsAt w v1 R) (h2 : IntsAt w v2 (natI (Forks.nodes v))) (ht : ExtsAt w tv T) (hTl : T.length ≤ 1000)
  (hS : SetIn w (Forks.moveV v dn T R sl sn st) sd rv cv fv e root C F) (hSr : SmallsE root) (hsl : -9223372036854775808 ≤ sl ∧ sl ≤ 9223372036854775807) (hsn : -9223372036854775808 ≤ sn ∧ sn ≤ 9223372036854775807) (hst : -9223372036854775808 ≤ st ∧ st ≤ 9223372036854775807) :
  Calls Tryz.prog 26 #[.slice (some ⟨D, 0, none⟩) 4096 cD, v1, v2, .agg #[.int .i64 (dn : Int), tv], .agg #[.int .i64 sd, rv, cv, fv], .int .i64 e, .agg #[.int .i64 sl, .int .i64 sn, .int .i64 st, .int .i64 sf, .int .i64 sg]] w fun q w' => q = .returned (.bool true) ∧ Below w.heap.size w w' := by
 obtain ⟨ie, hie, hze, hse, hbe⟩ := info_parts info_ext
 obtain ⟨ii, hii, hzi, hsi, hbi⟩ := info_parts infoInt
 obtain ⟨hok, hrow, -⟩ := Forks.walkT_okr hw
 have hdl : dn ≤ 4 := by have := hok.2.1; omega
 have HROW := hid hrow
 have HT := hid hT
 have HL := hid hL
 have HSM := hid hsm
 have HW := hid hw
 have H1 := hid h1
 have H2 := hid h2
 have HTt := hid ht
 have HS := hid hS
 have HSR := hid hSr
 obtain ⟨p1, k1, rfl⟩ := h1.form
 obtain ⟨p2, k2, rfl⟩ := h2.form
 obtain ⟨pt, kt, rfl⟩ := ht.form
 obtain ⟨pr, kr, rfl⟩ := hS.rt.form
 obtain ⟨pc, kc, rfl⟩ := hS.ch.form
 obtain ⟨pf, kf, rfl⟩ := hS.fr.form
 have hNl : (natI (Forks.nodes v)).length ≤ 4096 := by
  have := (wk_len (d := ⟨Ld, bad⟩) (depth := (dn : Int)) (root := T)).2
  rw [hw] at this
  exact this
 have hRl : R.length ≤ 2048 := by
  have := (wk_len (d := ⟨Ld, bad⟩) (depth := (dn : Int)) (root := T)).1
  rw [hw] at this
  exact this
 generalize hN : natI (Forks.nodes v) = N at *
 have HN := hid hN
 clear h1 h2 ht hS hT hL hsm hw hok hrow hSr hN
 have c3 : Hid (∀ wz, Below (w.heap.size + 1 + 1 + 1) (((w.alloc (.cells #[.int .i64 (dn : Int), .slice pt T.length kt] 35)).alloc (.cells #[.int .i64 sd, .slice pr root.length kr, .slice pc C.length kc, .slice pf F.length kf] 58)).alloc (.cells #[.int .i64 sl, .int .i64 sn, .int .i64 st, .int .i64 sf, .int .i64 sg] 56)) wz → Below w.heap.size w wz ∧
   (wz.cell? ⟨w.heap.size, 0, none⟩ = some (.int .i64 (dn : Int)) ∧ wz.cell? ⟨w.heap.size, 1, none⟩ = some (.slice pt T.length kt)) ∧
   (wz.cell? ⟨w.heap.size + 1, 0, none⟩ = some (.int .i64 sd) ∧ wz.cell? ⟨w.heap.size + 1, 1, none⟩ = some (.slice pr root.length kr) ∧ wz.cell? ⟨w.heap.size + 1, 2, none⟩ = some (.slice pc C.length kc) ∧ wz.cell? ⟨w.heap.size + 1, 3, none⟩ = some (.slice pf F.length kf)) ∧
   (wz.cell? ⟨w.heap.size + 1 + 1, 0, none⟩ = some (.int .i64 sl) ∧ wz.cell? ⟨w.heap.size + 1 + 1, 1, none⟩ = some (.int .i64 sn) ∧ wz.cell? ⟨w.heap.size + 1 + 1, 2, none⟩ = some (.int .i64 st) ∧ wz.cell? ⟨w.heap.size + 1 + 1, 3, none⟩ = some (.int .i64 sf) ∧ wz.cell? ⟨w.heap.size + 1 + 1, 4, none⟩ = some (.int .i64 sg))) := hid (fun wz hz => by
  have t0 := heap_alloc_new w (.cells #[.int .i64 (dn : Int), .slice pt T.length kt] 35)
  have t1 := heap_alloc_new (w.alloc (.cells #[.int .i64 (dn : Int), .slice pt T.length kt] 35)) (.cells #[.int .i64 sd, .slice pr root.length kr, .slice pc C.length kc, .slice pf F.length kf] 58)
  have t2 := heap_alloc_new ((w.alloc (.cells #[.int .i64 (dn : Int), .slice pt T.length kt] 35)).alloc (.cells #[.int .i64 sd, .slice pr root.length kr, .slice pc C.length kc, .slice pf F.length kf] 58)) (.cells #[.int .i64 sl, .int .i64 sn, .int .i64 st, .int .i64 sf, .int .i64 sg] 56)
  rw [asz] at t1
  rw [asz, asz] at t2
  have t0' := heap_alloc_at (heap_alloc_at t0 (.cells #[.int .i64 sd, .slice pr root.length kr, .slice pc C.length kc, .slice pf F.length kf] 58)) (.cells #[.int .i64 sl, .int .i64 sn, .int .i64 st, .int .i64 sf, .int .i64 sg] 56)
  have t1' := heap_alloc_at t1 (.cells #[.int .i64 sl, .int .i64 sn, .int .i64 st, .int .i64 sf, .int .i64 sg] 56)
  have u0 := (hz.block _ (by omega)).trans t0'
  have u1 := (hz.block _ (by omega)).trans t1'
  have u2 := (hz.block _ (by omega)).trans t2
  have b3 : Below w.heap.size w (((w.alloc (.cells #[.int .i64 (dn : Int), .slice pt T.length kt] 35)).alloc (.cells #[.int .i64 sd, .slice pr root.length kr, .slice pc C.length kc, .slice pf F.length kf] 58)).alloc (.cells #[.int .i64 sl, .int .i64 sn, .int .i64 st, .int .i64 sf, .int .i64 sg] 56)) := (((Below.refl _ _).alloc (Nat.le_refl _) _).alloc (by simp) _).alloc (by simp; omega) _
  exact ⟨b3.trans (hz.mono (by omega)), ⟨cell_of_row _ _ 0 _ _ _ u0, cell_of_row _ _ 1 _ _ _ u0⟩, ⟨cell_of_row _ _ 0 _ _ _ u1, cell_of_row _ _ 1 _ _ _ u1, cell_of_row _ _ 2 _ _ _ u1, cell_of_row _ _ 3 _ _ _ u1⟩, cell_of_row _ _ 0 _ _ _ u2, cell_of_row _ _ 1 _ _ _ u2, cell_of_row _ _ 2 _ _ _ u2, cell_of_row _ _ 3 _ _ _ u2, cell_of_row _ _ 4 _ _ _ u2⟩)
 have hz3 : Hid ((((w.alloc (.cells #[.int .i64 (dn : Int), .slice pt T.length kt] 35)).alloc (.cells #[.int .i64 sd, .slice pr root.length kr, .slice pc C.length kc, .slice pf F.length kf] 58)).alloc (.cells #[.int .i64 sl, .int .i64 sn, .int .i64 st, .int .i64 sf, .int .i64 sg] 56)).heap.size = w.heap.size + 1 + 1 + 1) := hid (by rw [asz, asz, asz])
 go_enter Tryz.func26, Tryz.ntmps26
 go_upto_region 1 with fail
 generalize ((w.alloc (.cells #[.int .i64 (dn : Int), .slice pt T.length kt] 35)).alloc (.cells #[.int .i64 sd, .slice pr root.length kr, .slice pc C.length kc, .slice pf F.length kf] 58)).alloc (.cells #[.int .i64 sl, .int .i64 sn, .int .i64 st, .int .i64 sf, .int .i64 sg] 56) = w3 at *
 go_wp2_with fail
 go_loopw [15, 16] (fun x q wr => ∃ (i : Nat) (a : Int), i ≤ R.length ∧ x = .int .i64 a ∧ q = .int .i64 i ∧ Hid ((a = -1 ∧ ∀ k, k < i → Forks.isM sl sn (R.getD k (0, 0, 0)) = false) ∨ ∃ m : Nat, a = (m : Int) ∧ m < i ∧ Forks.isM sl sn (R.getD m (0, 0, 0)) = true) ∧ Hid (Below (w.heap.size + 1 + 1 + 1) w3 wr)) (fun _ q _ => R.length - (intOf q).toNat)
 case atStart => exact ⟨0, -1, by omega, rfl, rfl, hid (.inl ⟨rfl, fun k hk => absurd hk (Nat.not_lt_zero _)⟩), hid (Below.refl _ _)⟩
 case round =>
  obtain ⟨i, a, hi, rfl, rfl, ha, hb⟩ := hrel
  obtain ⟨bw, ⟨x0, x1⟩, ⟨y0, y1, y2, y3⟩, ⟨s0, s1, s2, s3, s4⟩⟩ := c3.out _ hb.out
  have BW := hid bw
  clear bw
  by_cases hlt : i < R.length
  ·have i0 : (0 : Int) ≤ (i : Int) := by omega
   have i1 : (i : Int) < (R.length : Int) := by omega
   have H1r := H1.out.below (B := 0) BW.out
   obtain ⟨-, g, off, rfl, d0, d1, d2⟩ := H1r.cells i hlt
   have hyes : Hid (Forks.isM sl sn (R.getD i (0, 0, 0)) = true → (((i : Nat) : Int) = -1 ∧ ∀ k, k < i + 1 → Forks.isM sl sn (R.getD k (0, 0, 0)) = false) ∨ ∃ m : Nat, ((i : Nat) : Int) = (m : Int) ∧ m < i + 1 ∧ Forks.isM sl sn (R.getD m (0, 0, 0)) = true) := hid (fun h => .inr ⟨i, rfl, by omega, h⟩)
   have hno : Hid (Forks.isM sl sn (R.getD i (0, 0, 0)) = false → (a = -1 ∧ ∀ k, k < i + 1 → Forks.isM sl sn (R.getD k (0, 0, 0)) = false) ∨ ∃ m : Nat, a = (m : Int) ∧ m < i + 1 ∧ Forks.isM sl sn (R.getD m (0, 0, 0)) = true) := hid (fun h => by
    rcases ha.out with ⟨h1, h2⟩ | ⟨m, h1, h2, h3⟩
    ·exact .inl ⟨h1, fun k hk => by
      rcases Nat.lt_or_ge k i with h4 | h4
      ·exact h2 k h4
      ·obtain rfl : k = i := by omega
       exact h⟩
    ·exact .inr ⟨m, h1, by omega, h3⟩)
   have hisM : Hid (Forks.isM sl sn (R.getD i (0, 0, 0)) = (((R.getD i (0, 0, 0)).1 == sl) && ((R.getD i (0, 0, 0)).2.2 == sn))) := hid rfl
   clear H1r ha y0 y1 y2 y3 x0 x1 s3 s4
   generalize (R.getD i (0, 0, 0)).1 = xa at *
   generalize (R.getD i (0, 0, 0)).2.1 = xb at *
   generalize (R.getD i (0, 0, 0)).2.2 = xc at *
   go_wp2_with fail
   cases q1 : (xa == sl)
   ·have hN := hid (hno.out (by rw [hisM.out, q1]; rfl))
    clear hyes hno hisM
    go_quiet (fail)
    go_wp2_with fail
    go_roundw
    case rel => exact ⟨i + 1, a, by omega, rfl, by go_num, hN, hid (Below.drewN' hb.out _)⟩
    case measure => simp [intOf]; omega
   ·cases q2 : (xc == sn)
    ·have hN := hid (hno.out (by rw [hisM.out, q1, q2]; rfl))
     clear hyes hno hisM
     go_quiet (fail)
     go_wp2_with fail
     go_roundw
     case rel => exact ⟨i + 1, a, by omega, rfl, by go_num, hN, hid (Below.drewN' hb.out _)⟩
     case measure => simp [intOf]; omega
    ·have hN := hid (hyes.out (by rw [hisM.out, q1, q2]; rfl))
     clear hyes hno hisM
     go_quiet (fail)
     go_wp2_with fail
     go_roundw
     case rel => exact ⟨i + 1, (i : Int), by omega, rfl, by go_num, hN, hid (Below.drewN' hb.out _)⟩
     case measure => simp [intOf]; omega
  ·obtain rfl : i = R.length := by omega
   have hbe := hid hb.out
   rename World => we
   rcases ha.out with ⟨rfl, hall⟩ | ⟨m, rfl, hm, hp⟩
   ·have he : e = 4 := HS.out.err (Forks.moveV_none hall)
    subst he
    clear ha hall hb hbe HS HW
    go_wp2_with fail
    go_ret
    exact ⟨rfl, BW.out⟩
   ·have hmay : Hid (1 ≤ sn ∧ sn ≤ 4096 ∧ (R.getD m (0, 0, 0)).2.2 = sn) := hid (by
     have h1 := HROW.out.may (R.getD m (0, 0, 0)) (by rw [show R.getD m (0, 0, 0) = R[m] by simp [List.getD, hm]]; exact List.getElem_mem hm)
     unfold Forks.isM at hp
     simp only [Bool.and_eq_true, beq_iff_eq] at hp
     unfold Exts.may at h1
     omega)
    have HP := hid hp
    have hn1 : 1 ≤ sn := hmay.out.1
    have hn2 : sn ≤ 4096 := hmay.out.2.1
    have wsub : IntKind.i64.wrap (4096 - sn) = 4096 - sn := IntWalk.i64_in _ (by omega)
    clear ha hp hb
    go_upto_region 9 with fail
    go_cut [17] from 49 to 59 (fun x wx => ∃ b : Bool, x = .bool b ∧ Hid (b = (decide (st < 1) || decide (4096 - sn < st))) ∧ we = wx)
    case first =>
     by_cases c1 : st < 1
     ·have d1 : decide (st < 1) = true := decide_eq_true c1
      clear c1
      go_wp2_with fail
      go_meet
      exact ⟨_, rfl, hid (by rw [d1]; rfl), rfl⟩
     ·have d1 : decide (st < 1) = false := decide_eq_false c1
      clear c1
      by_cases c2 : 4096 - sn < st
      ·have d2 : decide (4096 - sn < st) = true := decide_eq_true c2
       clear c2
       go_wp2_with fail
       go_meet
       exact ⟨_, rfl, hid (by rw [d1, d2]; rfl), rfl⟩
      ·have d2 : decide (4096 - sn < st) = false := decide_eq_false c2
       clear c2
       go_wp2_with fail
       go_meet
       exact ⟨_, rfl, hid (by rw [d1, d2]; rfl), rfl⟩
    obtain ⟨b, rfl, hb0, rfl⟩ := hcut
    go_wp2_with fail
    go_loopw [17, 18] (fun x q wr => ∃ (i : Nat) (b : Bool), i ≤ N.length ∧ x = .bool b ∧ q = .int .i64 i ∧ Hid ((b = true → (decide (st < 1) || decide (4096 - sn < st)) = true ∨ N.any (Forks.inM st sn) = true) ∧ (b = false → (decide (st < 1) || decide (4096 - sn < st)) = false ∧ ∀ k, k < i → Forks.inM st sn (N.getD k 0) = false)) ∧ Hid (Below we.heap.size we wr)) (fun _ q _ => N.length - (intOf q).toNat)
    case atStart => exact ⟨0, b, by omega, rfl, rfl, hid ⟨fun h => .inl (by rw [← hb0.out]; exact h), fun h => ⟨by rw [← hb0.out]; exact h, fun k hk => absurd hk (Nat.not_lt_zero _)⟩⟩, hid (Below.refl _ _)⟩
    case round =>
     clear hb0
     obtain ⟨i, b, hi, rfl, rfl, hbb, hbl⟩ := hrel
     have BWr := hid (BW.out.trans (hbl.out.mono BW.out.size))
     cases b with
     | true =>
      have he : e = 2 := HS.out.err (Forks.moveV_bad hm HP.out (by rw [HN.out]; exact hbb.out.1 rfl))
      subst he
      clear hbb HS HW HP
      by_cases hlt : i < N.length
      ·have i1 : (i : Int) < (N.length : Int) := by omega
       go_wp2_with fail
       go_ret
       exact ⟨rfl, BWr.out⟩
      ·have i1 : ¬ (i : Int) < (N.length : Int) := by omega
       go_wp2_with fail
       go_ret
       exact ⟨rfl, BWr.out⟩
     | false =>
      obtain ⟨hb0, hall⟩ := hbb.out.2 rfl
      have hst1 : ¬ st < 1 := fun hh => by have := decide_eq_true hh; rw [Bool.or_eq_false_iff] at hb0; rw [hb0.1] at this; cases this
      have hst2 : ¬ 4096 - sn < st := fun hh => by have := decide_eq_true hh; rw [Bool.or_eq_false_iff] at hb0; rw [hb0.2] at this; cases this
      have HB0 := hid hb0
      have HALL := hid hall
      clear hbb hb0 hall
      by_cases hlt : i < N.length
      ·have i0 : (0 : Int) ≤ (i : Int) := by omega
       have i1 : (i : Int) < (N.length : Int) := by omega
       obtain ⟨-, -, -, s0', s1', s2', -, -⟩ := c3.out _ (hbe.out.trans (hbl.out.mono (by rw [← hz3.out]; exact hbe.out.size)))
       obtain ⟨g, off, rfl, d0⟩ := (H2.out.below BWr.out).cells i hlt
       have wadd : IntKind.i64.wrap (st + sn) = st + sn := IntWalk.i64_in _ (by omega)
       have hno : Hid (Forks.inM st sn (N.getD i 0) = false → ∀ k, k < i + 1 → Forks.inM st sn (N.getD k 0) = false) := hid (fun h k hk => by
        rcases Nat.lt_or_ge k i with h4 | h4
        ·exact HALL.out k h4
        ·obtain rfl : k = i := by omega
         exact h)
       have hyes : Hid (Forks.inM st sn (N.getD i 0) = true → N.any (Forks.inM st sn) = true) := hid (fun h => List.any_eq_true.2 ⟨N.getD i 0, by rw [show N.getD i 0 = N[i] by simp [List.getD, hlt]]; exact List.getElem_mem hlt, h⟩)
       have hin : Hid (Forks.inM st sn (N.getD i 0) = (decide (st ≤ N.getD i 0) && decide (N.getD i 0 < st + sn))) := hid rfl
       clear HALL
       generalize N.getD i 0 = x at *
       go_wp2_with fail
       cases q1 : decide (st ≤ x)
       ·have hN2 := hid (hno.out (by rw [hin.out, q1]; rfl))
        clear hyes hno hin
        go_quiet (fail)
        go_wp2_with fail
        go_roundw
        case rel => exact ⟨i + 1, false, by omega, rfl, by go_num, hid ⟨fun h => (by cases h), fun _ => ⟨HB0.out, hN2.out⟩⟩, hid (Below.drewN' hbl.out _)⟩
        case measure => simp [intOf]; omega
       ·cases q2 : decide (x < st + sn)
        ·have hN2 := hid (hno.out (by rw [hin.out, q1, q2]; rfl))
         clear hyes hno hin
         go_quiet (fail)
         go_wp2_with fail
         go_roundw
         case rel => exact ⟨i + 1, false, by omega, rfl, by go_num, hid ⟨fun h => (by cases h), fun _ => ⟨HB0.out, hN2.out⟩⟩, hid (Below.drewN' hbl.out _)⟩
         case measure => simp [intOf]; omega
        ·have hN2 := hid (hyes.out (by rw [hin.out, q1, q2]; rfl))
         clear hyes hno hin
         go_quiet (fail)
         go_wp2_with fail
         go_roundw
         case rel => exact ⟨i + 1, true, by omega, rfl, by go_num, hid ⟨fun _ => .inr hN2.out, fun h => (by cases h)⟩, hid (Below.drewN' hbl.out _)⟩
         case measure => simp [intOf]; omega
      ·obtain rfl : i = N.length := by omega
       obtain ⟨rr, hrr⟩ := Forks.moveV_ok hm HP.out HB0.out (v := v) (d := dn) (root := T) (by
        rw [HN.out, List.any_eq_false]
        intro x hx
        obtain ⟨k, hk, rfl⟩ := List.mem_iff_getElem.1 hx
        have := HALL.out k hk
        rw [show N.getD k 0 = N[k] by simp [List.getD, hk]] at this
        rw [this]
        decide)
       obtain ⟨rfl, hok⟩ : e = 0 ∧ Forks.moveV v dn T R sl sn st = .ok ⟨sd, root, C, F⟩ := by
        rcases HS.out.is with ⟨h1, -⟩ | h1
        ·rw [hrr] at h1; cases h1
        ·exact h1
       obtain ⟨hd, hf, hcl, hcs, hrl, hdr, v', hw', hhas⟩ := Forks.move_stands HL.out HW.out hok
       have hcl2 : C.length ≤ 1 := hcl
       obtain rfl : sd = (dn : Int) := hd
       obtain rfl : F = [] := hf
       have hnn : natI (Forks.nodes v') = N := by rw [Forks.has_nodes v v' hhas]; exact HN.out
       have hpw : C.Pairwise (fun x y => x.1 < y.1) := by
        match C, hcl2 with
        | [], _ => exact .nil
        | [x], _ => exact List.pairwise_singleton _ _
        | x :: y :: l, h => simp at h
       have hdz := Forks.new_small HL.out HSM.out hpw (fun x hx => ⟨(hcs x hx).1, (hcs x hx).2.1⟩) hw' (fun x hx => by rw [hhas]; exact (hcs x hx).2.2.1)
       have hgg : goneT N N = [] := by
        unfold goneT
        rw [List.filter_eq_nil_iff]
        intro x hx
        rw [List.contains_iff_mem.2 hx]
        decide
       have QH := hid (fun (wz : World) (vv : Value) (hb : Below w.heap.size w wz) (hv : ExtsAt wz vv (R.map (Forks.gT (Forks.isM sl sn) st))) =>
        holds_any D cD Ld (.slice p2 N.length k2) N vv (R.map (Forks.gT (Forks.isM sl sn) st)) dn (.slice pr root.length kr) (.slice pc C.length kc) (.slice pf ([] : IL).length kf) root C [] (.slice none 0 0) [] N wz (HT.out.below hb HT.out.lt) HL.out (H2.out.below hb) hv (HS.out.rt.below (B := 0) hb) HSR.out (by have : root.length = T.length := hrl; omega) (HS.out.ch.below hb) (HS.out.fr.below hb) (.inl ⟨rfl, rfl⟩)
         (fun i hi => by
          obtain rfl : i = 0 := by omega
          have h1 := hcs (C.getD 0 (0, ⟨#[]⟩)) (by rw [show C.getD 0 (0, ⟨#[]⟩) = C[0] by simp [List.getD, hi]]; exact List.getElem_mem hi)
          exact ⟨h1.1, h1.2.1, fun h => absurd h (Nat.lt_irrefl _)⟩)
         (fun x hx => .inl (hcs x hx).2.2.2) ⟨v', hw', hnn.symm⟩
         (fun x hx => by rw [← HN.out, Forks.natI_has (hcs x hx).1 (hcs x hx).2.1]; exact (hcs x hx).2.2.1)
         hgg.symm (fun x hx => nomatch hx) (by rw [hgg]) hdz hNl (by omega) hdl)
       have hrl2 := hid (show root.length = T.length from hrl)
       have hdr2 : Hid (dn ≠ 0 → root = T) := hid hdr
       clear HALL HB0 hst1 hst2 hrr hok hcs hcl hrl hdr hw' hhas hnn hpw hdz hgg hlt hi
       have HS2 := hid (And.intro HS.out.rt HTt.out)
       clear HS HW
       rename World => wg
       have H1g := hid (H1.out.below (B := 0) BWr.out)
       have hbg := hid (hbe.out.trans (hbl.out.mono (by rw [← hz3.out]; exact hbe.out.size)))
       have hmm : 0 < R.length := by omega
       have hlow := hid (show w.heap.size + 1 + 1 + 1 ≤ wg.heap.size from by rw [← hz3.out]; exact hbg.out.size)
       go_upto_region 16 with fail
       clear hbl hbe
       obtain ⟨b1, o1, cp1, he1, hcc⟩ : ∃ b off cap, (Value.slice p1 R.length k1) = .slice (some ⟨b, off, none⟩) R.length cap ∧ ∀ j u, (ecells R)[j]? = some u → wg.cell? ⟨b, off + j, none⟩ = some u := by
        rcases H1g.out with ⟨-, h0⟩ | h
        ·rw [h0] at hmm; simp at hmm
        ·exact h
       cases he1
       have hown : (wg.alloc (.cells #[] 53)).ownsRow wg.heap.size 53 3 (.slice (some ⟨wg.heap.size, 0, none⟩) 0 0) 0 [] := World.ownsRow_lit wg #[] 0 (Nat.le_refl _) (Nat.zero_le _) rfl
       have hnews : ∀ j u, (ecells R)[j]? = some u → (wg.alloc (.cells #[] 53)).cell? ((⟨b1, o1, none⟩ : Addr).add j) = some u := fun j u hu => by
        have e1 : (⟨b1, o1, none⟩ : Addr).add j = ⟨b1, o1 + j, none⟩ := by unfold Addr.add; split <;> simp_all
        rw [e1]
        exact Lib.cell?_alloc_some _ (hcc j u hu)
       have hone := ecells_one R
       have hrln := ecells_length R
       have hbz : wg.heap.size ≤ (wg.alloc (.cells #[] 53)).heap.size := by simp
       have HOWN := hid hown
       go_wp2_with (first | (at_builtin; refine wpList_append_own _ rfl (.tmp 92) (.tmp 93) 42 rfl wg.heap.size 53 ie (.agg #[.int .i64 0, .int .i64 0, .int .i64 0]) 3 24 Tryz.underlying42 hie hze hse hbe rfl (by decide) _ 0 _ rfl hown ⟨b1, o1, none⟩ R.length k1 (ecells R) rfl hrln hnews hone (by unfold maxLen; omega) (by omega) hbz ?_))
       intro v5 w5 hown1 hgrow _
       have b5 := hid (((Below.refl wg.heap.size wg).alloc (Nat.le_refl _) (.cells #[] 53)).grown hgrow hbz (fun k hk => (HOWN.out.lt k hk).1))
       obtain ⟨g, c6, rfl, hg5⟩ : ∃ g c6, v5 = .slice (some ⟨g, 0, none⟩) R.length c6 ∧ wg.heap.size ≤ g := by
        rcases hown1.2 with ⟨hv, hn⟩ | ⟨g', cap', cur, hv, hg, _⟩
        ·omega
        ·exact ⟨g', cap', hv, hg⟩
       have o6 : w5.ownsRow wg.heap.size 53 3 (.slice (some ⟨g, 0, none⟩) R.length c6) R.length (ecells R) := hown1
       have f6 := ownsRow_free o6 (m * 3 + 1)
       have c6c := ownsRow_cell o6 (ecells_at R m hm).2.1
       have o7 := ownsRow_set o6 (m * 3 + 1) (by omega) (.int .i64 st)
       rw [ecells_setP _ _ _ hm] at o7
       have O7 := hid (show OwnExts wg.heap.size (w5.setCell ⟨g, m * 3 + 1, none⟩ (.int .i64 st)) (.slice (some ⟨g, 0, none⟩) R.length c6) (R.map (Forks.gT (Forks.isM sl sn) st)) from by
        rw [← Forks.set_map R m (Forks.exts_one sl sn R HROW.out) hm (by rw [show R[m] = R.getD m (0, 0, 0) by simp [List.getD, hm]]; exact HP.out)]
        unfold OwnExts
        rw [List.length_set]
        rw [show R.getD m (0, 0, 0) = R[m] by simp [List.getD, hm]] at o7
        exact o7)
       have B7 := hid (b5.out.setCell (p := ⟨g, m * 3 + 1, none⟩) hg5 (.int .i64 st))
       have hb5 := hid (hbg.out.trans (b5.out.mono hlow.out))
       have hb7 := hid (hbg.out.trans (B7.out.mono hlow.out))
       have BW7 := hid (BWr.out.trans (B7.out.mono BWr.out.size))
       clear hown hown1 hgrow hnews hcc o6 o7 HOWN HROW
       obtain ⟨-, -, -, -, -, s52, -, -⟩ := c3.out _ hb5.out
       have QH7 := hid (QH.out _ (.slice (some ⟨g, 0, none⟩) R.length c6) BW7.out O7.out.at)
       obtain ⟨-, ⟨x0, x1⟩, ⟨y0, y1, y2, y3⟩, -⟩ := c3.out _ hb7.out
       have hm0 : (0 : Int) ≤ (m : Int) := by omega
       have hm1 : (m : Int) < (R.length : Int) := by omega
       have hcl1 : decide ((C.length : Int) ≤ 1) = true := decide_eq_true (by omega)
       have hcl1' : decide (C.length ≤ 1) = true := decide_eq_true (by omega)
       have hrl3 := hrl2.out
       have HSb := hid (show ∀ wz, Below w.heap.size w wz → ExtsAt wz (.slice pr root.length kr) root ∧ ExtsAt wz (.slice pt T.length kt) T from fun wz hb => ⟨HS2.out.1.below (B := 0) hb, HS2.out.2.below (B := 0) hb⟩)
       clear HS2
       by_cases hd0 : dn = 0
       ·have g0 : ((dn : Int) == 0) = true := by rw [beq_iff_eq]; omega
        clear hd0 HSb hdr2 QH
        rw [hrl3] at QH7
        go_wp2_with fail
        refine QH7.out.mono ?_
        rintro q w8 ⟨rfl, b8⟩
        have B := hid (BW7.out.trans (b8.mono BW7.out.size))
        clear QH7 b8
        go_wp2_with fail
        go_ret
        exact ⟨rfl, B.out⟩
       ·have g0 : ((dn : Int) == 0) = false := by rw [beq_eq_false_iff_ne]; omega
        have QS := hid (nsame_b _ (.slice pr root.length kr) (.slice pt T.length kt) root T (HSb.out _ BW7.out).1 (HSb.out _ BW7.out).2 (by omega) (by omega) true (by rw [hdr2.out hd0]; simp))
        clear hd0 HSb hdr2 QH7
        rw [hrl3] at QS
        go_wp2_with fail
        refine QS.out.mono ?_
        rintro q w8 ⟨rfl, b8⟩
        have B := hid (BW7.out.trans (b8.mono BW7.out.size))
        have QH8 := hid (QH.out w8 (.slice (some ⟨g, 0, none⟩) R.length c6) B.out (O7.out.below b8).at)
        rw [hrl3] at QH8
        obtain ⟨-, -, ⟨y0', y1', y2', y3'⟩, -⟩ := c3.out _ (hb7.out.trans (b8.mono (Nat.le_trans hlow.out B7.out.size)))
        clear QH QS b8 y0 y1 y2 y3
        go_wp2_with fail
        refine QH8.out.mono ?_
        rintro q w9 ⟨rfl, b9⟩
        have BB := hid (B.out.trans (b9.mono B.out.size))
        clear QH8 b9
        go_wp2_with fail
        go_ret
        exact ⟨rfl, BB.out⟩
end Go.Proofs.YtgjmeeiejcbjfaaGreat
namespace Go.Proofs.YtgjmeeiejcbjfaaGreat
open Go.Lib (hid)
open Go Go.RowKit
namespace Forks
open Go.Lib (hid)
open Exts
theorem lead_none {v : V} {d : Nat} {root R : EL} {fr tt : Int} (h : (natI (nodes v)).contains fr = false) : leadV v d root R fr tt = .error 4 := by
 unfold leadV
 split
 ·rfl
 ·rename_i h1
  split
  ·rfl
  ·rename_i h2
   rw [natI_has (by omega) (by omega)] at h
   rw [if_pos h]
theorem lead_at {v : V} {d : Nat} {root R : EL} {fr tt : Int} (h : (natI (nodes v)).contains fr = true) : leadV v d root R fr tt =
  if tt < 1 then .error 2
  else if 4096 ≤ tt then .error 2
  else if tt ≠ fr ∧ has v tt.toNat = true then .error 2
  else if taken R tt = true then .error 2
  else if tt = fr then .ok ⟨d, root, [], []⟩
  else .ok ⟨d, (turnedT v d root (leadAt v d fr) (fun x => x.2.1 == fr) tt).root, leadSort (turnedT v d root (leadAt v d fr) (fun x => x.2.1 == fr) tt).changes (tt, textOf v fr.toNat), [fr]⟩ := by
 obtain ⟨h0, h1⟩ := natI_bound h
 rw [natI_has h0 h1] at h
 unfold leadV
 rw [if_neg (by omega), if_neg (by omega), if_neg (by rw [h]; exact fun hh => Bool.noConfusion hh)]
theorem nodes_nodup (v : V) : (natI (nodes v)).Pairwise (fun a b => a ≠ b) := by
 unfold natI nodes
 rw [List.pairwise_map]
 exact (List.nodup_range.filter _).imp fun h e => h (by omega)
theorem filter_only {l : IL} (h : l.Pairwise (fun a b => a ≠ b)) {x : Int} (hx : x ∈ l) {p : Int → Bool} (hp : ∀ b ∈ l, p b = true ↔ b = x) : l.filter p = [x] := by
 induction l with
 | nil => cases hx
 | cons y l ih =>
  obtain ⟨h1, h2⟩ := List.pairwise_cons.1 h
  rw [List.filter_cons]
  rcases List.mem_cons.1 hx with rfl | hx'
  ·rw [if_pos ((hp _ List.mem_cons_self).2 rfl)]
   have : l.filter p = [] := List.filter_eq_nil_iff.2 fun z hz hpz => h1 z hz ((hp z (List.mem_cons_of_mem _ hz)).1 hpz).symm
   rw [this]
  ·rw [if_neg (fun hh => h1 x hx' ((hp y List.mem_cons_self).1 hh)), ih h2 hx' (fun b hb => hp b (List.mem_cons_of_mem _ hb))]
end Forks
theorem gone_from {v v' : Forks.V} {fr tt : Int} (h1 : Forks.has v tt.toNat = false) (ht : 1 ≤ tt ∧ tt ≤ 4095) (h2 : 0 ≤ fr ∧ fr ≤ 4095 ∧ Forks.has v fr.toNat = true)
  (h : ∀ b : Nat, Forks.has v' b = true ↔ (Forks.has v b = true ∧ (b : Int) ≠ fr) ∨ (b : Int) = tt) : goneT (natI (Forks.nodes v)) (natI (Forks.nodes v')) = [fr] := by
 unfold goneT
 refine Forks.filter_only (Forks.nodes_nodup v) (List.contains_iff_mem.1 (by rw [Forks.natI_has h2.1 (by omega)]; exact h2.2.2)) fun b hb => ?_
 have hb1 := List.contains_iff_mem.2 hb
 obtain ⟨hb2, hb3⟩ := Forks.natI_bound hb1
 rw [Forks.natI_has hb2 hb3] at hb1
 rw [Bool.not_eq_true', Forks.natI_has hb2 hb3, Bool.eq_false_iff]
 have hh := h b.toNat
 rw [show ((b.toNat : Nat) : Int) = b by omega] at hh
 constructor
 ·intro hn
  refine Classical.byContradiction fun hc => hn (hh.2 (.inl ⟨hb1, hc⟩))
 ·rintro rfl hc
  rcases hh.1 hc with ⟨-, h3⟩ | h3
  ·exact h3 rfl
  ·rw [← h3, h2.2.2] at h1
   cases h1
theorem gone_to {v v' : Forks.V} {fr tt : Int} (h1 : Forks.has v tt.toNat = false) (ht : 1 ≤ tt ∧ tt ≤ 4095) (h2 : 0 ≤ fr ∧ fr ≤ 4095 ∧ Forks.has v fr.toNat = true)
  (h : ∀ b : Nat, Forks.has v' b = true ↔ (Forks.has v b = true ∧ (b : Int) ≠ fr) ∨ (b : Int) = tt) : goneT (natI (Forks.nodes v')) (natI (Forks.nodes v)) = [tt] := by
 unfold goneT
 refine Forks.filter_only (Forks.nodes_nodup v') (List.contains_iff_mem.1 (by rw [Forks.natI_has (b := tt) (by omega) (by omega)]; exact (h tt.toNat).2 (.inr (by omega)))) fun b hb => ?_
 have hb1 := List.contains_iff_mem.2 hb
 obtain ⟨hb2, hb3⟩ := Forks.natI_bound hb1
 rw [Forks.natI_has hb2 hb3] at hb1
 rw [Bool.not_eq_true', Forks.natI_has hb2 hb3]
 have hh := (h b.toNat).1 hb1
 rw [show ((b.toNat : Nat) : Int) = b by omega] at hh
 constructor
 ·intro hn
  rcases hh with ⟨h3, -⟩ | h3
  ·rw [hn] at h3; cases h3
  ·exact h3
 ·rintro rfl
  exact h1
end Go.Proofs.YtgjmeeiejcbjfaaGreat
namespace Go.Proofs.YtgjmeeiejcbjfaaGreat
open Go.Lib (hid)
open Go Go.RowKit
set_option maxRecDepth 100000 in
set_option maxHeartbeats 8000000 in
theorem led_any (D cD : Nat) (Ld : List ByteArray) (bad : Int) (v1 : Value) (R : EL) (v2 : Value) (v : Forks.V) (dn : Nat) (tv : Value) (T : EL) (sd : Int) (rv cv fv : Value) (e : Int) (root : EL) (C : CL) (F : IL) (sl sn st sf sg : Int) (w : World)
  (hT : Row w D 9 (Ld.map .string)) (hL : Ld.length = 4096) (hsm : ∀ s ∈ Ld, s.size ≤ 140737488351232) (hw : Forks.walkT ⟨Ld, bad⟩ dn T = .ok (v, R)) (h1 : ExtsAt w v1 R) (h2 : IntsAt w v2 (natI (Forks.nodes v))) (ht : ExtsAt w tv T) (hTl : T.length ≤ 1000)
  (hS : SetIn w (Forks.leadV v dn T R sf sg) sd rv cv fv e root C F) (hSr : SmallsE root) (hsf : -9223372036854775808 ≤ sf ∧ sf ≤ 9223372036854775807) (hsg : -9223372036854775808 ≤ sg ∧ sg ≤ 9223372036854775807) :
  Calls Tryz.prog 27 #[.slice (some ⟨D, 0, none⟩) 4096 cD, v1, v2, .agg #[.int .i64 (dn : Int), tv], .agg #[.int .i64 sd, rv, cv, fv], .int .i64 e, .agg #[.int .i64 sl, .int .i64 sn, .int .i64 st, .int .i64 sf, .int .i64 sg]] w fun q w' => q = .returned (.bool true) ∧ Below w.heap.size w w' := by
 obtain ⟨ie, hie, hze, hse, hbe⟩ := info_parts info_ext
 obtain ⟨ii, hii, hzi, hsi, hbi⟩ := info_parts infoInt
 obtain ⟨hok, hrow, -⟩ := Forks.walkT_okr hw
 have hdl : dn ≤ 4 := by have := hok.2.1; omega
 have HROW := hid hrow
 have HT := hid hT
 have HL := hid hL
 have HSM := hid hsm
 have HW := hid hw
 have H1 := hid h1
 have H2 := hid h2
 have HTt := hid ht
 have HS := hid hS
 have HSR := hid hSr
 obtain ⟨p1, k1, rfl⟩ := h1.form
 obtain ⟨p2, k2, rfl⟩ := h2.form
 obtain ⟨pt, kt, rfl⟩ := ht.form
 obtain ⟨pr, kr, rfl⟩ := hS.rt.form
 obtain ⟨pc, kc, rfl⟩ := hS.ch.form
 obtain ⟨pf, kf, rfl⟩ := hS.fr.form
 have hNl : (natI (Forks.nodes v)).length ≤ 4096 := by
  have := (wk_len (d := ⟨Ld, bad⟩) (depth := (dn : Int)) (root := T)).2
  rw [hw] at this
  exact this
 have hRl : R.length ≤ 2048 := by
  have := (wk_len (d := ⟨Ld, bad⟩) (depth := (dn : Int)) (root := T)).1
  rw [hw] at this
  exact this
 generalize hN : natI (Forks.nodes v) = N at *
 have HN := hid hN
 clear h1 h2 ht hS hT hL hsm hw hok hrow hSr hN
 have c3 : Hid (∀ wz, Below (w.heap.size + 1 + 1 + 1) (((w.alloc (.cells #[.int .i64 (dn : Int), .slice pt T.length kt] 35)).alloc (.cells #[.int .i64 sd, .slice pr root.length kr, .slice pc C.length kc, .slice pf F.length kf] 58)).alloc (.cells #[.int .i64 sl, .int .i64 sn, .int .i64 st, .int .i64 sf, .int .i64 sg] 56)) wz → Below w.heap.size w wz ∧
   (wz.cell? ⟨w.heap.size, 0, none⟩ = some (.int .i64 (dn : Int)) ∧ wz.cell? ⟨w.heap.size, 1, none⟩ = some (.slice pt T.length kt)) ∧
   (wz.cell? ⟨w.heap.size + 1, 0, none⟩ = some (.int .i64 sd) ∧ wz.cell? ⟨w.heap.size + 1, 1, none⟩ = some (.slice pr root.length kr) ∧ wz.cell? ⟨w.heap.size + 1, 2, none⟩ = some (.slice pc C.length kc) ∧ wz.cell? ⟨w.heap.size + 1, 3, none⟩ = some (.slice pf F.length kf)) ∧
   (wz.cell? ⟨w.heap.size + 1 + 1, 0, none⟩ = some (.int .i64 sl) ∧ wz.cell? ⟨w.heap.size + 1 + 1, 1, none⟩ = some (.int .i64 sn) ∧ wz.cell? ⟨w.heap.size + 1 + 1, 2, none⟩ = some (.int .i64 st) ∧ wz.cell? ⟨w.heap.size + 1 + 1, 3, none⟩ = some (.int .i64 sf) ∧ wz.cell? ⟨w.heap.size + 1 + 1, 4, none⟩ = some (.int .i64 sg))) := hid (fun wz hz => by
  have t0 := heap_alloc_new w (.cells #[.int .i64 (dn : Int), .slice pt T.length kt] 35)
  have t1 := heap_alloc_new (w.alloc (.cells #[.int .i64 (dn : Int), .slice pt T.length kt] 35)) (.cells #[.int .i64 sd, .slice pr root.length kr, .slice pc C.length kc, .slice pf F.length kf] 58)
  have t2 := heap_alloc_new ((w.alloc (.cells #[.int .i64 (dn : Int), .slice pt T.length kt] 35)).alloc (.cells #[.int .i64 sd, .slice pr root.length kr, .slice pc C.length kc, .slice pf F.length kf] 58)) (.cells #[.int .i64 sl, .int .i64 sn, .int .i64 st, .int .i64 sf, .int .i64 sg] 56)
  rw [asz] at t1
  rw [asz, asz] at t2
  have t0' := heap_alloc_at (heap_alloc_at t0 (.cells #[.int .i64 sd, .slice pr root.length kr, .slice pc C.length kc, .slice pf F.length kf] 58)) (.cells #[.int .i64 sl, .int .i64 sn, .int .i64 st, .int .i64 sf, .int .i64 sg] 56)
  have t1' := heap_alloc_at t1 (.cells #[.int .i64 sl, .int .i64 sn, .int .i64 st, .int .i64 sf, .int .i64 sg] 56)
  have u0 := (hz.block _ (by omega)).trans t0'
  have u1 := (hz.block _ (by omega)).trans t1'
  have u2 := (hz.block _ (by omega)).trans t2
  have b3 : Below w.heap.size w (((w.alloc (.cells #[.int .i64 (dn : Int), .slice pt T.length kt] 35)).alloc (.cells #[.int .i64 sd, .slice pr root.length kr, .slice pc C.length kc, .slice pf F.length kf] 58)).alloc (.cells #[.int .i64 sl, .int .i64 sn, .int .i64 st, .int .i64 sf, .int .i64 sg] 56)) := (((Below.refl _ _).alloc (Nat.le_refl _) _).alloc (by simp) _).alloc (by simp; omega) _
  exact ⟨b3.trans (hz.mono (by omega)), ⟨cell_of_row _ _ 0 _ _ _ u0, cell_of_row _ _ 1 _ _ _ u0⟩, ⟨cell_of_row _ _ 0 _ _ _ u1, cell_of_row _ _ 1 _ _ _ u1, cell_of_row _ _ 2 _ _ _ u1, cell_of_row _ _ 3 _ _ _ u1⟩, cell_of_row _ _ 0 _ _ _ u2, cell_of_row _ _ 1 _ _ _ u2, cell_of_row _ _ 2 _ _ _ u2, cell_of_row _ _ 3 _ _ _ u2, cell_of_row _ _ 4 _ _ _ u2⟩)
 have hz3 : Hid ((((w.alloc (.cells #[.int .i64 (dn : Int), .slice pt T.length kt] 35)).alloc (.cells #[.int .i64 sd, .slice pr root.length kr, .slice pc C.length kc, .slice pf F.length kf] 58)).alloc (.cells #[.int .i64 sl, .int .i64 sn, .int .i64 st, .int .i64 sf, .int .i64 sg] 56)).heap.size = w.heap.size + 1 + 1 + 1) := hid (by rw [asz, asz, asz])
 go_enter Tryz.func27, Tryz.ntmps27
 go_upto_region 1 with fail
 generalize ((w.alloc (.cells #[.int .i64 (dn : Int), .slice pt T.length kt] 35)).alloc (.cells #[.int .i64 sd, .slice pr root.length kr, .slice pc C.length kc, .slice pf F.length kf] 58)).alloc (.cells #[.int .i64 sl, .int .i64 sn, .int .i64 st, .int .i64 sf, .int .i64 sg] 56) = w3 at *
 have hb3 : Hid (Below (w.heap.size + 1 + 1 + 1) w3 w3) := hid (Below.refl _ _)
 obtain ⟨bw, ⟨x0, x1⟩, ⟨y0, y1, y2, y3⟩, ⟨s0, s1, s2, s3, s4⟩⟩ := c3.out _ hb3.out
 have BW := hid bw
 clear bw s0 s1 s2
 have qin := hid (fun (b : Int) (r : Bool) (hr : N.contains b = r) => in_any (.slice p2 N.length k2) N b w3 (H2.out.below BW.out) (by omega) r hr)
 have hla := hid (fun (h : N.contains sf = true) => Forks.lead_at (v := v) (d := dn) (root := T) (R := R) (fr := sf) (tt := sg) (by rw [HN.out]; exact h))
 cases hin : N.contains sf with
 | false =>
  have he : e = 4 := HS.out.err (Forks.lead_none (by rw [HN.out]; exact hin))
  subst he
  have q := hid (qin.out sf false hin)
  clear hin hla HS HW qin
  go_wp2_with fail
  refine q.out.mono ?_
  rintro e w' ⟨rfl, rfl⟩
  go_wp2_with fail
  go_ret
  exact ⟨rfl, BW.out⟩
 | true =>
  have q := hid (qin.out sf true hin)
  have HLA := hid (hla.out hin)
  have HIN := hid hin
  clear hin hla
  go_wp2_with fail
  refine q.out.mono ?_
  rintro _ w' ⟨rfl, rfl⟩
  clear q
  by_cases c1 : sg < 1
  ·have he : e = 2 := HS.out.err (by rw [HLA.out, if_pos c1])
   subst he
   have d1 : decide (sg < 1) = true := decide_eq_true c1
   clear HLA HS HW qin c1
   go_wp2_with fail
   go_ret
   exact ⟨rfl, BW.out⟩
  have d1 : decide (sg < 1) = false := decide_eq_false c1
  by_cases c2 : 4096 ≤ sg
  ·have he : e = 2 := HS.out.err (by rw [HLA.out, if_neg c1, if_pos c2])
   subst he
   have d2 : decide (4096 ≤ sg) = true := decide_eq_true c2
   clear HLA HS HW qin c1 c2
   go_wp2_with fail
   go_ret
   exact ⟨rfl, BW.out⟩
  have d2 : decide (4096 ≤ sg) = false := decide_eq_false c2
  have hz0 := hb3.out.size
  have hlow := hid (show w.heap.size + 1 + 1 + 1 ≤ w3.heap.size from by rw [← hz3.out]; exact Nat.le_refl _)
  have hRs : ∀ x ∈ R, 1 ≤ x.2.1 ∧ x.2.1 ≤ 4095 ∧ 1 ≤ x.2.2 ∧ x.2.2 ≤ 4096 := fun x hx => by
   have := HROW.out.may x hx
   unfold Exts.may at this
   omega
  have qt := hid (rtaken_any (.slice p1 R.length k1) R w3 (H1.out.below (B := 0) BW.out) hRs (by omega) sg (by omega))
  clear hRs hz0
  have C1 := hid c1
  have C2 := hid c2
  clear c1 c2
  cases ht : Forks.taken R sg with
  | true =>
   have he : e = 2 := HS.out.err (by
    rw [HLA.out, if_neg (show ¬ sg < 1 by have := C1.out; omega), if_neg (show ¬ 4096 ≤ sg by have := C2.out; omega)]
    split
    ·rfl
    ·first | rfl | rw [if_pos ht])
   subst he
   have q := hid (qt.out true ht)
   clear HLA HS HW qin qt
   go_wp2_with fail
   refine q.out.mono ?_
   rintro _ w4 ⟨rfl, b4⟩
   have B := hid (BW.out.trans (b4.mono BW.out.size))
   clear q b4
   go_wp2_with fail
   go_ret
   exact ⟨rfl, B.out⟩
  | false =>
  have q := hid (qt.out false ht)
  have HT0 := hid ht
  clear qt ht
  go_wp2_with fail
  refine q.out.mono ?_
  rintro _ w4 ⟨rfl, b4⟩
  have hb4 := hid (hb3.out.trans (b4.mono hlow.out))
  have qin4 := hid (fun (b : Int) (r : Bool) (hr : N.contains b = r) => in_any (.slice p2 N.length k2) N b w4 ((H2.out.below BW.out).below b4) (by omega) r hr)
  obtain ⟨bw4, ⟨x0', x1'⟩, ⟨y0', y1', y2', y3'⟩, ⟨-, -, -, s3', s4'⟩⟩ := c3.out _ hb4.out
  have BW4 := hid bw4
  clear bw4 b4 q qin x0 x1 y0 y1 y2 y3 s3 s4 hb3 BW
  by_cases ceq : sg = sf
  ·have hok : (Except.ok ⟨sd, root, C, F⟩ : Except Int Forks.SetR) = .ok ⟨(dn : Int), T, [], []⟩ ∧ e = 0 := by
    have h1 := HLA.out
    rw [if_neg (show ¬ sg < 1 by have := C1.out; omega), if_neg (show ¬ 4096 ≤ sg by have := C2.out; omega), if_neg (fun h => h.1 ceq), if_neg (by rw [HT0.out]; exact fun hh => Bool.noConfusion hh), if_pos ceq] at h1
    rcases HS.out.is with ⟨h2, -⟩ | ⟨h3, h2⟩
    ·rw [h1] at h2; cases h2
    ·exact ⟨h2.symm.trans h1, h3⟩
   obtain ⟨hok, rfl⟩ := hok
   cases hok
   have n1 : (sg != sf) = false := by rw [bne_eq_false_iff_eq]; exact ceq
   have n2 : (sg == sf) = true := by rw [beq_iff_eq]; exact ceq
   have QS := hid (nsame_b w4 (.slice pr T.length kr) (.slice pt T.length kt) T T (HS.out.rt.below (B := 0) BW4.out) (HTt.out.below (B := 0) BW4.out) (by omega) (by omega) true (by simp))
   clear HLA HS HW qin4 ceq
   go_wp2_with fail
   refine QS.out.mono ?_
   rintro _ w5 ⟨rfl, b5⟩
   have B := hid (BW4.out.trans (b5.mono BW4.out.size))
   clear QS b5
   go_wp2_with fail
   go_ret
   exact ⟨rfl, B.out⟩
  have n1 : (sg != sf) = true := by rw [bne_iff_ne]; exact ceq
  have n2 : (sg == sf) = false := by rw [beq_eq_false_iff_ne]; exact ceq
  have CEQ := hid ceq
  clear ceq
  cases hi2 : N.contains sg with
  | true =>
   have hb := Forks.natI_bound (v := v) (b := sg) (by rw [HN.out]; exact hi2)
   have he : e = 2 := HS.out.err (by
    rw [HLA.out, if_neg (show ¬ sg < 1 by have := C1.out; omega), if_neg (show ¬ 4096 ≤ sg by have := C2.out; omega), if_pos ⟨CEQ.out, by rw [← Forks.natI_has hb.1 hb.2, HN.out]; exact hi2⟩])
   subst he
   have q := hid (qin4.out sg true hi2)
   clear HLA HS HW qin4 hb hi2
   go_wp2_with fail
   refine q.out.mono ?_
   rintro _ w' ⟨rfl, rfl⟩
   go_wp2_with fail
   go_ret
   exact ⟨rfl, BW4.out⟩
  | false =>
  have q := hid (qin4.out sg false hi2)
  have hho : Forks.has v sg.toNat = false := by
   have h1 : 0 ≤ sg := by have := C1.out; omega
   have h2 : sg < 4096 := by have := C2.out; omega
   rw [← Forks.natI_has h1 h2, HN.out]
   exact hi2
  obtain ⟨rfl, hok⟩ : e = 0 ∧ Forks.leadV v dn T R sf sg = .ok ⟨sd, root, C, F⟩ := by
   have h1 := HLA.out
   rw [if_neg (show ¬ sg < 1 by have := C1.out; omega), if_neg (show ¬ 4096 ≤ sg by have := C2.out; omega), if_neg (fun h => by rw [hho] at h; exact Bool.noConfusion h.2), if_neg (by rw [HT0.out]; exact fun hh => Bool.noConfusion hh), if_neg (show ¬ sg = sf from CEQ.out)] at h1
   rcases HS.out.is with ⟨h2, -⟩ | h2
   ·rw [h1] at h2; cases h2
   ·exact h2
  obtain ⟨l1, l2, hd, hf, hcl, hpw, ⟨TX, hT1, hT2, hT3⟩, hrl, v', hw', hhas⟩ := Forks.lead_stands HL.out HW.out hok CEQ.out
  have hcl2 : C.length ≤ 2 := hcl
  obtain rfl : sd = (dn : Int) := hd
  obtain rfl : F = [sf] := hf
  have hT3' : ∀ x ∈ C, (x = (sg, TX)) ∨ (0 ≤ x.1 ∧ x.1 < 4096 ∧ x.1 ≠ sg ∧ x.1 ≠ sf ∧ Forks.has v x.1.toNat = true ∧ Ld[x.1.toNat]? ≠ some x.2) := hT3
  have hbd : ∀ x ∈ C, 0 ≤ x.1 ∧ x.1 < 4096 := fun x hx => by
   rcases hT3' x hx with h | h
   ·rw [h]; dsimp only; omega
   ·exact ⟨h.1, h.2.1⟩
  have hnew : ∀ x ∈ C, Forks.has v' x.1.toNat = true := fun x hx => by
   have hb := hbd x hx
   rw [hhas]
   rcases hT3' x hx with h | h
   ·right; rw [h]; dsimp only; omega
   ·left; exact ⟨h.2.2.2.2.1, by have := h.2.2.2.1; omega⟩
  have hdz := Forks.new_small HL.out HSM.out hpw hbd hw' hnew
  have hgf := gone_from (v := v) (v' := v') (fr := sf) (tt := sg) l1.2.2 ⟨l1.1, l1.2.1⟩ l2 hhas
  have hgt := gone_to (v := v) (v' := v') (fr := sf) (tt := sg) l1.2.2 ⟨l1.1, l1.2.1⟩ l2 hhas
  rw [HN.out] at hgf hgt
  have QH := hid (fun (wz : World) (v4 : Value) (hb : Below w.heap.size w wz) (h4 : IntsAt wz v4 [sg]) =>
   holds_any D cD Ld (.slice p2 N.length k2) N (.slice p1 R.length k1) R dn (.slice pr root.length kr) (.slice pc C.length kc) (.slice pf ([sf] : IL).length kf) root C [sf] v4 [sg] (natI (Forks.nodes v')) wz (HT.out.below hb HT.out.lt) HL.out (H2.out.below hb) (H1.out.below (B := 0) hb) (HS.out.rt.below (B := 0) hb) HSR.out (by have : root.length = T.length := hrl; omega) (HS.out.ch.below hb) (HS.out.fr.below hb) h4
    (fun i hi => by
     have h1 := hbd (C.getD i (0, ⟨#[]⟩)) (by rw [show C.getD i (0, ⟨#[]⟩) = C[i] by simp [List.getD, hi]]; exact List.getElem_mem hi)
     refine ⟨h1.1, h1.2, fun h0 => ?_⟩
     have hj : i - 1 < C.length := by omega
     rw [show C.getD i (0, ⟨#[]⟩) = C[i] by simp [List.getD, hi], show C.getD (i - 1) (0, ⟨#[]⟩) = C[i - 1] by simp [List.getD, hj]]
     exact List.pairwise_iff_getElem.1 hpw (i - 1) i hj hi (by omega))
    (fun x hx => by
     rcases hT3' x hx with h | h
     ·right; rw [h]; exact hi2
     ·exact .inl h.2.2.2.2.2) ⟨v', hw', rfl⟩
    (fun x hx => by rw [Forks.natI_has (hbd x hx).1 (hbd x hx).2]; exact hnew x hx)
    hgf.symm (fun x hx => by rw [hgt]; rw [List.mem_singleton.1 hx]; simp) (by rw [hgt]) hdz hNl (by omega) hdl)
  have hrl3 : root.length = T.length := hrl
  have HT1 := hid hT1
  have HT2 : Hid ((sg, TX) ∈ C) := hid hT2
  have HT3 := hid hT3'
  have HL2 := hid l2
  have HCF := hid (And.intro HS.out.ch HS.out.fr)
  have hcl1 : decide (2 < (C.length : Int)) = false := decide_eq_false (by omega)
  have hcl1' : decide (2 < C.length) = false := decide_eq_false (by omega)
  clear hok hT1 hT2 hT3 hT3' hbd hnew hdz hgf hgt hw' hhas hpw hrl l1 l2 HS HW HLA hho hi2 qin4 hcl HSR HROW
  go_wp2_with fail
  refine q.out.mono ?_
  rintro _ w' ⟨rfl, rfl⟩
  clear q
  have hlit : IntsAt (w4.alloc (.cells #[.int .i64 sg] 3)) (.slice (some ⟨w4.heap.size, 0, none⟩) 1 1) [sg] := OwnInts.at (B := w4.heap.size) (World.ownsRow_lit w4 #[.int .i64 sg] 1 (Nat.le_refl _) (by unfold maxLen; omega) rfl)
  have bl : Below w4.heap.size w4 (w4.alloc (.cells #[.int .i64 sg] 3)) := (Below.refl _ _).alloc (Nat.le_refl _) _
  have BWl := hid (BW4.out.trans (bl.mono BW4.out.size))
  have qh := hid (QH.out _ _ BWl.out hlit)
  rw [hrl3] at qh
  have hbl := hid (hb4.out.trans (bl.mono (Nat.le_trans hlow.out (by have := hb4.out.size; omega))))
  clear hlit bl QH
  go_wp2_with fail
  refine qh.out.mono ?_
  rintro _ w8 ⟨rfl, b8⟩
  have BW8 := hid (BWl.out.trans (b8.mono BWl.out.size))
  have hb8 := hid (hbl.out.trans (b8.mono (by have := hbl.out.size; have := hlow.out; omega)))
  clear qh b8 BWl hbl y0' y1' y2' y3' x0' x1' s3' s4' hb4 BW4
  go_wp2_with fail
  go_loopw [15] (fun q wr => ∃ i : Nat, i ≤ C.length ∧ q = .int .i64 i ∧ Hid (∀ k, k < i → (C.getD k (0, ⟨#[]⟩)).1 ≠ sg) ∧ Hid (Below w8.heap.size w8 wr)) (fun q _ => C.length - (intOf q).toNat)
  case atStart => exact ⟨0, by omega, rfl, hid (fun k hk => absurd hk (Nat.not_lt_zero _)), hid (Below.refl _ _)⟩
  case round =>
   obtain ⟨i, hi, rfl, hall, hbl⟩ := hrel
   have hsz : w.heap.size + 1 + 1 + 1 ≤ w8.heap.size := by have := hb8.out.size; have := hlow.out; omega
   have BWr := hid (BW8.out.trans (hbl.out.mono BW8.out.size))
   obtain ⟨-, -, ⟨y0, y1, y2, y3⟩, ⟨-, -, -, s3, s4⟩⟩ := c3.out _ (hb8.out.trans (hbl.out.mono hsz))
   by_cases hlt : i < C.length
   ·have i0 : (0 : Int) ≤ (i : Int) := by omega
    have i1 : (i : Int) < (C.length : Int) := by omega
    obtain ⟨g, off, rfl, d0, d1⟩ := (HCF.out.1.below BWr.out).cells i hlt
    have hce : C.getD i (0, ⟨#[]⟩) = C[i] := by simp [List.getD, hlt]
    by_cases heq : (C.getD i (0, ⟨#[]⟩)).1 = sg
    ·have htx : (C.getD i (0, ⟨#[]⟩)).2 = TX := by
      rcases HT3.out (C.getD i (0, ⟨#[]⟩)) (by rw [hce]; exact List.getElem_mem hlt) with h | h
      ·rw [h]
      ·exact absurd heq h.2.2.1
     rw [heq] at d0
     rw [htx] at d1
     have hbq : (sg == sg) = true := by simp
     clear hall htx
     go_upto_region 12 with fail
     go_quiet (fail)
     have hb9 := hid (Below.drewN' hbl.out nq)
     clear d0 d1 y0 y1 y2 y3 s3 s4 BWr hbl
     generalize wr.drewN nq = w9 at *
     have BW9 := hid (BW8.out.trans (hb9.out.mono BW8.out.size))
     obtain ⟨fn, hfn⟩ : ∃ fn : Nat, sf = (fn : Int) := ⟨sf.toNat, by have := HL2.out.1; omega⟩
     subst hfn
     have hf0 : (0 : Int) ≤ (fn : Int) := by omega
     have hf1 : (fn : Int) < 4096 := by have := HL2.out.2.1; omega
     have hxx : (TX.toList == TX.toList) = true := by simp
     have K : Hid (∀ wz, Below w9.heap.size w9 wz → wz.cell? ⟨w.heap.size + 1, 2, none⟩ = some (.slice (some ⟨g, off, none⟩) C.length kc) ∧ wz.cell? ⟨w.heap.size + 1, 3, none⟩ = some (.slice pf 1 kf) ∧ wz.cell? ⟨g, off + i * 2 + 1, none⟩ = some (.string TX) ∧ wz.cell? ⟨w.heap.size + 1 + 1, 3, none⟩ = some (.int .i64 (fn : Int)) ∧ wz.cell? ⟨D, fn, none⟩ = some (.string TX)) := hid (fun wz hz => by
      have hbz := hb8.out.trans ((hb9.out.trans (hz.mono hb9.out.size)).mono hsz)
      obtain ⟨hbw, -, ⟨y0, y1, y2, y3⟩, ⟨-, -, -, s3, s4⟩⟩ := c3.out _ hbz
      obtain ⟨g', off', e', d0, d1⟩ := (HCF.out.1.below hbw).cells i hlt
      cases e'
      have htx : (C.getD i (0, ⟨#[]⟩)).2 = TX := by
       rcases HT3.out (C.getD i (0, ⟨#[]⟩)) (by rw [hce]; exact List.getElem_mem hlt) with h | h
       ·rw [h]
       ·exact absurd heq h.2.2.1
      rw [htx] at d1
      exact ⟨y2, y3, d1, s3, (HT.out.below hbw HT.out.lt).cellAt fn (by rw [List.getElem?_map]; have := HT1.out; rw [Int.toNat_natCast] at this; rw [this]; rfl)⟩)
     have b0 : Below w9.heap.size w9 w9.drew := (Below.refl _ _).drew
     have bA : Below w9.heap.size w9 (w9.alloc (.cells #[.int .i64 (fn : Int)] 3)).drew := ((Below.refl _ _).alloc (Nat.le_refl _) _).drew
     have hlit0 : OwnInts w9.heap.size (w9.alloc (.cells #[.int .i64 (fn : Int)] 3)) (.slice (some ⟨w9.heap.size, 0, none⟩) 1 1) [(fn : Int)] := World.ownsRow_lit w9 #[.int .i64 (fn : Int)] 1 (Nat.le_refl _) (by unfold maxLen; omega) rfl
     have hlit : IntsAt (w9.alloc (.cells #[.int .i64 (fn : Int)] 3)).drew (.slice (some ⟨w9.heap.size, 0, none⟩) 1 1) [(fn : Int)] := (OwnInts.at hlit0).below (Below.refl _ _).drew
     have QI := hid (isame_bel _ (.slice pf 1 kf) _ [(fn : Int)] (HCF.out.2.below (BW9.out.trans (bA.mono BW9.out.size))) hlit (by simp))
     have BWA := hid (BW9.out.trans (bA.mono BW9.out.size))
     clear hlit hlit0 HCF HT3 HT HT1 HT2 HL2 hce heq
     go_upto_region 13 with fail
     go_region_held3 (fun w' => w'.cell? ⟨w.heap.size + 1, 2, none⟩ = some (.slice (some ⟨g, off, none⟩) C.length kc) ∧ w'.cell? ⟨w.heap.size + 1, 3, none⟩ = some (.slice pf 1 kf) ∧ w'.cell? ⟨g, off + i * 2 + 1, none⟩ = some (.string TX) ∧ w'.cell? ⟨w.heap.size + 1 + 1, 3, none⟩ = some (.int .i64 (fn : Int)) ∧ w'.cell? ⟨D, fn, none⟩ = some (.string TX))
      (first | (refine K.out _ ?_; assumption) | fail "no S")
      (first | (go_at_call 23; (with_reducible refine QI.out.mono ?_); rintro _ wq ⟨rfl, bq⟩; have BQ := hid (BWA.out.trans (bq.mono BWA.out.size)); have bq9 : Below w9.heap.size w9 wq := bA.trans (bq.mono bA.size)) | fail "none")
     all_goals first
      | (go_ret; exact ⟨rfl, BQ.out⟩)
      | (go_wp2_with fail; go_ret; exact ⟨rfl, BQ.out⟩)
      | (go_step; go_wp2_with fail; go_ret; exact ⟨rfl, BQ.out⟩)
      | fail "no end"
    ·have hall' : Hid (∀ k, k < i + 1 → (C.getD k (0, ⟨#[]⟩)).1 ≠ sg) := hid (fun k hk => by
      rcases Nat.lt_or_ge k i with h | h
      ·exact hall.out k h
      ·obtain rfl : k = i := by omega
       exact heq)
     generalize (C.getD i (0, ⟨#[]⟩)).1 = ci at *
     have hcb : (ci == sg) = false := by rw [beq_eq_false_iff_ne]; exact heq
     clear heq hall hce
     go_upto_region 12 with fail
     go_quiet (fail)
     go_wp2_with fail
     go_roundw
     case rel => exact ⟨i + 1, by omega, by go_num, hall', hid (Below.drewN' hbl.out _)⟩
     case measure => simp [intOf]; omega
   ·exfalso
    obtain ⟨k, hk, e⟩ := List.mem_iff_getElem.1 HT2.out
    refine hall.out k (by omega) ?_
    rw [show C.getD k (0, ⟨#[]⟩) = C[k] by simp [List.getD, hk], e]
end Go.Proofs.YtgjmeeiejcbjfaaGreat
namespace Go.Proofs.YtgjmeeiejcbjfaaGreat
open Go.Lib (hid)
open Go Go.RowKit
namespace Forks
open Go.Lib (hid)
theorem turned_small {v : V} {d : Nat} {root : EL} {k : Nat} {p : E → Bool} {tt : Int} (hs : SmallsE root) (ht : -9223372036854775808 ≤ tt ∧ tt ≤ 9223372036854775807) : SmallsE (turnedT v d root k p tt).root := by
 unfold turnedT
 split
 ·dsimp only
  split
  ·next h => exact turnAt_small hs _ (idxOf_lt h) tt ht
  ·exact hs
 ·exact hs
theorem moveV_small {v : V} {d : Nat} {root R : EL} {lg n tt : Int} (hs : SmallsE root) (ht : -9223372036854775808 ≤ tt ∧ tt ≤ 9223372036854775807) : SmallsE (repR (moveV v d root R lg n tt)) := by
 have nil : SmallsE [] := fun x hx => by cases hx
 unfold moveV
 repeat' split
 all_goals first | exact nil | exact turned_small hs ht
theorem leadV_small {v : V} {d : Nat} {root R : EL} {fr tt : Int} (hs : SmallsE root) (ht : -9223372036854775808 ≤ tt ∧ tt ≤ 9223372036854775807) : SmallsE (repR (leadV v d root R fr tt)) := by
 have nil : SmallsE [] := fun x hx => by cases hx
 unfold leadV
 repeat' split
 all_goals first | exact nil | exact hs | exact turned_small hs ht
theorem moveV_err {v : V} {d : Nat} {root R : EL} {lg n tt k : Int} (h : moveV v d root R lg n tt = .error k) : k ≠ 0 := by
 unfold moveV at h
 repeat' split at h
 all_goals first | (cases h; decide) | cases h
theorem leadV_err {v : V} {d : Nat} {root R : EL} {fr tt k : Int} (h : leadV v d root R fr tt = .error k) : k ≠ 0 := by
 unfold leadV at h
 repeat' split at h
 all_goals first | (cases h; decide) | cases h
end Forks
theorem RepAt.setIn {B : Nat} {w : World} {r : Except Int Forks.SetR} {a1 a2 a3 : Option Addr} {c1 c2 c3 : Nat} (h : RepAt B w r a1 a2 a3 c1 c2 c3) (hk : ∀ k, r = .error k → k ≠ 0) :
  SetIn w r (repD r) (.slice a1 (repR r).length c1) (.slice a2 (repC r).length c2) (.slice a3 (repF r).length c3) (repE r) (repR r) (repC r) (repF r) := by
 refine ⟨(OwnEnts.ents h.root).ext, OwnChgs.at h.chgs, OwnInts.at h.free, ?_⟩
 cases r with
 | error k => exact .inl ⟨rfl, hk k rfl⟩
 | ok s => exact .inr ⟨rfl, rfl⟩
theorem rep_none {r : Except Int Forks.SetR} (h : repE r ≠ 0) : repD r = 0 ∧ repR r = [] ∧ repC r = [] ∧ repF r = [] := by
 cases r with
 | error k => exact ⟨rfl, rfl, rfl, rfl⟩
 | ok s => exact absurd rfl h
end Go.Proofs.YtgjmeeiejcbjfaaGreat
