/- The document's Check of exts (as at chapter 14), over the document's Row of entries. -/
import Derived.Test.YtgjmeeiejcbjfaaGreatM35
import Derived.Test.YtgjmeeiejcbjfaaGreatM07
import Derived.Test.YtgjmeeiejcbjfaaGreatM25
import Derived.StillTailTactics
import Derived.Deep.AppendLies
import Derived.Test.YtgjmeeiejcbjfaaGreatM46
import Derived.Test.YtgjmeeiejcbjfaaGreatM19
import Derived.Deep.CutBlock
set_option linter.unusedSimpArgs false
set_option linter.unusedVariables false
namespace Go.Proofs.YtgjmeeiejcbjfaaGreat
open Go.Lib (hid)
open Go Go.RowKit
theorem own_atE {B : Nat} {w : World} {v : Value} {l : EL} {T : TypeId} (h : w.ownsRow B T 3 v l.length (ecells l)) : ExtsAt w v l := by
 rcases h.2 with ⟨rfl, hn⟩ | ⟨g, cap, cur, rfl, hg, hh, h1, h2, h3, h4⟩
 ·exact .inl ⟨rfl, List.eq_nil_of_length_eq_zero hn⟩
 ·refine .inr ⟨g, 0, cap, rfl, fun j u hu => ?_⟩
  have hj : j < l.length * 3 := by
   have := (List.getElem?_eq_some_iff.1 hu).1
   rwa [ecells_length] at this
  rw [Nat.zero_add]
  have e : (cur.toList.take (l.length * 3))[j]? = some u := by rw [h4]; exact hu
  rw [List.getElem?_take, if_pos hj, Array.getElem?_toList] at e
  simp [World.cell?, hh, e]
theorem ecells_take (l : EL) (j : Nat) (hj : j < l.length) : ecells (l.take (j + 1)) = ecells (l.take j) ++ [.int .i64 (l.getD j (0, 0, 0)).1, .int .i64 (l.getD j (0, 0, 0)).2.1, .int .i64 (l.getD j (0, 0, 0)).2.2] := by
 rw [List.take_succ_eq_append_getElem hj, ecells_append]
 simp [ecells, List.getD, hj]
set_option maxRecDepth 100000 in
set_option maxHeartbeats 4000000 in
theorem echeck2_any (v : Value) (l : EL) (w : World) (hs : SmallsE l) (h : ExtsAt w v l) (hl : l.length ≤ 1000000) :
  Calls Tryz.prog 53 #[v] w fun e w' => e = .returned (.bool (Exts.okTo l l.length)) ∧ Below w.heap.size w w' := by
 obtain ⟨i0', hi0, hz0, hz1, hz2⟩ := info_parts info_entry
 have H := hid h
 have S := hid hs
 obtain ⟨ad, cap, rfl⟩ : ∃ ad cap, v = .slice ad l.length cap := by
  rcases h with ⟨rfl, rfl⟩ | ⟨b, off, cap, rfl, _⟩
  ·exact ⟨_, _, rfl⟩
  ·exact ⟨_, _, rfl⟩
 clear h hs
 have O0 : Hid (w.ownsRow w.heap.size 31 3 (.slice none 0 0) 0 (ecells (l.take 0))) := hid (World.ownsRow_nil _ _ _ _)
 go_enter Tryz.func53, Tryz.ntmps53
 go_wp2_with fail
 go_loopw [3, 4] (fun p q wr => ∃ (u : Value) (j : Nat), u = p ∧ q = .int .i64 j ∧ j ≤ l.length ∧ Hid (wr.ownsRow w.heap.size 31 3 u j (ecells (l.take j))) ∧ Hid (Below w.heap.size w wr)) (fun _ q _ => l.length - (intOf q).toNat)
 case atStart => exact ⟨_, 0, rfl, rfl, by omega, O0, hid (Below.refl _ _)⟩
 case round =>
  obtain ⟨u, j, rfl, rfl, hj, ho, hb⟩ := hrel
  by_cases hlt : j < l.length
  ·have i0 : (0 : Int) ≤ (j : Int) := by omega
   have i1 : (j : Int) < (l.length : Int) := by omega
   obtain ⟨hll, g, off, rfl, c0, c1, c2⟩ := (H.out.below (B := 0) hb.out).cells j hlt
   clear hll
   obtain ⟨hll, g', off', e', e0, e1, e2⟩ := H.out.cells j hlt
   cases e'
   clear hll
   have hnx := hid (ecells_take l j hlt)
   have hbz := hb.out.size
   generalize l.getD j (0, 0, 0) = x at *
   obtain ⟨xa, xb, xc⟩ := x
   dsimp only at *
   have hone := ecells_one [(xa, xb, xc)]
   have c2' := c0
   have bA : Below wr.heap.size wr ((wr.alloc (.cells #[.int .i64 xa, .int .i64 xb, .int .i64 xc] 31)).drew) := (below_box (Below.refl _ _) _).drew
   have G := hid (show (((wr.alloc (.cells #[.int .i64 xa, .int .i64 xb, .int .i64 xc] 31)).drew)).ownsRow w.heap.size 31 3 u j (ecells (l.take j)) from own_belowR ho.out bA)
   have NN := hid (show ∀ jj uu, [.int .i64 xa, .int .i64 xb, .int .i64 xc][jj]? = some uu → (((wr.alloc (.cells #[.int .i64 xa, .int .i64 xb, .int .i64 xc] 31)).drew)).cell? ((⟨wr.heap.size, 0, none⟩ : Addr).add jj) = some uu from fun jj uu hjj => by
    have hadd : (⟨wr.heap.size, 0, none⟩ : Addr).add jj = ⟨wr.heap.size, jj, none⟩ := by unfold Addr.add; split <;> simp_all
    rw [hadd]
    exact (World.cell?_alloc_at (w := wr) _ _ _ jj rfl).trans (by simpa using hjj))
   have hown0 : Hid (∀ k, u.ownBlock = some k → w.heap.size ≤ k) := hid (fun k hk => (World.ownsRow.lt ho.out k hk).1)
   have HBA : Below w.heap.size w ((wr.alloc (.cells #[.int .i64 xa, .int .i64 xb, .int .i64 xc] 31)).drew) := hb.out.trans (bA.mono hbz)
   have HB0 : Below w.heap.size w wr.drew := hb.out.drew
   have hg0 : g < w.heap.size := World.block_lt_of_cell? _ _ e0
   have KEEP : Hid (∀ wz, Below w.heap.size w wz → wz.cell? ⟨g, off + j * 3, none⟩ = some (.int .i64 xa) ∧ wz.cell? ⟨g, off + j * 3 + 1, none⟩ = some (.int .i64 xb) ∧ wz.cell? ⟨g, off + j * 3 + 2, none⟩ = some (.int .i64 xc)) := hid (fun wz hz => ⟨(hz.cell (p := ⟨g, off + j * 3, none⟩) hg0).trans e0, (hz.cell (p := ⟨g, off + j * 3 + 1, none⟩) hg0).trans e1, (hz.cell (p := ⟨g, off + j * 3 + 2, none⟩) hg0).trans e2⟩)
   clear bA ho hb c2' c0 c1 c2 e0 e1 e2
   go_wp2_with fail
   go_region_held3 (fun w' => w'.cell? ⟨g, off + j * 3, none⟩ = some (.int .i64 xa) ∧ w'.cell? ⟨g, off + j * 3 + 1, none⟩ = some (.int .i64 xb) ∧ w'.cell? ⟨g, off + j * 3 + 2, none⟩ = some (.int .i64 xc))
    (first | (refine KEEP.out _ ?_; assumption))
    ((refine step_append_lies _ (by rfl) _ _ _ (by rfl) w.heap.size 31 i0' (.agg #[.int .i64 0, .int .i64 0, .int .i64 0]) 3 24 Tryz.underlying22 hi0 hz0 hz1 hz2 rfl (by omega) u j _ (by rfl) G.out ⟨wr.heap.size, 0, none⟩ 1 1 [.int .i64 xa, .int .i64 xb, .int .i64 xc] (by rfl) (by rfl) NN.out hone (by omega) (by unfold maxLen; omega) (by omega) (by simp; omega) (wr.heap.size + 1) (by simp) ?_; intro g5 c5 w5 hown hgrow hat hlt5; have B5 : Below w.heap.size w w5 := HBA.grown hgrow (by simp; omega) (fun k hk => hown0.out k hk)))
   have B5 := hid B5
   have O5 : Hid (w5.ownsRow w.heap.size 31 3 (.slice (some ⟨g5, 0, none⟩) (j + 1) c5) (j + 1) (ecells (l.take (j + 1)))) := hid (by rw [hnx.out]; exact hown)
   clear hown hgrow NN G KEEP HBA HB0 hat hlt5
   go_wp2_with fail
   go_roundw
   case rel => exact ⟨_, j + 1, rfl, by go_num, by omega, O5, B5⟩
   case measure => simp [intOf]; omega
  ·obtain rfl : j = l.length := by omega
   have ho' := ho.out
   rw [List.take_length] at ho'
   have q := hid ((fun w (h : ExtsAt w u l) => by have := xrow2_any true u l w S.out h (by omega); rwa [Ents.okTo_leaf] at this) wr (own_atE ho'))
   clear ho' ho
   go_wp2_with fail
   refine q.out.mono ?_
   rintro e w6 ⟨rfl, b6⟩
   have B6 := hid (hb.out.trans (b6.mono hb.out.size))
   clear b6
   go_wp2_with fail
   go_ret
   exact ⟨rfl, B6.out⟩
def riseT (N : IL) (n : Nat) : IL := natI (((List.range 4096).take n).filter fun b => N.contains (b : Int))
theorem riseT_succ (N : IL) (n : Nat) (hn : n < 4096) : riseT N (n + 1) = riseT N n ++ if N.contains (n : Int) = true then [(n : Int)] else [] := by
 unfold riseT natI
 rw [List.take_succ_eq_append_getElem (by simpa using hn), List.filter_append, List.map_append, List.getElem_range]
 have e : (List.filter (fun b : Nat => N.contains (b : Int)) [n]) = if N.contains (n : Int) = true then [n] else [] := by rw [List.filter_cons, List.filter_nil]
 rw [e]
 split <;> rfl
theorem riseT_len (N : IL) (n : Nat) : (riseT N n).length ≤ 4096 := by
 unfold riseT natI
 rw [List.length_map]
 have h1 := List.length_filter_le (fun b : Nat => N.contains (b : Int)) ((List.range 4096).take n)
 have h2 : ((List.range 4096).take n).length ≤ 4096 := by rw [List.length_take]; simp; omega
 omega
theorem visB_has (v : Forks.V) (b : Nat) : (visB v).contains (b : Int) = Forks.has v b := by
 rw [Bool.eq_iff_iff]
 unfold Forks.has visB
 rw [List.any_eq_true, List.contains_iff_mem, List.mem_map]
 constructor
 ·rintro ⟨x, hx, e⟩; exact ⟨x, hx, by rw [beq_iff_eq]; omega⟩
 ·rintro ⟨x, hx, e⟩; exact ⟨x, hx, by rw [beq_iff_eq] at e; omega⟩
set_option maxRecDepth 100000 in
theorem rise_nodes (v : Forks.V) : riseT (visB v) 4096 = natI (Forks.nodes v) := by
 unfold riseT Forks.nodes
 rw [List.take_of_length_le (by simp), show (fun b : Nat => (visB v).contains (b : Int)) = Forks.has v from funext (visB_has v)]
set_option maxRecDepth 100000 in
set_option maxHeartbeats 4000000 in
theorem rrising_any (v : Value) (N : IL) (w : World) (h : IntsAt w v N) (hl : N.length ≤ 1000000) :
  Calls Tryz.prog 55 #[v] w fun e w' => ∃ u, e = .returned u ∧ OwnInts w.heap.size w' u (riseT N 4096) ∧ Below w.heap.size w w' := by
 obtain ⟨ii, hii, hzi, hsi, hbi⟩ := info_parts infoInt
 have H := hid h
 obtain ⟨ad, cap, rfl⟩ := h.form
 clear h
 obtain ⟨F, hF⟩ : ∃ F, riseT N = F := ⟨_, rfl⟩
 have HS : Hid (∀ n, n < 4096 → F (n + 1) = F n ++ if N.contains (n : Int) = true then [(n : Int)] else []) := hid (by rw [← hF]; exact riseT_succ N)
 have HL : Hid (∀ n, (F n).length ≤ 4096) := hid (by rw [← hF]; exact riseT_len N)
 have H0 : Hid (F 0 = []) := hid (by rw [← hF]; simp [riseT, natI])
 rw [hF]
 clear hF
 go_enter Tryz.func55, Tryz.ntmps55
 go_wp2_with fail
 go_loopw [3, 4] (fun p q wr => ∃ (j : Nat) (u : Value), j ≤ 4096 ∧ u = p ∧ q = .int .i64 j ∧ Hid (OwnInts w.heap.size wr u (F j)) ∧ Hid (Below w.heap.size w wr)) (fun _ q _ => 4096 - (intOf q).toNat)
 case atStart => exact ⟨0, _, by omega, rfl, rfl, hid (by rw [H0.out]; exact World.ownsRow_nil _ _ _ _), hid (Below.refl _ _)⟩
 case round =>
  obtain ⟨j, u, hj, rfl, rfl, ho, hb⟩ := hrel
  by_cases hlt : j < 4096
  ·have j0 : (0 : Int) ≤ (j : Int) := by omega
   have j1 : (j : Int) < 4096 := by omega
   obtain ⟨au, cu, rfl⟩ := ho.out.slice
   have hs := hid (HS.out j hlt)
   have hlj := HL.out j
   rename World => wo
   go_wp2_with fail
   go_loopw [3, 5] (fun p q wy => ∃ i : Nat, i ≤ N.length ∧ q = .int .i64 i ∧ p = .slice au (F j).length cu ∧ wo = wy ∧ Hid (∀ k, k < i → N.getD k 0 ≠ (j : Int))) (fun _ q _ => N.length - (intOf q).toNat)
   case atStart => exact ⟨0, by omega, rfl, rfl, rfl, hid (fun k hk => absurd hk (Nat.not_lt_zero _))⟩
   case round =>
    obtain ⟨i, hi, rfl, rfl, rfl, hall⟩ := hrel
    by_cases hin : i < N.length
    ·obtain ⟨g, off, rfl, c0⟩ := (H.out.below hb.out).cells i hin
     have i0 : (0 : Int) ≤ (i : Int) := by omega
     have i1 : (i : Int) < (N.length : Int) := by omega
     have i2 : (i : Int) ≤ 1000000 := by omega
     by_cases heq : N.getD i 0 = (j : Int)
     ·have hc : N.contains (j : Int) = true := by
       rw [List.contains_iff_mem, ← heq, show N.getD i 0 = N[i] by simp [List.getD, hin]]
       exact List.getElem_mem hin
      rw [heq] at c0
      have hF1 : Hid (F (j + 1) = F j ++ [(j : Int)]) := hid (by rw [hs.out, if_pos hc])
      have HO := hid (show World.ownsRow _ w.heap.size 3 1 (.slice au (F j).length cu) (F j).length (icells (F j)) from ho.out)
      have hone : ∀ u ∈ [Value.int .i64 (j : Int)], u.oneCell' = true := by
       intro u hu
       obtain rfl := List.mem_singleton.1 hu
       rfl
      have HB := hb
      clear hc heq hall ho hb
      go_wp2_with (first | (at_builtin; refine wpList_append_own _ rfl (.tmp 22) (.tmp 24) 43 rfl w.heap.size 3 ii (.int .i64 0) 1 8 Tryz.underlying43 hii hzi hsi hbi rfl (by decide) _ (F j).length _ rfl (HO.out.alloc _) ⟨wo.heap.size, 0, none⟩ 1 1 [Value.int .i64 (j : Int)] rfl rfl (World.news_of_block (heap_alloc_new _ _)) hone (by unfold maxLen; omega) (by omega) (by have := HB.out.size; simp at this ⊢; omega) ?_))
      intro v' w5 hown hgrow _
      have HW := hid ((HB.out.alloc HB.out.size (.cells #[.int .i64 (j : Int)] 3)).grown hgrow (by have := HB.out.size; simp at this ⊢; omega) (fun k hk => (HO.out.lt k hk).1))
      have HG : Hid (OwnInts w.heap.size w5 v' (F (j + 1))) := hid (by
       rw [hF1.out]
       unfold OwnInts
       rw [List.length_append, show icells (F j ++ [(j : Int)]) = icells (F j) ++ [.int .i64 (j : Int)] by simp [icells]]
       exact hown)
      clear hown hgrow
      obtain ⟨a5, c5, rfl⟩ := HG.out.slice
      go_wp2_with fail
      go_roundw
      case rel => exact ⟨j + 1, _, by omega, rfl, by go_num, HG, HW⟩
      case measure => simp [intOf]; omega
     ·have hall' : Hid (∀ k, k < i + 1 → N.getD k 0 ≠ (j : Int)) := hid (fun k hk => by
       rcases Nat.lt_or_ge k i with h | h
       ·exact hall.out k h
       ·obtain rfl : k = i := by omega
        exact heq)
      generalize N.getD i 0 = y at *
      have hyb : (y == (j : Int)) = false := by rw [beq_eq_false_iff_ne]; exact heq
      clear heq hall
      go_wp2_with fail
      go_roundw
      case rel => exact ⟨i + 1, by omega, by go_num, rfl, trivial, hall'⟩
      case measure => simp [intOf]; omega
    ·obtain rfl : i = N.length := by omega
     have hc : N.contains (j : Int) = false := by
      rw [Bool.eq_false_iff]
      intro h
      rw [List.contains_iff_mem] at h
      obtain ⟨k, hk, e⟩ := List.mem_iff_getElem.1 h
      exact hall.out k hk (by rw [show N.getD k 0 = N[k] by simp [List.getD, hk]]; exact e)
     have HG : Hid (OwnInts w.heap.size wo (.slice au (F j).length cu) (F (j + 1)) ∧ Below w.heap.size w wo) := hid (by
      rw [hs.out, hc, if_neg (by decide), List.append_nil]
      exact ⟨ho.out, hb.out⟩)
     clear hc hall
     have HG1 := hid HG.out.1
     have HG2 := hid HG.out.2
     clear HG
     go_wp2_with fail
     go_roundw
     case rel => exact ⟨j + 1, _, by omega, rfl, by go_num, HG1, HG2⟩
     case measure => simp [intOf]; omega
  ·obtain rfl : j = 4096 := by omega
   obtain ⟨au, cu, rfl⟩ := ho.out.slice
   go_wp2_with fail
   go_ret
   exact ⟨_, rfl, ho.out, hb.out⟩
set_option maxRecDepth 100000 in
set_option maxHeartbeats 4000000 in
theorem rtaken_any (v : Value) (R : EL) (w : World) (h : ExtsAt w v R) (hsm : ∀ x ∈ R, 1 ≤ x.2.1 ∧ x.2.1 ≤ 4095 ∧ 1 ≤ x.2.2 ∧ x.2.2 ≤ 4096) (hl : R.length ≤ 1000000) (b : Int) (hb : 0 ≤ b ∧ b ≤ 1000000) (r : Bool) (hr : Forks.taken R b = r) :
  Calls Tryz.prog 54 #[v, .int .i64 b] w fun e w' => e = .returned (.bool r) ∧ Below w.heap.size w w' := by
 have H := hid h
 have HS := hid hsm
 have HR := hid hr
 obtain ⟨ad, cap, rfl⟩ := h.form
 obtain ⟨hb0, hb1⟩ := hb
 clear h hsm hr
 go_enter Tryz.func54, Tryz.ntmps54
 go_wp2_with fail
 go_loopw [5] (fun q wr => ∃ i : Nat, i ≤ R.length ∧ q = .int .i64 i ∧ Hid (∀ k, k < i → Forks.inX b (R.getD k (0, 0, 0)) = false) ∧ Hid (Below w.heap.size w wr)) (fun q _ => R.length - (intOf q).toNat)
 case atStart => exact ⟨0, by omega, rfl, hid (fun k hk => absurd hk (Nat.not_lt_zero _)), hid (Below.refl _ _)⟩
 case round =>
  obtain ⟨i, hi, rfl, hall, hbw⟩ := hrel
  by_cases hlt : i < R.length
  ·have i0 : (0 : Int) ≤ (i : Int) := by omega
   have i1 : (i : Int) < (R.length : Int) := by omega
   have i2 : (i : Int) ≤ 1000000 := by omega
   obtain ⟨hll, g, off, rfl, c0, c1, c2⟩ := (H.out.below (B := 0) hbw.out).cells i hlt
   clear hll c0
   have hmem : R.getD i (0, 0, 0) ∈ R := by rw [show R.getD i (0, 0, 0) = R[i] by simp [List.getD, hlt]]; exact List.getElem_mem hlt
   have hx := HS.out _ hmem
   have hall' : Forks.inX b (R.getD i (0, 0, 0)) = false → Hid (∀ k, k < i + 1 → Forks.inX b (R.getD k (0, 0, 0)) = false) := fun hf => hid (fun k hk => by
    rcases Nat.lt_or_ge k i with h | h
    ·exact hall.out k h
    ·obtain rfl : k = i := by omega
     exact hf)
   have hyes : Forks.inX b (R.getD i (0, 0, 0)) = true → r = true := fun hf => by rw [← HR.out]; exact List.any_eq_true.2 ⟨_, hmem, hf⟩
   generalize R.getD i (0, 0, 0) = x at *
   obtain ⟨xa, xb, xc⟩ := x
   unfold Forks.inX at hall' hyes
   dsimp only at *
   obtain ⟨x1, x2, x3, x4⟩ := hx
   have hsum : IntKind.i64.wrap (xb + xc) = xb + xc := IntWalk.i64_in _ (by omega)
   by_cases g1 : xb ≤ b
   ·have d1 : decide (xb ≤ b) = true := decide_eq_true g1
    by_cases g2 : b < xb + xc
    ·have d2 : decide (b < xb + xc) = true := decide_eq_true g2
     have hy : Hid (r = true) := hid (hyes (by rw [d1, decide_eq_true (show b - xb < xc by omega)]; rfl))
     clear hall' hyes hmem
     go_wp2_with fail
     go_quiet (fail)
     have B2 := hid (Below.drewN' hbw.out nq)
     go_wp2_with fail
     go_ret
     exact ⟨by rw [hy.out]; rfl, B2.out⟩
    ·have d2 : decide (b < xb + xc) = false := decide_eq_false g2
     have hn := hall' (by rw [d1, decide_eq_false (show ¬ b - xb < xc by omega)]; rfl)
     clear hall' hyes hmem
     go_wp2_with fail
     go_quiet (fail)
     have B2 := hid (Below.drewN' hbw.out nq)
     go_wp2_with fail
     go_roundw
     case rel => exact ⟨i + 1, by omega, by go_num, hn, B2⟩
     case measure => simp [intOf]; omega
   ·have d1 : decide (xb ≤ b) = false := decide_eq_false g1
    have hn := hall' (by rw [d1]; rfl)
    clear hall' hyes hmem
    go_wp2_with fail
    go_quiet (fail)
    have B2 := hid (Below.drewN' hbw.out nq)
    go_wp2_with fail
    go_roundw
    case rel => exact ⟨i + 1, by omega, by go_num, hn, B2⟩
    case measure => simp [intOf]; omega
  ·obtain rfl : i = R.length := by omega
   have hy : Hid (r = false) := hid (by
    rw [← HR.out]
    unfold Forks.taken
    rw [List.any_eq_false]
    intro x hx
    obtain ⟨k, hk, rfl⟩ := List.mem_iff_getElem.1 hx
    have := hall.out k hk
    rw [show R.getD k (0, 0, 0) = R[k] by simp [List.getD, hk]] at this
    rw [this]
    decide)
   go_wp2_with fail
   go_ret
   exact ⟨by rw [hy.out]; rfl, hbw.out⟩
set_option maxHeartbeats 2000000 in
theorem rroot_any (depth : Int) (hd : -9223372036854775808 ≤ depth ∧ depth ≤ 9223372036854775807) (v : Value) (root : EL) (w : World) (hs : SmallsE root) (h : ExtsAt w v root) (hl : root.length ≤ 1000000000) :
  Calls Tryz.prog 50 #[.int .i64 depth, v] w fun e w' => e = .returned (.bool (decide (Forks.RootOk depth root))) ∧ Below w.heap.size w w' := by
 have q := hid (fun leaf => xrow2_any leaf v root w hs h hl)
 obtain ⟨ad, cap, rfl⟩ := h.form
 clear h
 by_cases k1 : 0 ≤ depth
 case neg =>
  rw [decide_eq_false (fun h : Forks.RootOk depth root => k1 h.1)]
  go_enter Tryz.func50, Tryz.ntmps50
  go_wp2_with fail
  go_ret
  exact ⟨rfl, Below.refl _ _⟩
 by_cases k2 : depth ≤ 4
 case neg =>
  rw [decide_eq_false (fun h : Forks.RootOk depth root => k2 h.2.1)]
  go_enter Tryz.func50, Tryz.ntmps50
  go_wp2_with fail
  go_ret
  exact ⟨rfl, Below.refl _ _⟩
 by_cases k3 : (root.length : Int) ≤ 4
 case neg =>
  rw [decide_eq_false (fun h : Forks.RootOk depth root => k3 (by have := h.2.2.1; omega))]
  go_enter Tryz.func50, Tryz.ntmps50
  go_wp2_with fail
  go_ret
  exact ⟨rfl, Below.refl _ _⟩
 by_cases k4 : depth = 0
 ·subst k4
  have q0 := hid (q.out true)
  have hR : decide (Forks.RootOk 0 root) = Ents.okTo true root root.length := by
   rw [Bool.eq_iff_iff, decide_eq_true_eq]
   exact ⟨fun h => h.2.2.2.2, fun h => ⟨by omega, by omega, by omega, fun h => by omega, h⟩⟩
  rw [hR]
  clear q hR
  generalize Ents.okTo true root root.length = r at *
  go_enter Tryz.func50, Tryz.ntmps50
  go_wp2_with fail
  refine q0.out.mono ?_
  rintro e w1 ⟨rfl, b1⟩
  have B1 := hid b1
  clear b1 q0
  go_wp2_with fail
  go_ret
  exact ⟨rfl, B1.out⟩
 ·have hk4 : (depth == 0) = false := by rw [beq_eq_false_iff_ne]; exact k4
  by_cases k5 : 0 < (root.length : Int)
  case neg =>
   rw [decide_eq_false (fun h : Forks.RootOk depth root => h.2.2.2.1 (by omega) (by omega))]
   clear k4
   go_enter Tryz.func50, Tryz.ntmps50
   go_wp2_with fail
   go_ret
   exact ⟨rfl, Below.refl _ _⟩
  have q0 := hid (q.out false)
  have hR : decide (Forks.RootOk depth root) = Ents.okTo false root root.length := by
   rw [Bool.eq_iff_iff, decide_eq_true_eq]
   unfold Forks.RootOk Ents.Row
   rw [hk4]
   exact ⟨fun h => h.2.2.2.2, fun h => ⟨by omega, by omega, by omega, fun _ => by omega, h⟩⟩
  rw [hR]
  clear q hR k4
  generalize Ents.okTo false root root.length = r at *
  go_enter Tryz.func50, Tryz.ntmps50
  go_wp2_with fail
  refine q0.out.mono ?_
  rintro e w1 ⟨rfl, b1⟩
  have B1 := hid b1
  clear b1 q0
  go_wp2_with fail
  go_ret
  exact ⟨rfl, B1.out⟩
theorem meets_vis {v : Forks.V} (hg : Forks.Good v) (R : EL) : Forks.meets v R = (visB v).any fun b => Forks.taken R b := by
 unfold Forks.meets Forks.nodes visB
 rw [Bool.eq_iff_iff, List.any_eq_true, List.any_eq_true]
 constructor
 ·rintro ⟨b, hb, h⟩
  obtain ⟨x, hx, e⟩ := List.any_eq_true.1 (List.mem_filter.1 hb).2
  rw [beq_iff_eq] at e
  exact ⟨_, List.mem_map.2 ⟨x, hx, rfl⟩, by rw [e]; exact h⟩
 ·rintro ⟨b, hb, h⟩
  obtain ⟨x, hx, rfl⟩ := List.mem_map.1 hb
  refine ⟨x.b, List.mem_filter.2 ⟨List.mem_range.2 (by have := hg.blk x hx; omega), List.any_eq_true.2 ⟨x, hx, by simp⟩⟩, h⟩
theorem row_bounds {R : EL} (h : Exts.okTo R R.length = true) : ∀ x ∈ R, 1 ≤ x.2.1 ∧ x.2.1 ≤ 4095 ∧ 1 ≤ x.2.2 ∧ x.2.2 ≤ 4096 := fun x hx => by
 have := (Exts.check_row.1 h).may x hx
 unfold Exts.may at this
 omega
def walkE (v : Forks.V) (R : EL) : Except Int (Forks.V × EL) := if Ents.Row true R ∧ Forks.meets v R = false then .ok (v, R) else .error 80
theorem walkE_no {v : Forks.V} {R : EL} (h : Exts.okTo R R.length = false) : walkE v R = .error 80 := if_neg (fun h' => by
 have := h'.1; unfold Ents.Row at this; rw [Ents.okTo_leaf, h] at this; cases this)
theorem walkE_meets {v : Forks.V} {R : EL} (h : Forks.meets v R = true) : walkE v R = .error 80 := if_neg (fun h' => by rw [h] at h'; cases h'.2)
theorem walkE_ok {v : Forks.V} {R : EL} (h : Exts.okTo R R.length = true) (hm : Forks.meets v R = false) : walkE v R = .ok (v, R) := if_pos ⟨by unfold Ents.Row; rw [Ents.okTo_leaf]; exact h, hm⟩
theorem walkT_zeroE (d : Forks.Disk) (root : EL) (hok : Forks.RootOk 0 root) : Forks.walkT d 0 root = walkE [] root := walkT_zero d root hok
theorem walkT_posE (d : Forks.Disk) (n : Nat) (root : EL) (hok : Forks.RootOk n root) (hn : n ≠ 0) : Forks.walkT d n root = match Forks.allW d n root [] with
  | .error k => .error k
  | .ok v => walkE v (Forks.rowV v) := walkT_pos d n root hok hn
set_option maxRecDepth 100000 in
set_option maxHeartbeats 8000000 in
theorem rWalk_any (D cD : Nat) (L : List ByteArray) (bad depth : Int) (hd : -9223372036854775808 ≤ depth ∧ depth ≤ 9223372036854775807) (rvl : Value) (root : EL) (w : World) (hs : SmallsE root) (h : ExtsAt w rvl root) (hl : root.length ≤ 1000000000) (hT : TextsAt w.heap.size D w L) (hds : ∀ b s, (⟨L, bad⟩ : Forks.Disk).rd b = some s → s.size ≤ 140737488351232) :
  Calls Tryz.prog 21 #[.int .i64 depth, rvl, .agg #[.slice (some ⟨D, 0, none⟩) 4096 cD, .int .i64 bad]] w (WalkTold w (Forks.walkT ⟨L, bad⟩ depth root)) := by
 have bA : Below w.heap.size w (w.alloc (.cells #[.slice (some ⟨D, 0, none⟩) 4096 cD, .int .i64 bad] 50)) := (Below.refl _ _).alloc (Nat.le_refl _) _
 have x0 := heap_alloc_new w (.cells #[.slice (some ⟨D, 0, none⟩) 4096 cD, .int .i64 bad] 50)
 have q := hid (rroot_any depth hd rvl root _ hs (h.below (B := 0) bA) hl)
 have H := hid h
 have HS := hid hs
 have HT := hid hT
 have HDS := hid hds
 have BA := hid bA
 obtain ⟨ar, cr, rfl⟩ := h.form
 clear h bA hT hs hds
 by_cases hok : Forks.RootOk depth root
 case neg =>
  have hr : Hid (Forks.walkT ⟨L, bad⟩ depth root = .error 80) := hid (by unfold Forks.walkT; rw [if_pos hok])
  rw [decide_eq_false hok] at q
  have F : Hid (∀ w', Below w.heap.size w w' → WalkTold w (Forks.walkT ⟨L, bad⟩ depth root) (.returned (.tuple #[.slice none 0 0, .slice none 0 0, .int .i64 80])) w') := hid (fun w' hb => by rw [hr.out]; exact ⟨hb, rfl, by decide⟩)
  clear hok x0
  go_enter Tryz.func21, Tryz.ntmps21
  go_wp2_with fail
  refine q.out.mono ?_
  rintro e w1 ⟨rfl, b1⟩
  have F1 := hid (F.out _ (BA.out.trans (b1.mono BA.out.size)))
  clear b1 q
  go_wp2_with fail
  go_ret3
  exact F1.out
 case pos =>
 rw [decide_eq_true hok] at q
 obtain ⟨n, rfl⟩ : ∃ n : Nat, depth = (n : Int) := ⟨depth.toNat, by have := hok.1; omega⟩
 have hn4 : n ≤ 4 := by have := hok.2.1; omega
 have hrl : root.length ≤ 4 := hok.2.2.1
 have HOK := hid hok
 clear hok
 go_enter Tryz.func21, Tryz.ntmps21
 go_wp2_with fail
 refine q.out.mono ?_
 rintro e w1 ⟨rfl, b1⟩
 have B1 := hid (BA.out.trans (b1.mono BA.out.size))
 have x1 := (b1.block _ (lt_of_block x0)).trans x0
 have y0 := cell_of_row _ _ 0 _ _ _ x1
 have y1 := cell_of_row _ _ 1 _ _ _ x1
 have hz1 := B1.out.size
 clear b1 q x0
 have RW0 := hid (show RW w.heap.size w1.heap.size D cD bad (w1.alloc (.cells #[.slice (some ⟨D, 0, none⟩) 4096 cD, .int .i64 bad, .slice none 0 0, .slice none 0 0] 114)) (.slice none 0 0) (.slice none 0 0) [] [] from ⟨heap_alloc_new _ _, World.ownsRow_nil _ _ _ _, World.ownsRow_nil _ _ _ _, hz1⟩)
 have B2 : Hid (Below w.heap.size w (w1.alloc (.cells #[.slice (some ⟨D, 0, none⟩) 4096 cD, .int .i64 bad, .slice none 0 0, .slice none 0 0] 114))) := hid (B1.out.alloc hz1 _)
 have hEV : Hid (∀ wz, Below w.heap.size (w1.alloc (.cells #[.slice (some ⟨D, 0, none⟩) 4096 cD, .int .i64 bad, .slice none 0 0, .slice none 0 0] 114)) wz → ExtsAt wz (.slice ar root.length cr) root) := hid (fun wz hz => H.out.below (B := 0) (B2.out.trans hz))
 by_cases hn0 : n = 0
 ·subst hn0
  have HWE := hid (walkT_zeroE ⟨L, bad⟩ root HOK.out)
  have qa := hid (radd_any RW0.out (.slice ar root.length cr) root (fun wz hz _ => hEV.out wz hz) (by simp; omega) (by simp; omega))
  go_wp2_with fail
  refine qa.out.mono ?_
  rintro e w3 ⟨rfl, ⟨rv3, h3⟩, b3, -⟩
  have RWt := hid h3
  rw [List.nil_append] at RWt
  have Bt := hid (B2.out.trans b3)
  have HSM := HS
  have hRl0 : root.length ≤ 1000000 := by omega
  have HG := hid Forks.Good.nil
  clear qa h3 b3 RW0 B2 hEV y0 y1 x1
  obtain ⟨R, hR⟩ : ∃ R, root = R := ⟨_, rfl⟩
  have HWE2 : Hid (Forks.walkT ⟨L, bad⟩ ((0 : Nat) : Int) root = walkE [] R) := hid (by rw [← hR]; exact HWE.out)
  rw [hR] at RWt HSM hRl0
  clear HWE hR
  have HWE := HWE2
  clear HWE2
  obtain ⟨V, hV⟩ : ∃ V : Forks.V, [] = V := ⟨_, rfl⟩
  rw [hV] at HWE HG
  have RWt2 : Hid (RW w.heap.size w1.heap.size D cD bad w3 (.slice none 0 0) rv3 (visB V) R) := hid (by rw [← hV]; exact RWt.out)
  clear RWt hV
  have RWt := RWt2
  clear RWt2
  obtain ⟨cx0, cx1, cx2, cx3⟩ := RWt.out.cellX
  have zX := RWt.out.lt
  have hRl : R.length ≤ 1000000 := hRl0
  have qc := hid (echeck2_any _ R _ HSM.out (OwnExts.at RWt.out.row) hRl)
  obtain ⟨ad, cd, rfl⟩ := RWt.out.row.slice
  obtain ⟨an, cn, hnv⟩ := RWt.out.nodes.slice
  rw [hnv] at RWt cx2
  clear hnv
  have F80 : Hid (∀ w', Below w.heap.size w w' → walkE V R = .error 80 → WalkTold w (Forks.walkT ⟨L, bad⟩ ((0 : Nat) : Int) root) (.returned (.tuple #[.slice none 0 0, .slice none 0 0, .int .i64 80])) w') := hid (fun w' hb he => by rw [HWE.out, he]; exact ⟨hb, rfl, by decide⟩)
  clear cx0 cx1
  go_wp2_with fail
  refine qc.out.mono ?_
  rintro e w4 ⟨rfl, b4⟩
  have RW4 := hid (RWt.out.below b4)
  have B4 := hid (Bt.out.trans (b4.mono Bt.out.size))
  clear b4 qc cx2 cx3 zX RWt Bt
  cases hck : Exts.okTo R R.length with
  | false =>
   have F1 := hid (F80.out _ B4.out (walkE_no hck))
   clear hck
   go_wp2_with fail
   go_ret3
   exact F1.out
  | true =>
   have HCK := hid hck
   have HBN := hid (row_bounds hck)
   clear hck
   have hvl4 : (visB V).length ≤ 4096 := by rw [visB_len]; exact HG.out.len
   generalize hN : (visB V).length = nn at *
   have HN := hid hN
   clear hN
   go_wp2_with fail
   go_loopw [11] (fun q wr => ∃ i : Nat, i ≤ nn ∧ q = .int .i64 i ∧ Hid (∀ k, k < i → Forks.taken R ((visB V).getD k 0) = false) ∧ Hid (RW w.heap.size w1.heap.size D cD bad wr (.slice an nn cn) (.slice ad R.length cd) (visB V) R) ∧ Hid (Below w.heap.size w wr)) (fun q _ => nn - (intOf q).toNat)
   case atStart => exact ⟨0, by omega, rfl, hid (fun k hk => absurd hk (Nat.not_lt_zero _)), RW4, B4⟩
   case round =>
    clear RW4 B4
    obtain ⟨i, hi, rfl, hall, hrw, hb⟩ := hrel
    obtain ⟨-, -, cx2, cx3⟩ := hrw.out.cellX
    have zX := hrw.out.lt
    by_cases hlt : i < nn
    ·have i0 : (0 : Int) ≤ (i : Int) := by omega
     have i1 : (i : Int) < (nn : Int) := by omega
     have i2 : (i : Int) ≤ 1000000 := by omega
     obtain ⟨g, off, rfl, c0⟩ := (OwnInts.at hrw.out.nodes).cells i (by have := HN.out; omega)
     have hbv : Hid (0 ≤ (visB V).getD i 0 ∧ (visB V).getD i 0 ≤ 1000000) := hid (by
      have hiv : i < V.length := by rw [← visB_len]; have := HN.out; omega
      rw [visB_at _ i hiv]
      have := HG.out.blk _ (List.getElem_mem hiv)
      omega)
     have hall' : Hid (Forks.taken R ((visB V).getD i 0) = false → ∀ k, k < i + 1 → Forks.taken R ((visB V).getD k 0) = false) := hid (fun hf k hk => by
      rcases Nat.lt_or_ge k i with h | h
      ·exact hall.out k h
      ·obtain rfl : k = i := by omega
       exact hf)
     have hyes : Hid (Forks.taken R ((visB V).getD i 0) = true → walkE V R = .error 80) := hid (fun hf => walkE_meets (by
      rw [meets_vis HG.out, List.any_eq_true]
      have hiv : i < (visB V).length := by have := HN.out; omega
      refine ⟨(visB V)[i], List.getElem_mem hiv, ?_⟩
      rw [show (visB V).getD i 0 = (visB V)[i] by simp [List.getD, hiv]] at hf
      exact hf))
     have z0 : g < wr.heap.size := World.block_lt_of_cell? _ _ c0
     generalize (visB V).getD i 0 = y at *
     have KEEP : Hid (∀ wz, Below wr.heap.size wr wz → wz.cell? ⟨w1.heap.size, 2, none⟩ = some (.slice (some ⟨g, off, none⟩) nn cn) ∧ wz.cell? ⟨w1.heap.size, 3, none⟩ = some (.slice ad R.length cd) ∧ wz.cell? ⟨g, off + i, none⟩ = some (.int .i64 y)) := hid (fun wz hz => ⟨(hz.cell (p := ⟨w1.heap.size, 2, none⟩) zX).trans cx2, (hz.cell (p := ⟨w1.heap.size, 3, none⟩) zX).trans cx3, (hz.cell (p := ⟨g, off + i, none⟩) z0).trans c0⟩)
     have b0 : Below wr.heap.size wr wr.drew := (Below.refl _ _).drew
     have qt := hid (fun r (hr : Forks.taken R y = r) wz (hz : Below wr.heap.size wr wz) => rtaken_any (.slice ad R.length cd) R wz (OwnExts.at (hrw.out.below hz).row) HBN.out hRl y hbv.out r hr)
     clear c0 hall
     cases htk : Forks.taken R y with
     | true =>
      have qt1 := hid (qt.out true htk)
      have F1 := hid (hyes.out htk)
      clear htk qt hall' hyes
      go_upto_region 14 with fail
      go_region_held3 (fun w' => w'.cell? ⟨w1.heap.size, 2, none⟩ = some (.slice (some ⟨g, off, none⟩) nn cn) ∧ w'.cell? ⟨w1.heap.size, 3, none⟩ = some (.slice ad R.length cd) ∧ w'.cell? ⟨g, off + i, none⟩ = some (.int .i64 y))
       (first | (refine KEEP.out _ ?_; assumption) | fail "no S")
       (first | (go_at_call 54; (with_reducible refine (qt1.out _ b0).mono ?_); rintro e w5 ⟨rfl, b5⟩; have s5 : Below wr.heap.size wr w5 := b0.trans (b5.mono b0.size)) | fail "none")
      have F2 := hid (F80.out _ (hb.out.trans (s5.mono hb.out.size)) F1.out)
      go_wp2_with fail
      go_ret3
      exact F2.out
     | false =>
      have qt1 := hid (qt.out false htk)
      have H1 := hid (hall'.out htk)
      clear htk qt hall' hyes
      go_upto_region 14 with fail
      go_region_held3 (fun w' => w'.cell? ⟨w1.heap.size, 2, none⟩ = some (.slice (some ⟨g, off, none⟩) nn cn) ∧ w'.cell? ⟨w1.heap.size, 3, none⟩ = some (.slice ad R.length cd) ∧ w'.cell? ⟨g, off + i, none⟩ = some (.int .i64 y))
       (first | (refine KEEP.out _ ?_; assumption) | fail "no S")
       (first | (go_at_call 54; (with_reducible refine (qt1.out _ b0).mono ?_); rintro e w5 ⟨rfl, b5⟩; have s5 : Below wr.heap.size wr w5 := b0.trans (b5.mono b0.size)) | fail "none")
      have R5 := hid (hrw.out.below s5)
      have B5 := hid (hb.out.trans (s5.mono hb.out.size))
      go_wp2_with fail
      go_roundw
      case rel => exact ⟨i + 1, by omega, by go_num, H1, R5, B5⟩
      case measure => simp [intOf]; omega
    ·obtain rfl : i = nn := by omega
     have hme : Hid (walkE V R = .ok (V, R)) := hid (walkE_ok HCK.out (by
      rw [meets_vis HG.out, List.any_eq_false]
      intro b hb' ht
      obtain ⟨k, hk, rfl⟩ := List.mem_iff_getElem.1 hb'
      have := hall.out k (by have := HN.out; omega)
      rw [show (visB V).getD k 0 = (visB V)[k] by simp [List.getD, hk], ht] at this
      cases this))
     have KEEP : Hid (∀ wz, Below wr.heap.size wr wz → wz.cell? ⟨w1.heap.size, 2, none⟩ = some (.slice an i cn) ∧ wz.cell? ⟨w1.heap.size, 3, none⟩ = some (.slice ad R.length cd)) := hid (fun wz hz => ⟨(hz.cell (p := ⟨w1.heap.size, 2, none⟩) zX).trans cx2, (hz.cell (p := ⟨w1.heap.size, 3, none⟩) zX).trans cx3⟩)
     have b0 : Below wr.heap.size wr wr.drew := (Below.refl _ _).drew
     have qr := hid (fun wz (hz : Below wr.heap.size wr wz) => rrising_any (.slice an i cn) (visB V) wz (by have := OwnInts.at (hrw.out.below hz).nodes; exact this) (by have := HN.out; omega))
     have FOK : Hid (∀ wz u, Below wr.heap.size wr wz → OwnInts wr.heap.size wz u (riseT (visB V) 4096) → WalkTold w (Forks.walkT ⟨L, bad⟩ ((0 : Nat) : Int) root) (.returned (.tuple #[.slice ad R.length cd, u, .int .i64 0])) wz) := hid (fun wz u hz ho => by
      rw [HWE.out, hme.out]
      exact ⟨hb.out.trans (hz.mono hb.out.size), _, _, rfl, (hrw.out.below hz).row, by rw [← rise_nodes]; exact ho.mono hb.out.size, HG.out⟩)
     clear hall
     go_upto_region 16 with fail
     go_region_held3 (fun w' => w'.cell? ⟨w1.heap.size, 2, none⟩ = some (.slice an i cn) ∧ w'.cell? ⟨w1.heap.size, 3, none⟩ = some (.slice ad R.length cd))
      (first | (refine KEEP.out _ ?_; assumption) | fail "no S")
      (first | (go_at_call 55; (with_reducible refine (qr.out _ b0).mono ?_); rintro e w5 ⟨u5, rfl, o5, b5⟩; have s5 : Below wr.heap.size wr w5 := b0.trans (b5.mono b0.size); obtain ⟨a5, c5, rfl⟩ := OwnInts.slice o5) | fail "none")
     all_goals
      have F5 := hid (FOK.out _ _ s5 o5)
      go_wp2_with fail
      go_ret3
      exact F5.out
 ·obtain ⟨k, rfl⟩ : ∃ k, n = k + 1 := ⟨n - 1, by omega⟩
  have hk4 : k < 4 := by omega
  have HWE0 := hid (walkT_posE ⟨L, bad⟩ (k + 1) root HOK.out hn0)
  have hrow : Hid (∀ x ∈ root, Ents.may false x = true) := hid (by
   have := HOK.out.2.2.2.2
   rw [show ((((k + 1 : Nat) : Int)) == 0) = false by rw [beq_eq_false_iff_ne]; omega] at this
   exact fun x hx => this.may x hx)
  have qa := hid (rwalk_any HDS.out k (w1.alloc (.cells #[.slice (some ⟨D, 0, none⟩) 4096 cD, .int .i64 bad, .slice none 0 0, .slice none 0 0] 114)) [] (.slice ar root.length cr) root hk4 ⟨_, _, RW0.out⟩ Forks.Good.nil (HT.out.below B2.out) (by simp; omega) (fun wz hz _ => hEV.out wz hz) hrow.out (by omega))
  have hdc : (((k + 1 : Nat) : Int) == 0) = false := by rw [beq_eq_false_iff_ne]; omega
  have hcast : ((k + 1 : Nat) : Int) = (k : Int) + 1 := by omega
  rw [hcast] at hdc ⊢
  rw [hcast] at HWE0
  have hk1 : ((k : Int) + 1) ≤ 4 := by omega
  clear hcast hn0
  go_wp2_with fail
  refine qa.out.mono ?_
  rintro e w3 h3
  cases hal : Forks.allW ⟨L, bad⟩ (k + 1) root [] with
  | error q =>
   rw [hal] at h3 HWE0
   obtain ⟨b3, -, rfl, hq⟩ := h3
   have hqb : (q != 0) = true := by rw [bne_iff_ne]; exact hq
   have F1 : Hid (WalkTold w (Forks.walkT ⟨L, bad⟩ ((k : Int) + 1) root) (.returned (.tuple #[.slice none 0 0, .slice none 0 0, .int .i64 q])) w3) := hid (by rw [HWE0.out]; exact ⟨B2.out.trans b3, rfl, hq⟩)
   clear b3 hal qa HWE0
   go_wp2_with fail
   go_ret3
   exact F1.out
  | ok V =>
   rw [hal] at h3 HWE0
   obtain ⟨b3, -, rfl, ⟨nv3, rv3, h3⟩, hg3⟩ := h3
   have RWt := hid h3
   have Bt := hid (B2.out.trans b3)
   have HG := hid hg3
   have HSM := hid (rowV_smalls hg3)
   have hRl0 : (Forks.rowV V).length ≤ 1000000 := by have := hg3.row_len; omega
   have HWE : Hid (Forks.walkT ⟨L, bad⟩ ((k : Int) + 1) root = walkE V (Forks.rowV V)) := hid HWE0.out
   clear qa h3 b3 RW0 B2 hEV y0 y1 x1 hal HWE0 hg3
   generalize Forks.rowV V = R at *
   obtain ⟨cx0, cx1, cx2, cx3⟩ := RWt.out.cellX
   have zX := RWt.out.lt
   have hRl : R.length ≤ 1000000 := hRl0
   have qc := hid (echeck2_any _ R _ HSM.out (OwnExts.at RWt.out.row) hRl)
   obtain ⟨ad, cd, rfl⟩ := RWt.out.row.slice
   obtain ⟨an, cn, hnv⟩ := RWt.out.nodes.slice
   rw [hnv] at RWt cx2
   clear hnv
   have F80 : Hid (∀ w', Below w.heap.size w w' → walkE V R = .error 80 → WalkTold w (Forks.walkT ⟨L, bad⟩ ((k : Int) + 1) root) (.returned (.tuple #[.slice none 0 0, .slice none 0 0, .int .i64 80])) w') := hid (fun w' hb he => by rw [HWE.out, he]; exact ⟨hb, rfl, by decide⟩)
   clear cx0 cx1
   go_wp2_with fail
   refine qc.out.mono ?_
   rintro e w4 ⟨rfl, b4⟩
   have RW4 := hid (RWt.out.below b4)
   have B4 := hid (Bt.out.trans (b4.mono Bt.out.size))
   clear b4 qc cx2 cx3 zX RWt Bt
   cases hck : Exts.okTo R R.length with
   | false =>
    have F1 := hid (F80.out _ B4.out (walkE_no hck))
    clear hck
    go_wp2_with fail
    go_ret3
    exact F1.out
   | true =>
    have HCK := hid hck
    have HBN := hid (row_bounds hck)
    clear hck
    have hvl4 : (visB V).length ≤ 4096 := by rw [visB_len]; exact HG.out.len
    generalize hN : (visB V).length = nn at *
    have HN := hid hN
    clear hN
    go_wp2_with fail
    go_loopw [11] (fun q wr => ∃ i : Nat, i ≤ nn ∧ q = .int .i64 i ∧ Hid (∀ k, k < i → Forks.taken R ((visB V).getD k 0) = false) ∧ Hid (RW w.heap.size w1.heap.size D cD bad wr (.slice an nn cn) (.slice ad R.length cd) (visB V) R) ∧ Hid (Below w.heap.size w wr)) (fun q _ => nn - (intOf q).toNat)
    case atStart => exact ⟨0, by omega, rfl, hid (fun k hk => absurd hk (Nat.not_lt_zero _)), RW4, B4⟩
    case round =>
     clear RW4 B4
     obtain ⟨i, hi, rfl, hall, hrw, hb⟩ := hrel
     obtain ⟨-, -, cx2, cx3⟩ := hrw.out.cellX
     have zX := hrw.out.lt
     by_cases hlt : i < nn
     ·have i0 : (0 : Int) ≤ (i : Int) := by omega
      have i1 : (i : Int) < (nn : Int) := by omega
      have i2 : (i : Int) ≤ 1000000 := by omega
      obtain ⟨g, off, rfl, c0⟩ := (OwnInts.at hrw.out.nodes).cells i (by have := HN.out; omega)
      have hbv : Hid (0 ≤ (visB V).getD i 0 ∧ (visB V).getD i 0 ≤ 1000000) := hid (by
       have hiv : i < V.length := by rw [← visB_len]; have := HN.out; omega
       rw [visB_at _ i hiv]
       have := HG.out.blk _ (List.getElem_mem hiv)
       omega)
      have hall' : Hid (Forks.taken R ((visB V).getD i 0) = false → ∀ k, k < i + 1 → Forks.taken R ((visB V).getD k 0) = false) := hid (fun hf k hk => by
       rcases Nat.lt_or_ge k i with h | h
       ·exact hall.out k h
       ·obtain rfl : k = i := by omega
        exact hf)
      have hyes : Hid (Forks.taken R ((visB V).getD i 0) = true → walkE V R = .error 80) := hid (fun hf => walkE_meets (by
       rw [meets_vis HG.out, List.any_eq_true]
       have hiv : i < (visB V).length := by have := HN.out; omega
       refine ⟨(visB V)[i], List.getElem_mem hiv, ?_⟩
       rw [show (visB V).getD i 0 = (visB V)[i] by simp [List.getD, hiv]] at hf
       exact hf))
      have z0 : g < wr.heap.size := World.block_lt_of_cell? _ _ c0
      generalize (visB V).getD i 0 = y at *
      have KEEP : Hid (∀ wz, Below wr.heap.size wr wz → wz.cell? ⟨w1.heap.size, 2, none⟩ = some (.slice (some ⟨g, off, none⟩) nn cn) ∧ wz.cell? ⟨w1.heap.size, 3, none⟩ = some (.slice ad R.length cd) ∧ wz.cell? ⟨g, off + i, none⟩ = some (.int .i64 y)) := hid (fun wz hz => ⟨(hz.cell (p := ⟨w1.heap.size, 2, none⟩) zX).trans cx2, (hz.cell (p := ⟨w1.heap.size, 3, none⟩) zX).trans cx3, (hz.cell (p := ⟨g, off + i, none⟩) z0).trans c0⟩)
      have b0 : Below wr.heap.size wr wr.drew := (Below.refl _ _).drew
      have qt := hid (fun r (hr : Forks.taken R y = r) wz (hz : Below wr.heap.size wr wz) => rtaken_any (.slice ad R.length cd) R wz (OwnExts.at (hrw.out.below hz).row) HBN.out hRl y hbv.out r hr)
      clear c0 hall
      cases htk : Forks.taken R y with
      | true =>
       have qt1 := hid (qt.out true htk)
       have F1 := hid (hyes.out htk)
       clear htk qt hall' hyes
       go_upto_region 14 with fail
       go_region_held3 (fun w' => w'.cell? ⟨w1.heap.size, 2, none⟩ = some (.slice (some ⟨g, off, none⟩) nn cn) ∧ w'.cell? ⟨w1.heap.size, 3, none⟩ = some (.slice ad R.length cd) ∧ w'.cell? ⟨g, off + i, none⟩ = some (.int .i64 y))
        (first | (refine KEEP.out _ ?_; assumption) | fail "no S")
        (first | (go_at_call 54; (with_reducible refine (qt1.out _ b0).mono ?_); rintro e w5 ⟨rfl, b5⟩; have s5 : Below wr.heap.size wr w5 := b0.trans (b5.mono b0.size)) | fail "none")
       have F2 := hid (F80.out _ (hb.out.trans (s5.mono hb.out.size)) F1.out)
       go_wp2_with fail
       go_ret3
       exact F2.out
      | false =>
       have qt1 := hid (qt.out false htk)
       have H1 := hid (hall'.out htk)
       clear htk qt hall' hyes
       go_upto_region 14 with fail
       go_region_held3 (fun w' => w'.cell? ⟨w1.heap.size, 2, none⟩ = some (.slice (some ⟨g, off, none⟩) nn cn) ∧ w'.cell? ⟨w1.heap.size, 3, none⟩ = some (.slice ad R.length cd) ∧ w'.cell? ⟨g, off + i, none⟩ = some (.int .i64 y))
        (first | (refine KEEP.out _ ?_; assumption) | fail "no S")
        (first | (go_at_call 54; (with_reducible refine (qt1.out _ b0).mono ?_); rintro e w5 ⟨rfl, b5⟩; have s5 : Below wr.heap.size wr w5 := b0.trans (b5.mono b0.size)) | fail "none")
       have R5 := hid (hrw.out.below s5)
       have B5 := hid (hb.out.trans (s5.mono hb.out.size))
       go_wp2_with fail
       go_roundw
       case rel => exact ⟨i + 1, by omega, by go_num, H1, R5, B5⟩
       case measure => simp [intOf]; omega
     ·obtain rfl : i = nn := by omega
      have hme : Hid (walkE V R = .ok (V, R)) := hid (walkE_ok HCK.out (by
       rw [meets_vis HG.out, List.any_eq_false]
       intro b hb' ht
       obtain ⟨k, hk, rfl⟩ := List.mem_iff_getElem.1 hb'
       have := hall.out k (by have := HN.out; omega)
       rw [show (visB V).getD k 0 = (visB V)[k] by simp [List.getD, hk], ht] at this
       cases this))
      have KEEP : Hid (∀ wz, Below wr.heap.size wr wz → wz.cell? ⟨w1.heap.size, 2, none⟩ = some (.slice an i cn) ∧ wz.cell? ⟨w1.heap.size, 3, none⟩ = some (.slice ad R.length cd)) := hid (fun wz hz => ⟨(hz.cell (p := ⟨w1.heap.size, 2, none⟩) zX).trans cx2, (hz.cell (p := ⟨w1.heap.size, 3, none⟩) zX).trans cx3⟩)
      have b0 : Below wr.heap.size wr wr.drew := (Below.refl _ _).drew
      have qr := hid (fun wz (hz : Below wr.heap.size wr wz) => rrising_any (.slice an i cn) (visB V) wz (by have := OwnInts.at (hrw.out.below hz).nodes; exact this) (by have := HN.out; omega))
      have FOK : Hid (∀ wz u, Below wr.heap.size wr wz → OwnInts wr.heap.size wz u (riseT (visB V) 4096) → WalkTold w (Forks.walkT ⟨L, bad⟩ ((k : Int) + 1) root) (.returned (.tuple #[.slice ad R.length cd, u, .int .i64 0])) wz) := hid (fun wz u hz ho => by
       rw [HWE.out, hme.out]
       exact ⟨hb.out.trans (hz.mono hb.out.size), _, _, rfl, (hrw.out.below hz).row, by rw [← rise_nodes]; exact ho.mono hb.out.size, HG.out⟩)
      clear hall
      go_upto_region 16 with fail
      go_region_held3 (fun w' => w'.cell? ⟨w1.heap.size, 2, none⟩ = some (.slice an i cn) ∧ w'.cell? ⟨w1.heap.size, 3, none⟩ = some (.slice ad R.length cd))
       (first | (refine KEEP.out _ ?_; assumption) | fail "no S")
       (first | (go_at_call 55; (with_reducible refine (qr.out _ b0).mono ?_); rintro e w5 ⟨u5, rfl, o5, b5⟩; have s5 : Below wr.heap.size wr w5 := b0.trans (b5.mono b0.size); obtain ⟨a5, c5, rfl⟩ := OwnInts.slice o5) | fail "none")
      all_goals
       have F5 := hid (FOK.out _ _ s5 o5)
       go_wp2_with fail
       go_ret3
       exact F5.out
end Go.Proofs.YtgjmeeiejcbjfaaGreat
