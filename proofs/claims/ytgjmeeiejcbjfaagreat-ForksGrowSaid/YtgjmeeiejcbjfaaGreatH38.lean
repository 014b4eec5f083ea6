/- Trees in a world: few blocks change by a Replace. No program. -/
import Derived.Test.YtgjmeeiejcbjfaaGreatH29
import Derived.Test.YtgjmeeiejcbjfaaGreatH37
import Derived.Test.YtgjmeeiejcbjfaaGreatH05
import Derived.Test.YtgjmeeiejcbjfaaGreatH35
import Derived.Deep.DeepCutAuto
import Derived.Test.YtgjmeeiejcbjfaaGreatH25
import Derived.Deep.RegionLaw
set_option linter.unusedSimpArgs false
set_option linter.unusedVariables false
namespace Go.Proofs.YtgjmeeiejcbjfaaGreat.Forks
open Go.Lib (hid)
open Go Go.RowKit
theorem part_one (x : E) (a b : Int) : (Exts.part x a b).length ≤ 1 := by
 unfold Exts.part
 split <;> simp
theorem parts_pre (a : Int) : ∀ (R : EL), Exts.Row R → ∃ A B X, R = A ++ B ∧ Exts.parts R 0 a = A ++ X ∧ X.length ≤ 1 ∧ (∀ y ∈ A, Exts.fin y ≤ a)
 | [], _ => ⟨[], [], [], rfl, rfl, by simp, (fun y hy => by cases hy)⟩
 | x :: R, h => by
  by_cases hx : Exts.fin x ≤ a
  ·obtain ⟨A, B, X, e1, e2, e3, e4⟩ := parts_pre a R h.2.2
   refine ⟨x :: A, B, X, by rw [e1]; rfl, ?_, e3, fun y hy => ?_⟩
   ·rw [Exts.parts_cons, Exts.part_ahead h.1 hx, e2]
    rfl
   ·rcases List.mem_cons.1 hy with rfl | hy
    ·exact hx
    ·exact e4 y hy
  ·refine ⟨[], x :: R, Exts.part x 0 a, rfl, ?_, part_one _ _ _, (fun y hy => by cases hy)⟩
   rw [Exts.parts_cons, Exts.parts_off (l := R) (fun y hy => by right; have := h.2.1 y hy; omega), List.append_nil]
   rfl
theorem parts_suf (b : Int) : ∀ (B : EL), Exts.Row B → ∃ M C Y, B = M ++ C ∧ Exts.parts B b 2048 = Y ++ C ∧ Y.length ≤ 1
 | [], _ => ⟨[], [], [], rfl, rfl, by simp⟩
 | x :: R, h => by
  by_cases h1 : b ≤ x.1
  ·refine ⟨[], x :: R, [], rfl, ?_, by simp⟩
   rw [Exts.parts_behind (fun y hy => h.may y hy) (fun y hy => ?_)]
   ·rfl
   ·rcases List.mem_cons.1 hy with rfl | hy
    ·exact h1
    ·have := h.2.1 y hy
     have hm := h.1
     unfold Exts.may at hm
     have : Exts.fin x = x.1 + x.2.2 := rfl
     omega
  ·by_cases h2 : b < Exts.fin x
   ·refine ⟨[x], R, Exts.part x b 2048, rfl, ?_, part_one _ _ _⟩
    rw [Exts.parts_cons, Exts.parts_behind (l := R) (fun y hy => h.2.2.may y hy) (fun y hy => by have := h.2.1 y hy; omega)]
   ·obtain ⟨M, C, Y, e1, e2, e3⟩ := parts_suf b R h.2.2
    refine ⟨x :: M, C, Y, by rw [e1]; rfl, ?_, e3⟩
    rw [Exts.parts_cons, Exts.part_off (.inl (by omega)), List.nil_append, e2]
theorem repl_split {R l : EL} {a b : Int} (hr : Exts.Row R) (hf : fitsT a b l = true) : ∃ A M M' C, R = A ++ M' ++ C ∧ replT R a b l = A ++ M ++ C ∧ M.length ≤ l.length + 2 := by
 obtain ⟨g1, g2, g3, g4, g5⟩ := fits_spec hf
 by_cases e : a = b
 ·refine ⟨R, [], [], [], by simp, ?_, by simp⟩
  unfold replT
  rw [if_pos e]
  simp
 ·obtain ⟨A, B, X, e1, e2, e3, e4⟩ := parts_pre a R hr
  have hB : Exts.Row B := by
   rw [e1] at hr
   exact (Exts.row_append_iff.1 hr).2.1
  obtain ⟨M', C, Y, f1, f2, f3⟩ := parts_suf b B hB
  refine ⟨A, X ++ l ++ Y, M', C, by rw [e1, f1, List.append_assoc], ?_, by simp only [List.length_append]; omega⟩
  rw [repl_eq hr g1 g2 g3 e]
  unfold Exts.changeR
  have e5 : Exts.parts R b 2048 = Y ++ C := by
   rw [e1, Exts.parts_append, Exts.parts_off (l := A) (fun y hy => by left; have := e4 y hy; omega), List.nil_append, f2]
  rw [e2, e5]
  simp
theorem shape_take (old : List (List Node)) (row : EL) : ∃ k, (shapeT old row 0).1.1 = (upOld old row 0).1.take k := by
 unfold shapeT
 dsimp only
 obtain ⟨t, ht0, ht1, -⟩ := trim_drop (upOld old row 0).1.reverse (upOld old row 0).2.1
 refine ⟨(upOld old row 0).1.length - t, ?_⟩
 rw [ht1, List.drop_reverse, List.reverse_reverse]
theorem known_same {T : IL} {l : EL} (h : ∀ x ∈ l, LeadE x) : knownT T false l = l := by
 rw [knownT_false]
 conv => rhs; rw [← List.map_id l]
 refine List.map_congr_left (fun x hx => ?_)
 have := h x hx
 unfold LeadE at this
 obtain ⟨x1, x2, x3⟩ := x
 dsimp only at this ⊢
 unfold blockT
 rw [if_neg (by omega)]
 rfl
theorem ReplW.few {us : List Bool} {L : List ByteArray} {d : Nat} {root : EL} {v : V} {R : EL} {a b : Int} {l : EL} {s : SetR} {us1 : List Bool} {D : IL} {v' : V} (h : ReplW us L d root v R a b l s us1 D v') (hW : WorldOk us L d root v R) (hf : fitsT a b l = true) (hl : l.length ≤ 29) : s.changes.length ≤ 3 * s.depth.toNat + l.length := by
 obtain ⟨hok, hrow, -⟩ := walkT_okr hW.walk
 have hg := walkT_good hW.walk
 obtain ⟨hch, hhs⟩ := walk_chain hW.walk
 have hold := lvls_ok hg d (by have := hok.2.1; omega)
 obtain ⟨A, M, M', C, r1, r2, r3⟩ := repl_split hrow hf
 obtain ⟨Ps, ⟨p1, p2⟩, p3⟩ := upOld_few (lvls v d) R (replT R a b l) A M M' C root 0 hch hold.1.fed hok.2.2.1 r1 r2
 obtain ⟨k, hk⟩ := shape_take (lvls v d) (replT R a b l)
 have hdep := h.st.depth
 have hst := h.st
 generalize hLV : (shapeT (lvls v d) (replT R a b l) 0).1.1 = LV at *
 have hlen : LV.length = min k Ps.length := by rw [hk, List.length_take, p1]
 have hget : ∀ i, ∀ n ∈ LV.getD i [], i < k ∧ n ∈ (upOld (lvls v d) (replT R a b l) 0).1.getD i [] := fun i n hn => by
  rw [hk, List.getD_eq_getElem?_getD, List.getElem?_take] at hn
  split at hn
  ·rename_i hi
   exact ⟨hi, by rw [List.getD_eq_getElem?_getD]; exact hn⟩
  ·simp at hn
 have hnew : ∀ x ∈ s.changes, x.1 ∈ ((Ps.take k).flatMap fun P => P.map fun n => (keyT (0 :: D) n : Int)) := fun x hx => by
  obtain ⟨i, n, hn, e1, e2⟩ := hst.chg x hx
  obtain ⟨hi, hn'⟩ := hget i n hn
  rcases p2 i n hn' with ho | ho
  ·exfalso
   have hid : i < d := by
    by_cases hid : i < d
    ·exact hid
    ·rw [show (lvls v d).getD i [] = [] by simp [List.getD, lvls_len, Nat.le_of_not_lt hid]] at ho
     cases ho
   rw [lvls_at v d i hid] at ho
   obtain ⟨y, hy, hyh, rfl⟩ := lvl_mem.1 ho
   have hb := hg.blk y hy
   have hkey : keyT (0 :: D) ((y.b : Int), y.l) = y.b := by
    unfold keyT blockT
    dsimp only
    rw [if_neg (by omega), Int.toNat_natCast]
   rw [hkey] at e2
   refine e2 (List.any_eq_true.2 ⟨y, hy, by simp⟩) y hy rfl ?_
   have hh : (y.h == 1) = (i == 0) := by
    rw [hyh, Bool.eq_iff_iff]
    simp
   rw [hh]
   congr 1
   cases i with
   | zero => rfl
   | succ i =>
    have henc := (hg.enc y hy).2.2
    rw [hh] at henc
    exact (known_same (row_leadE henc)).symm
  ·refine List.mem_flatMap.2 ⟨Ps.getD i [], ?_, List.mem_map.2 ⟨n, ho, e1.symm⟩⟩
   have hip : i < Ps.length := by
    by_cases hip : i < Ps.length
    ·exact hip
    ·rw [show Ps.getD i [] = [] by simp [List.getD, Nat.le_of_not_lt hip]] at ho
     cases ho
   rw [show Ps.getD i [] = Ps[i] by simp [List.getD, hip]]
   exact List.mem_iff_getElem.2 ⟨i, by rw [List.length_take]; omega, by rw [List.getElem_take]⟩
 have hcount := List.Nodup.length_le_of_subset hst.nd (l₂ := (Ps.take k).flatMap fun P => P.map fun n => (keyT (0 :: D) n : Int)) (fun c hc => by
  obtain ⟨x, hx, rfl⟩ := List.mem_map.1 hc
  exact hnew x hx)
 rw [List.length_map, List.length_flatMap] at hcount
 have ht : ((Ps.take k).map fun P => (P.map fun n => (keyT (0 :: D) n : Int)).length).sum = total (Ps.take k) := by
  unfold total
  congr 1
  refine List.map_congr_left (fun P _ => ?_)
  rw [List.length_map]
 rw [ht] at hcount
 have := few_first (by omega) p3 k
 omega
theorem low_taken {l : EL} (h : ∀ x ∈ l, x.2.1 + x.2.2 ≤ 2048) (i : Int) (hi : 2048 ≤ i) : taken l i = false := by
 unfold taken
 rw [List.any_eq_false]
 intro x hx
 have := h x hx
 unfold inX
 simp only [Bool.and_eq_true, decide_eq_true_eq]
 omega
theorem fits_mk {a b : Int} {l : EL} (h0 : 0 ≤ a) (hab : a ≤ b) (hb : b ≤ 2048) (hr : Exts.Row l) (hl : ∀ y ∈ l, a ≤ y.1 ∧ Exts.fin y ≤ b) : fitsT a b l = true := by
 unfold fitsT
 rw [decide_eq_true h0, decide_eq_true hab, decide_eq_true hb, Exts.check_row.2 hr]
 simp only [Bool.true_and, Bool.or_eq_true, Bool.and_eq_true, decide_eq_true_eq, beq_iff_eq]
 cases l with
 | nil => exact .inl rfl
 | cons x l =>
  right
  refine ⟨(hl x (by simp)).1, ?_⟩
  rcases (Exts.endR_top hr).2 with ⟨h, -⟩ | ⟨y, hy, e⟩
  ·cases h
  ·rw [← e]; exact (hl y hy).2
set_option maxRecDepth 100000 in
theorem world_none {L : List ByteArray} (hL : L.length = 4096) : WorldOk (List.replicate 4096 false) L 0 [] [] [] := by
 have hok : RootOk 0 [] := ⟨by omega, by omega, by simp, (fun h => by omega), rfl⟩
 refine ⟨?_, hL, List.length_replicate, fun b hb => ?_, (fun b _ => rfl), (fun b h => by cases h), (fun X hX => by cases hX)⟩
 ·rw [show ((0 : Nat) : Int) = 0 from rfl, walkT_zero _ _ hok, if_pos ⟨rfl, rfl⟩]
 ·rw [List.getD_eq_getElem?_getD, List.getElem?_replicate, if_pos hb]
  rfl
def ren (fr tt b : Int) : Int := if b = fr then tt else b
def isB (fr : Int) (x : E) : Bool := x.2.1 == fr
theorem count_one (fr : Int) : ∀ (L : List Node), (L.map fun n => n.1).Nodup → ((leads L).filter (isB fr)).length ≤ 1
 | [], _ => by simp [leads]
 | n :: L, h => by
  rw [List.map_cons, List.nodup_cons] at h
  show (List.filter (isB fr) (((n.2.getD 0 (0, 0, 0)).1, n.1, 0) :: leads L)).length ≤ 1
  rw [List.filter_cons]
  split
  ·rename_i hp
   have hp' : n.1 = fr := by unfold isB at hp; simpa using hp
   have : (leads L).filter (isB fr) = [] := List.filter_eq_nil_iff.2 fun y hy hq => by
    obtain ⟨m, hm, rfl⟩ := List.mem_map.1 hy
    unfold isB at hq
    simp at hq
    exact h.1 (List.mem_map.2 ⟨m, hm, by rw [hp']; exact hq⟩)
   rw [this]
   simp
  ·exact count_one fr L h.2
theorem lead_no (fr : Int) (L : List Node) (h : ∀ n ∈ L, n.1 ≠ fr) : (leads L).filter (isB fr) = [] := List.filter_eq_nil_iff.2 fun y hy hq => by
 obtain ⟨m, hm, rfl⟩ := List.mem_map.1 hy
 unfold isB at hq
 simp at hq
 exact h m hm hq
theorem gT_isB (fr tt a b c : Int) : gT (isB fr) tt (a, b, c) = (a, ren fr tt b, c) := by
 unfold gT isB ren
 dsimp only
 by_cases h : b = fr
 ·rw [if_pos (by simpa using h), if_pos h]
 ·rw [if_neg (by simpa using h), if_neg h]
theorem may_ren {fr tt : Int} (ht : 1 ≤ tt ∧ tt ≤ 4095) {x : E} (h : Ents.may false x = true) : Ents.may false (gT (isB fr) tt x) = true := by
 obtain ⟨a, b, c⟩ := x
 rw [gT_isB]
 have := of_decide_eq_true h
 refine decide_eq_true ?_
 unfold Ents.mayN at this ⊢
 unfold ren
 dsimp only at this ⊢
 split <;> omega
theorem putC_two {x y : Int × ByteArray} {L : List ByteArray} (hL : L.length = 4096) (hx : 0 ≤ x.1 ∧ x.1 < 4096) (hy : 0 ≤ y.1 ∧ y.1 < 4096) (b : Nat) : (putC [x, y] L)[b]? = if (b : Int) = y.1 then some y.2 else if (b : Int) = x.1 then some x.2 else L[b]? := by
 show (putD y (putD x L))[b]? = _
 rw [putD_at (by rw [putD_len]; exact hL) hy.1 hy.2, putD_at hL hx.1 hx.2]
set_option maxRecDepth 100000 in
set_option maxHeartbeats 1000000 in
theorem lead_standsL {L : List ByteArray} {bad : Int} {d : Nat} {root : EL} {v : V} {R : EL} {fr tt : Int} {s : SetR} (hL : L.length = 4096) (hw : walkT ⟨L, bad⟩ d root = .ok (v, R)) (hm : leadV v d root R fr tt = .ok s) (hne : tt ≠ fr) :
  (1 ≤ tt ∧ tt ≤ 4095 ∧ has v tt.toNat = false) ∧ (0 ≤ fr ∧ fr ≤ 4095 ∧ has v fr.toNat = true) ∧ s.depth = d ∧ s.freed = [fr] ∧ s.changes.length ≤ 2 ∧ s.changes.Pairwise (fun x y => x.1 < y.1) ∧
  (∃ T, L[fr.toNat]? = some T ∧ (tt, T) ∈ s.changes ∧ ∀ x ∈ s.changes, (x = (tt, T)) ∨ (0 ≤ x.1 ∧ x.1 < 4096 ∧ x.1 ≠ tt ∧ x.1 ≠ fr ∧ has v x.1.toNat = true ∧ L[x.1.toNat]? ≠ some x.2)) ∧ s.root.length = root.length ∧
  ∃ v', walkT ⟨putC s.changes L, -1⟩ d s.root = .ok (v', R) ∧ (∀ b : Nat, has v' b = true ↔ (has v b = true ∧ (b : Int) ≠ fr) ∨ (b : Int) = tt) ∧ ∀ j, 1 ≤ j → j ≤ d → (lvl v' j).map (fun n => n.2.length) = (lvl v j).map (fun n => n.2.length) := by
 obtain ⟨hok, hrow, hme⟩ := walkT_okr hw
 obtain ⟨hch, hhs⟩ := walk_chain hw
 have hg := walkT_good hw
 have hseen := walkT_seen hw
 unfold leadV at hm
 split at hm
 ·cases hm
 rename_i q1
 split at hm
 ·cases hm
 rename_i q2
 split at hm
 ·cases hm
 rename_i q3
 split at hm
 ·cases hm
 rename_i q4
 split at hm
 ·cases hm
 rename_i q5
 split at hm
 ·cases hm
 rename_i q6
 split at hm
 ·cases hm
 rename_i q7
 try rw [if_neg hne] at hm
 injection hm with hm
 have hfr : has v fr.toNat = true := by simpa using q3
 have htt : has v tt.toNat = false := by
  cases h : has v tt.toNat with
  | false => rfl
  | true => exact absurd ⟨hne, h⟩ q6
 have ht : 1 ≤ tt ∧ tt ≤ 4095 := by omega
 obtain ⟨x0, hx0, e0⟩ := List.any_eq_true.1 hfr
 have hb0 : (x0.b : Int) = fr := by rw [beq_iff_eq] at e0; omega
 obtain ⟨h01, h0d⟩ := hhs x0 hx0
 have hd : d ≠ 0 := by omega
 have hnb : ∀ x ∈ v, (x.b : Int) ≠ tt := fun x hx e => by
  rw [show has v tt.toNat = true from List.any_eq_true.2 ⟨x, hx, by rw [beq_iff_eq]; omega⟩] at htt
  cases htt
 have huniq : ∀ x ∈ v, (x.b : Int) = fr → x = x0 := fun x hx e => good_uniq hg hx hx0 (by omega)
 have hold : ∀ x ∈ v, L[x.b]? = some x.s := fun x hx => rd_old (hseen x hx)
 have hlvl0 : ∀ j, j ≠ x0.h → ∀ n ∈ lvl v j, n.1 ≠ fr := fun j hj n hn e => by
  obtain ⟨x, hx, hxh, rfl⟩ := lvl_mem.1 hn
  have := huniq x hx e
  subst this
  exact hj hxh.symm
 have hat : leadAt v d fr = x0.h := by
  unfold leadAt
  rw [idxOf_at (fun L : List Node => L.any fun n => n.1 == fr) (lvls v d) (x0.h - 1) (by rw [lvls_len]; omega) [] (fun k hk => by
   rw [lvls_at v d k (by omega), List.any_eq_false]
   intro n hn
   have := hlvl0 (k + 1) (by omega) n hn
   simpa using this) (by
   rw [lvls_at v d (x0.h - 1) (by omega), List.any_eq_true]
   exact ⟨((x0.b : Int), x0.l), lvl_mem.2 ⟨x0, hx0, by omega, rfl⟩, by simpa using hb0⟩)]
  omega
 obtain ⟨-, hc1, hc2⟩ := chain_to _ _ _ hch
 have hlv : lvls v d ≠ [] := fun h => hd (by have := lvls_len v d; rw [h] at this; simpa using this.symm)
 have hent : ents (lvl v 1) = R := by
  have h1 := (hc1 hlv).1
  rw [lvls_at v d 0 (by omega)] at h1
  exact h1
 have htop : leads (lvl v d) = root := by
  have h2 := (hc1 hlv).2
  rw [lvls_len, lvls_at v d (d - 1) (by omega), show d - 1 + 1 = d by omega] at h2
  exact h2
 have hdown : ∀ j, 1 ≤ j → j < d → leads (lvl v j) = ents (lvl v (j + 1)) := fun j h1 h2 => by
  have h3 := hc2 (j - 1) (by rw [lvls_len]; omega)
  rw [lvls_at v d (j - 1) (by omega), lvls_at v d (j - 1 + 1) (by omega), show j - 1 + 1 = j by omega] at h3
  exact h3
 have hone : ∀ j, ((leads (lvl v j)).filter (isB fr)).length ≤ 1 := fun j => count_one fr _ (lvl_same' hg j)
 have hnone : ∀ j, j ≠ x0.h → (leads (lvl v j)).filter (isB fr) = [] := fun j hj => lead_no fr _ (hlvl0 j hj)
 have hidl : ∀ x ∈ v, x.h ≠ 1 → x.h ≠ x0.h + 1 → x.l.map (gT (isB fr) tt) = x.l := fun x hx h1 h2 => by
  obtain ⟨g1, g2⟩ := hhs x hx
  refine gT_no (List.filter_eq_nil_iff.2 fun y hy hp => ?_)
  have h3 := hnone (x.h - 1) (by omega)
  rw [hdown (x.h - 1) (by omega) (by omega), show x.h - 1 + 1 = x.h by omega] at h3
  exact List.filter_eq_nil_iff.1 h3 y (mem_ents.2 ⟨_, lvl_mem.2 ⟨x, hx, rfl, rfl⟩, hy⟩) hp
 have hencl : ∀ x ∈ v, x.h ≠ 1 → Ents.EncOk (x.l.map (gT (isB fr) tt)) false := fun x hx h1 => by
  have h2 := hg.enc x hx
  rw [show (x.h == 1) = false by rw [beq_eq_false_iff_ne]; exact h1] at h2
  exact enc_map (gT_1 _ _) (gT_3 _ _) (fun y hy => may_ren ht (h2.2.2.may y hy)) h2
 have hsr : s.root = root.map (gT (isB fr) tt) := by
  rw [← hm]
  dsimp only
  rw [hat]
  unfold turnedT
  split
  ·rename_i e
   exact turn_map (p := isB fr) (by rw [← htop]; exact hone d)
  ·rename_i e
   exact (gT_no (by rw [← htop]; exact hnone d e)).symm
 obtain ⟨C, hC⟩ : ∃ C, (turnedT v d root x0.h (isB fr) tt).changes = C := ⟨_, rfl⟩
 have hsc : s.changes = leadSort C (tt, x0.s) := by
  rw [← hm]
  dsimp only
  rw [hat, show textOf v fr.toNat = x0.s by rw [← hb0, Int.toNat_natCast, textOf_at hg hx0]]
  exact congrArg (fun c => leadSort c (tt, x0.s)) hC
 have hCk : (C = [] ∧ ∀ x ∈ v, x.h = x0.h + 1 → txt (Ents.nodeB (x.l.map (gT (isB fr) tt)) false) = x.s) ∨ ∃ x ∈ v, x.h = x0.h + 1 ∧ C = [((x.b : Int), txt (Ents.nodeB (x.l.map (gT (isB fr) tt)) false))] ∧ txt (Ents.nodeB (x.l.map (gT (isB fr) tt)) false) ≠ x.s ∧ ∀ y ∈ v, y.h = x0.h + 1 → y ≠ x → txt (Ents.nodeB (y.l.map (gT (isB fr) tt)) false) = y.s := by
  have hself : ∀ x ∈ v, x.h = x0.h + 1 → x.l.map (gT (isB fr) tt) = x.l → txt (Ents.nodeB (x.l.map (gT (isB fr) tt)) false) = x.s := fun x hx hxh e => by
   rw [e]
   have h1 := (Ents.dec_some (hg.ok x hx)).2
   rw [hxh, show (x0.h + 1 == 1) = false by rw [beq_eq_false_iff_ne]; omega] at h1
   rw [← h1, txt_of]
  by_cases he : d = x0.h
  ·left
   refine ⟨?_, fun x hx hxh => by have := hhs x hx; omega⟩
   rw [← hC]
   unfold turnedT
   rw [if_pos he]
  ·have htl := turn_level (v := v) (leaf := false) (p := isB fr) (tt := tt) (lvl v (x0.h + 1)) (by rw [← hdown x0.h h01 (by omega)]; exact hone _) (fun m hm => by
    obtain ⟨x, hx, hxh, rfl⟩ := lvl_mem.1 hm
    exact hencl x hx (by omega))
   have hC2 : C = (lvl v (x0.h + 1)).foldl (turnN v false (isB fr) tt) [] := by
    rw [← hC]
    unfold turnedT
    rw [if_neg he]
    dsimp only
    rw [show (x0.h == 0) = false by rw [beq_eq_false_iff_ne]; omega]
   rw [hC2]
   rcases htl with ⟨e, h⟩ | ⟨m, hm, e, hnew, h⟩
   ·left
    refine ⟨e, fun x hx hxh => ?_⟩
    rcases h _ (lvl_mem.2 ⟨x, hx, hxh, rfl⟩) with h | h
    ·unfold newT at h
     dsimp only at h
     rw [h, Int.toNat_natCast, textOf_at hg hx]
    ·exact hself x hx hxh h
   ·right
    obtain ⟨x, hx, hxh, rfl⟩ := lvl_mem.1 hm
    unfold newT at e hnew
    dsimp only at e hnew
    rw [Int.toNat_natCast, textOf_at hg hx] at hnew
    refine ⟨x, hx, hxh, e, hnew, fun y hy hyh hyx => ?_⟩
    rcases h _ (lvl_mem.2 ⟨y, hy, hyh, rfl⟩) with h | h
    ·exfalso
     injection h with h1 h2
     exact hyx (good_uniq hg hy hx (by omega))
    ·exact hself y hy hyh h
 have hput : (putC s.changes L)[tt.toNat]? = some x0.s ∧ (∀ x ∈ v, x.h = x0.h + 1 → (putC s.changes L)[x.b]? = some (txt (Ents.nodeB (x.l.map (gT (isB fr) tt)) false))) ∧ ∀ x ∈ v, x.h ≠ x0.h + 1 → (putC s.changes L)[x.b]? = some x.s := by
  rw [hsc]
  rcases hCk with ⟨rfl, h⟩ | ⟨x, hx, hxh, rfl, hnew, h⟩
  ·have hp : ∀ b : Nat, (putC (leadSort [] (tt, x0.s)) L)[b]? = if (b : Int) = tt then some x0.s else L[b]? := fun b => putD_at hL (by dsimp only; omega) (by dsimp only; omega) b
   refine ⟨by rw [hp, if_pos (by omega)], fun y hy hyh => ?_, fun y hy _ => ?_⟩
   ·rw [hp, if_neg (hnb y hy), hold y hy, h y hy hyh]
   ·rw [hp, if_neg (hnb y hy), hold y hy]
  ·have hbx := hg.blk x hx
   have hp : ∀ b : Nat, (putC (leadSort [((x.b : Int), txt (Ents.nodeB (x.l.map (gT (isB fr) tt)) false))] (tt, x0.s)) L)[b]? = if (b : Int) = tt then some x0.s else if b = x.b then some (txt (Ents.nodeB (x.l.map (gT (isB fr) tt)) false)) else L[b]? := fun b => by
    unfold leadSort
    dsimp only
    split
    ·rw [putC_two hL (by dsimp only; omega) (by dsimp only; omega)]
     by_cases hb : (b : Int) = tt
     ·rw [if_pos hb, if_pos hb]
     ·rw [if_neg hb, if_neg hb]
      by_cases hb2 : b = x.b
      ·rw [if_pos (by dsimp only; omega), if_pos hb2]
      ·rw [if_neg (by dsimp only; omega), if_neg hb2]
    ·rw [putC_two hL (by dsimp only; omega) (by dsimp only; omega)]
     by_cases hb2 : b = x.b
     ·have := hnb x hx
      rw [if_pos (by dsimp only; omega), if_neg (by omega), if_pos hb2]
     ·rw [if_neg (by dsimp only; omega), if_neg hb2]
   refine ⟨?_, fun y hy hyh => ?_, fun y hy hyh => ?_⟩
   ·rw [hp, if_pos (by omega)]
   ·rw [hp, if_neg (hnb y hy)]
    by_cases hyx : y = x
    ·subst hyx; rw [if_pos rfl]
    ·rw [if_neg (fun e => hyx (good_uniq hg hy hx e)), hold y hy, h y hy hyh hyx]
   ·rw [hp, if_neg (hnb y hy), if_neg (fun e => by
     have := good_uniq hg hy hx e
     subst this
     exact hyh hxh), hold y hy]
 obtain ⟨p1, p2, p3⟩ := hput
 refine ⟨⟨ht.1, ht.2, htt⟩, ⟨by omega, by omega, hfr⟩, by rw [← hm], by rw [← hm], ?_, ?_, ⟨x0.s, by rw [← hb0, Int.toNat_natCast]; exact hold x0 hx0, ?_, ?_⟩, by rw [hsr, List.length_map], ?_⟩
 ·rw [hsc]
  rcases hCk with ⟨rfl, h⟩ | ⟨x, hx, hxh, rfl, hnew, h⟩
  ·show ([(tt, x0.s)] : CL).length ≤ 2; simp
  ·unfold leadSort; dsimp only; split <;> simp
 ·rw [hsc]
  rcases hCk with ⟨rfl, h⟩ | ⟨x, hx, hxh, rfl, hnew, h⟩
  ·show ([(tt, x0.s)] : CL).Pairwise _; simp
  ·have := hnb x hx
   unfold leadSort
   dsimp only
   split
   ·rename_i hlt; simp; exact hlt
   ·rename_i hlt; simp; omega
 ·rw [hsc]
  rcases hCk with ⟨rfl, h⟩ | ⟨x, hx, hxh, rfl, hnew, h⟩
  ·show (tt, x0.s) ∈ ([(tt, x0.s)] : CL); simp
  ·unfold leadSort; dsimp only; split <;> simp
 ·intro y hy
  rw [hsc] at hy
  rcases hCk with ⟨rfl, h⟩ | ⟨x, hx, hxh, rfl, hnew, h⟩
  ·exact .inl (List.mem_singleton.1 hy)
  ·have hy' : y = ((x.b : Int), txt (Ents.nodeB (x.l.map (gT (isB fr) tt)) false)) ∨ y = (tt, x0.s) := by
    unfold leadSort at hy
    dsimp only at hy
    split at hy
    ·simpa using hy
    ·have : y = (tt, x0.s) ∨ y = ((x.b : Int), txt (Ents.nodeB (x.l.map (gT (isB fr) tt)) false)) := by simpa using hy
     exact this.symm
   rcases hy' with rfl | rfl
   ·right
    have hbx := hg.blk x hx
    refine ⟨by dsimp only; omega, by dsimp only; omega, hnb x hx, fun e => ?_, List.any_eq_true.2 ⟨x, hx, by simp⟩, ?_⟩
    ·have := huniq x hx e
     subst this
     omega
    ·dsimp only
     rw [Int.toNat_natCast, hold x hx]
     intro e
     injection e with e
     exact hnew e.symm
   ·exact .inl rfl
 ·have hren : ∀ x ∈ v, ∀ y ∈ v, ren fr tt (x.b : Int) = ren fr tt (y.b : Int) → x = y := fun x hx y hy e => by
   unfold ren at e
   have h1 := hnb x hx
   have h2 := hnb y hy
   refine good_uniq hg hx hy ?_
   split at e <;> split at e <;> omega
  have hfam : Fam ⟨putC s.changes L, -1⟩ d (fun j => (lvl v j).map fun m => (ren fr tt m.1, if j = 1 then m.2 else m.2.map (gT (isB fr) tt))) [] := by
   refine ⟨fun j h1 h2 m hm => ?_, fun j h1 h2 m hm => rfl, fun j h1 h2 => ?_, fun i j h1 h2 h3 m hm m' hm' => ?_⟩
   all_goals (try dsimp only at *)
   ·obtain ⟨m0, hm0, rfl⟩ := List.mem_map.1 hm
    obtain ⟨x, hx, hxh, rfl⟩ := lvl_mem.1 hm0
    have hbx := hg.blk x hx
    dsimp only
    have hl : (if j = 1 then x.l else x.l.map (gT (isB fr) tt)) = if x.h = x0.h + 1 then x.l.map (gT (isB fr) tt) else x.l := by
     by_cases hj1 : j = 1
     ·rw [if_pos hj1, if_neg (by omega)]
     ·rw [if_neg hj1]
      by_cases hj2 : x.h = x0.h + 1
      ·rw [if_pos hj2]
      ·rw [if_neg hj2]
       exact hidl x hx (by omega) hj2
    rw [hl]
    by_cases hxf : (x.b : Int) = fr
    ·have := huniq x hx hxf
     subst this
     rw [if_neg (by omega)]
     have h3 := stands_old (d := ⟨L, bad⟩) hg hx (hseen x hx)
     rw [hxh] at h3
     unfold ren
     rw [if_pos hxf]
     refine ⟨ht.1, ht.2, h3.enc, ?_⟩
     rw [rd_new]
     dsimp only
     rw [p1]
     have h4 := (Ents.dec_some (hg.ok x hx)).2
     rw [hxh] at h4
     rw [← h4, txt_of]
    ·unfold ren
     rw [if_neg hxf]
     by_cases hj2 : x.h = x0.h + 1
     ·rw [if_pos hj2]
      have hjf : (j == 1) = false := by rw [beq_eq_false_iff_ne]; omega
      refine ⟨by dsimp only; omega, by dsimp only; omega, ?_, ?_⟩
      ·dsimp only
       rw [hjf]
       exact hencl x hx (by omega)
      ·rw [rd_new, hjf]
       dsimp only
       rw [Int.toNat_natCast]
       exact p2 x hx hj2
     ·rw [if_neg hj2]
      have := stands_old (d := ⟨putC s.changes L, -1⟩) hg hx (by rw [rd_new]; exact p3 x hx hj2)
      rw [hxh] at this
      exact this
   ·rw [List.map_map]
    have h1 := lvl_same' hg j
    unfold lvl at *
    rw [List.map_map] at h1 ⊢
    refine List.Pairwise.map _ (fun a b hab e => ?_) (List.Pairwise.and_mem.1 (List.Pairwise.of_map (S := fun a b => a ≠ b) _ (fun a b h => h) h1))
    exact hab.2.2 (by
     have := hren a (List.mem_filter.1 hab.1).1 b (List.mem_filter.1 hab.2.1).1 e
     rw [this])
   ·obtain ⟨m1, hm1, rfl⟩ := List.mem_map.1 hm
    obtain ⟨m2, hm2, rfl⟩ := List.mem_map.1 hm'
    obtain ⟨x, hx, hxh, rfl⟩ := lvl_mem.1 hm1
    obtain ⟨y, hy, hyh, rfl⟩ := lvl_mem.1 hm2
    intro e
    have := hren x hx y hy e
    subst this
    omega
  have hlf : ∀ j, leads ((lvl v j).map fun m => (ren fr tt m.1, if j = 1 then m.2 else m.2.map (gT (isB fr) tt))) = (leads (lvl v j)).map (gT (isB fr) tt) := fun j => by
   unfold leads
   rw [List.map_map, List.map_map]
   refine List.map_congr_left (fun m _ => ?_)
   show ((((if j = 1 then m.2 else m.2.map (gT (isB fr) tt)).getD 0 (0, 0, 0)).1, ren fr tt m.1, 0) : E) = gT (isB fr) tt ((m.2.getD 0 (0, 0, 0)).1, m.1, 0)
   rw [gT_isB]
   by_cases hj : j = 1
   ·rw [if_pos hj]
   ·rw [if_neg hj, gT_first]
  have hok' : RootOk d s.root := by
   have hr5 := hok.2.2.2.2
   rw [show (((d : Nat) : Int) == 0) = false by simpa using hd] at hr5
   rw [hsr]
   refine ⟨hok.1, hok.2.1, by rw [List.length_map]; exact hok.2.2.1, fun h => by rw [List.length_map]; exact hok.2.2.2.1 h, ?_⟩
   rw [show (((d : Nat) : Int) == 0) = false by simpa using hd]
   exact row_map (gT_1 _ _) (gT_3 _ _) (fun y hy => may_ren ht (hr5.may y hy)) hr5
  obtain ⟨u, hu, hwu⟩ := walk_stands (d := ⟨putC s.changes L, -1⟩) (n := d) (root := s.root) (row := R) (f := fun j => (lvl v j).map fun m => (ren fr tt m.1, if j = 1 then m.2 else m.2.map (gT (isB fr) tt))) (fun h => absurd h hd) (fun _ => ⟨by
   have := ents_map (fun l => l) (fun a b => rfl) rfl (ren fr tt) (lvl v 1)
   simp only [if_true]
   rw [this]
   exact hent, by
   rw [hlf, htop, hsr]⟩) (fun j h1 h2 => by
   rw [hlf, hdown j h1 h2]
   rw [show (fun m : Node => ((ren fr tt m.1, if j + 1 = 1 then m.2 else m.2.map (gT (isB fr) tt)) : Node)) = fun m => (ren fr tt m.1, m.2.map (gT (isB fr) tt)) from funext fun m => by rw [if_neg (show ¬ j + 1 = 1 by omega)]]
   exact (ents_map (List.map (gT (isB fr) tt)) (fun a b => List.map_append) rfl (ren fr tt) (lvl v (j + 1))).symm) hok' hfam
  have hiff : ∀ b : Nat, has u b = true ↔ (has v b = true ∧ (b : Int) ≠ fr) ∨ (b : Int) = tt := fun b => by
   rw [hu.has_iff]
   constructor
   ·rintro ⟨j, h1, h2, m, hm, e⟩
    obtain ⟨m0, hm0, rfl⟩ := List.mem_map.1 hm
    obtain ⟨x, hx, hxh, rfl⟩ := lvl_mem.1 hm0
    dsimp only at e
    unfold ren at e
    split at e
    ·exact .inr e.symm
    ·rename_i hxf
     exact .inl ⟨List.any_eq_true.2 ⟨x, hx, by rw [beq_iff_eq]; omega⟩, by omega⟩
   ·rintro (⟨hb, hbf⟩ | hb)
    ·obtain ⟨x, hx, e⟩ := List.any_eq_true.1 hb
     rw [beq_iff_eq] at e
     obtain ⟨h1, h2⟩ := hhs x hx
     refine ⟨x.h, h1, h2, _, List.mem_map.2 ⟨_, lvl_mem.2 ⟨x, hx, rfl, rfl⟩, rfl⟩, ?_⟩
     dsimp only
     unfold ren
     rw [if_neg (by omega)]
     omega
    ·obtain ⟨h1, h2⟩ := hhs x0 hx0
     refine ⟨x0.h, h1, h2, _, List.mem_map.2 ⟨_, lvl_mem.2 ⟨x0, hx0, rfl, rfl⟩, rfl⟩, ?_⟩
     dsimp only
     unfold ren
     rw [if_pos hb0]
     omega
  refine ⟨u, ?_, hiff, fun j h1 h2 => ?_⟩
  case refine_2 =>
   rw [hu.lv j h1 h2, List.map_map]
   refine List.map_congr_left (fun m _ => ?_)
   show (if j = 1 then m.2 else m.2.map (gT (isB fr) tt)).length = m.2.length
   split
   ·rfl
   ·rw [List.length_map]
  have hmm : meets u R = false := meets_mk (fun b hb => by
   rcases (hiff b).1 hb with ⟨h1, -⟩ | h1
   ·exact meets_no hg hme h1
   ·rw [h1]
    simpa using q7)
  rw [hwu, if_pos ⟨Ents.row_leaf.2 hrow, hmm⟩]
def GR (x : E) : Prop := x.2.1 + x.2.2 ≤ 2003 ∧ x.2.2 ≤ 3 ∧ Exts.fin x ≤ 300
theorem part_gr {x : E} {a b : Int} (hx : Exts.may x) (h : GR x) (h0 : 0 ≤ a) : ∀ y ∈ Exts.part x a b, GR y := by
 intro y hy
 unfold Exts.part at hy
 split at hy
 ·obtain rfl := List.mem_singleton.1 hy
  unfold GR Exts.fin Exts.may at *
  dsimp only
  omega
 ·cases hy
theorem parts_gr {l : EL} {a b : Int} (hr : Exts.Row l) (h : ∀ x ∈ l, GR x) (h0 : 0 ≤ a) : ∀ y ∈ Exts.parts l a b, GR y := by
 intro y hy
 obtain ⟨x, hx, hy⟩ := List.mem_flatMap.1 hy
 exact part_gr (hr.may x hx) (h x hx) h0 y hy
theorem repl_gr {R l : EL} {a b : Int} (hr : Exts.Row R) (hf : fitsT a b l = true) (h : ∀ x ∈ R, GR x) (hl : ∀ x ∈ l, GR x) : ∀ x ∈ replT R a b l, GR x := by
 obtain ⟨g1, g2, g3, g4, g5⟩ := fits_spec hf
 intro x hx
 by_cases e : a = b
 ·unfold replT at hx
  rw [if_pos e] at hx
  exact h x hx
 ·rw [repl_eq hr g1 g2 g3 e] at hx
  unfold Exts.changeR at hx
  rcases List.mem_append.1 hx with hx | hx
  ·rcases List.mem_append.1 hx with hx | hx
   ·exact parts_gr hr h (by omega) x hx
   ·exact hl x hx
  ·exact parts_gr hr h (by omega) x hx
theorem gr_low {l : EL} (h : ∀ x ∈ l, GR x) (i : Int) (hi : 2048 ≤ i) : taken l i = false := low_taken (fun x hx => by have := (h x hx).1; omega) i hi
structure GrowOk (us : List Bool) (L : List ByteArray) (d : Nat) (root : EL) (v : V) (R : EL) : Prop where
 wo : WorldOk us L d root v R
 gr : ∀ x ∈ R, GR x
 sm : ∀ s ∈ L, s.size ≤ 140737488351232
 low : d = 0 ↔ R.length ≤ 4
theorem GrowOk.d4 {us : List Bool} {L : List ByteArray} {d : Nat} {root : EL} {v : V} {R : EL} (h : GrowOk us L d root v R) : d ≤ 4 := by
 have := (walkT_okr h.wo.walk).1.2.1
 omega
theorem grow_none {L : List ByteArray} (hL : L.length = 4096) (hs : ∀ s ∈ L, s.size ≤ 140737488351232) : GrowOk (List.replicate 4096 false) L 0 [] [] [] := ⟨world_none hL, (fun x hx => by cases hx), hs, by simp⟩
theorem putC_small {C : CL} {L : List ByteArray} (hL : ∀ s ∈ L, s.size ≤ 140737488351232) (hC : ∀ x ∈ C, x.2.size = 128) : ∀ s ∈ putC C L, s.size ≤ 140737488351232 := fun s hs => by
 rcases fold_putD_mem C L s hs with h | ⟨x, hx, rfl⟩
 ·exact hL s h
 ·have := hC x hx
  omega
theorem grow_replace {us : List Bool} {L : List ByteArray} {d : Nat} {root : EL} {v : V} {R : EL} {a b : Int} {l : EL} (h : GrowOk us L d root v R) (hf : fitsT a b l = true) (hl : ∀ x ∈ l, GR x) (h29 : l.length ≤ 29) :
  ∃ s us1 D v', ReplW us L d root v R a b l s us1 D v' ∧ GrowOk (freeT s.freed us1) (putC s.changes L) s.depth.toNat s.root v' (replT R a b l) ∧ s.changes.length ≤ 3 * s.depth.toNat + l.length := by
 obtain ⟨-, hrow, -⟩ := walkT_okr h.wo.walk
 obtain ⟨s, us1, D, v', hr⟩ := replace_world h.wo hf (gr_low hl)
 refine ⟨s, us1, D, v', hr, ⟨hr.ok, repl_gr hrow hf h.gr hl, putC_small h.sm hr.st.size, ?_⟩, hr.few h.wo hf h29⟩
 have h1 := (hr.sh.many (row_len (repl_row hrow hf))).2.2.2
 have h2 := hr.st.depth
 rw [← h1]
 omega
theorem putC_self : ∀ (C : CL) (L : List ByteArray), L.length = 4096 → (C.map fun x => x.1).Nodup → (∀ x ∈ C, 0 ≤ x.1 ∧ x.1 < 4096) → ∀ x ∈ C, (putC C L)[x.1.toNat]? = some x.2
 | [], L, _, _, _, x, hx => by cases hx
 | y :: C, L, hL, hn, hb, x, hx => by
  rw [List.map_cons] at hn
  obtain ⟨h1, h2⟩ := List.nodup_cons.1 hn
  have hy := hb y (by simp)
  have hL' : (putD y L).length = 4096 := by rw [putD_len]; exact hL
  show (putC C (putD y L))[x.1.toNat]? = some x.2
  rcases List.mem_cons.1 hx with rfl | hx
  ·have keep : ∀ (D : CL) (M : List ByteArray), M.length = 4096 → (∀ z ∈ D, 0 ≤ z.1 ∧ z.1 < 4096 ∧ z.1 ≠ x.1) → (putC D M)[x.1.toNat]? = M[x.1.toNat]? := by
    intro D
    induction D with
    | nil => intro M _ _; rfl
    | cons z D ih =>
     intro M hM hz
     have hz1 := hz z (by simp)
     show (putC D (putD z M))[x.1.toNat]? = _
     rw [ih (putD z M) (by rw [putD_len]; exact hM) (fun k hk => hz k (by simp [hk])), putD_at hM hz1.1 hz1.2.1, if_neg (by omega)]
   rw [keep C (putD x L) hL' (fun z hz => by
    have := hb z (by simp [hz])
    exact ⟨this.1, this.2, fun e => h1 (List.mem_map.2 ⟨z, hz, e⟩)⟩), putD_at hL hy.1 hy.2, if_pos (by omega)]
  ·exact putC_self C (putD y L) hL' h2 (fun z hz => hb z (by simp [hz])) x hx
theorem changes_size {C : CL} {L : List ByteArray} {d : Nat} {root : EL} {v : V} {R : EL} (hL : L.length = 4096) (hn : (C.map fun x => x.1).Nodup) (hb : ∀ x ∈ C, 0 ≤ x.1 ∧ x.1 < 4096 ∧ has v x.1.toNat = true) (hw : walkT ⟨putC C L, -1⟩ d root = .ok (v, R)) : ∀ x ∈ C, x.2.size = 128 := by
 intro x hx
 obtain ⟨h1, h2, h3⟩ := hb x hx
 obtain ⟨y, hy, e⟩ := List.any_eq_true.1 h3
 rw [beq_iff_eq] at e
 have h4 := rd_old (walkT_seen hw y hy)
 rw [e, putC_self C L hL hn (fun z hz => ⟨(hb z hz).1, (hb z hz).2.1⟩) x hx] at h4
 injection h4 with h4
 rw [h4]
 exact dec_size ((walkT_good hw).ok y hy)
theorem half_same {v v' : V} {d : Nat} (h : ∀ X ∈ lvls v d, Half X) (e : ∀ j, 1 ≤ j → j ≤ d → (lvl v' j).map (fun n => n.2.length) = (lvl v j).map (fun n => n.2.length)) : ∀ X ∈ lvls v' d, Half X := by
 intro X hX n hn
 obtain ⟨i, hi, rfl⟩ := List.mem_map.1 hX
 have hi' := List.mem_range.1 hi
 have h1 : n.2.length ∈ (lvl v' (i + 1)).map (fun n => n.2.length) := List.mem_map.2 ⟨n, hn, rfl⟩
 rw [e (i + 1) (by omega) (by omega)] at h1
 obtain ⟨m, hm, e2⟩ := List.mem_map.1 h1
 have := h (lvl v (i + 1)) (List.mem_map.2 ⟨i, hi, rfl⟩) m hm
 omega
theorem gT_gr {lg n tt : Int} {x : E} (h : GR x) (hn : n ≤ 3) (ht : tt ≤ 2000) : GR (gT (isM lg n) tt x) := by
 unfold gT
 split
 ·unfold GR Exts.fin at *
  dsimp only
  omega
 ·exact h
structure MoveW (us : List Bool) (L : List ByteArray) (d : Nat) (root : EL) (v : V) (R : EL) (y : E) (tt : Int) (s : SetR) (v' : V) : Prop where
 eq : moveV v d root R y.1 y.2.2 tt = .ok s
 dep : s.depth = d
 frd : s.freed = []
 chg : s.changes.length ≤ 1
 blk : ∀ x ∈ s.changes, 0 ≤ x.1 ∧ x.1 < 4096
 ok : GrowOk us (putC s.changes L) d s.root v' (R.map (gT (isM y.1 y.2.2) tt))
theorem grow_move {us : List Bool} {L : List ByteArray} {d : Nat} {root : EL} {v : V} {R : EL} {y : E} {tt : Int} (h : GrowOk us L d root v R) (hy : y ∈ R) (h1 : 1 ≤ tt) (h2 : tt ≤ 2000) : ∃ s v', MoveW us L d root v R y tt s v' := by
 obtain ⟨hok, hrow, hme⟩ := walkT_okr h.wo.walk
 have hyg := h.gr y hy
 have hym := hrow.may y hy
 unfold GR Exts.fin at hyg
 unfold Exts.may at hym
 have hm : ∃ s, moveV v d root R y.1 y.2.2 tt = .ok s := by
  unfold moveV
  have e1 : R.any (isM y.1 y.2.2) = true := List.any_eq_true.2 ⟨y, hy, by unfold isM; simp⟩
  have e2 : (natI (nodes v)).any (inM tt y.2.2) = false := by
   rw [List.any_eq_false]
   intro b hb
   obtain ⟨c, hc, rfl⟩ := List.mem_map.1 hb
   have := h.wo.hi c (List.mem_filter.1 hc).2
   unfold inM
   simp
   omega
  rw [if_neg (by rw [e1]; decide), if_neg (by omega), if_neg (by omega), if_neg (by rw [e2]; decide)]
  exact ⟨_, rfl⟩
 obtain ⟨s, hs⟩ := hm
 obtain ⟨g1, g2, g3, g4, g5, g6, v', g7, g8, g9⟩ := move_standsL h.wo.len h.wo.walk hs
 have hnd : (s.changes.map fun x => x.1).Nodup := by
  cases hc : s.changes with
  | nil => simp
  | cons x C =>
   rw [hc] at g3
   have : C = [] := List.eq_nil_of_length_eq_zero (by simpa using g3)
   subst this
   simp
 refine ⟨s, v', ⟨hs, g1, g2, g3, fun x hx => ⟨(g4 x hx).1, (g4 x hx).2.1⟩, ⟨⟨g7, by rw [putC_len]; exact h.wo.len, h.wo.ulen, fun b hb => by rw [g8]; exact h.wo.used b hb, ?_, fun b hb => h.wo.hi b (by rw [← g8]; exact hb), half_same h.wo.half g9⟩, ?_, ?_, ?_⟩⟩⟩
 ·refine gr_low (fun x hx => ?_)
  obtain ⟨z, hz, rfl⟩ := List.mem_map.1 hx
  exact gT_gr (h.gr z hz) (by omega) (by omega)
 ·intro x hx
  obtain ⟨z, hz, rfl⟩ := List.mem_map.1 hx
  exact gT_gr (h.gr z hz) (by omega) (by omega)
 ·exact putC_small h.sm (changes_size h.wo.len hnd (fun x hx => ⟨(g4 x hx).1, (g4 x hx).2.1, by rw [g8]; exact (g4 x hx).2.2.1⟩) g7)
 ·rw [List.length_map]
  exact h.low
structure LeadW (us : List Bool) (L : List ByteArray) (d : Nat) (root : EL) (v : V) (R : EL) (fr tt : Int) (us1 : List Bool) (s : SetR) (v' : V) : Prop where
 nx : nextW us = (some tt, us1)
 eq : leadV v d root R fr tt = .ok s
 dep : s.depth = d
 frd : s.freed = [fr]
 chg : s.changes.length ≤ 2
 blk : ∀ x ∈ s.changes, 0 ≤ x.1 ∧ x.1 < 4096
 fr : 0 ≤ fr ∧ fr < 4096
 len1 : us1.length = 4096
 ok : GrowOk (freeT s.freed us1) (putC s.changes L) d s.root v' R
theorem grow_lead {us : List Bool} {L : List ByteArray} {d : Nat} {root : EL} {v : V} {R : EL} {fr : Int} (h : GrowOk us L d root v R) (hfr : fr ∈ natI (nodes v)) : ∃ tt us1 s v', LeadW us L d root v R fr tt us1 s v' := by
 obtain ⟨hok, hrow, hme⟩ := walkT_okr h.wo.walk
 obtain ⟨f, hf, rfl⟩ := List.mem_map.1 hfr
 obtain ⟨hf1, hf2⟩ := List.mem_filter.1 hf
 have hf3 := List.mem_range.1 hf1
 have hfh := h.wo.hi f hf2
 cases hn : nextB us with
 | none =>
  have h1 := nextB_none hn
  have h2 := h.wo.usedN_le
  omega
 | some b =>
  obtain ⟨b1, b2, b3⟩ := nextB_some hn
  have hnx : nextW us = (some (b : Int), us.set b true) := by unfold nextW; rw [hn]
  have hvb : has v b = false := by rw [← h.wo.used b b2]; exact b3
  have hne : (b : Int) ≠ (f : Int) := fun e => by
   have : b = f := by omega
   subst this
   rw [hvb] at hf2
   cases hf2
  have hm : ∃ s, leadV v d root R (f : Int) (b : Int) = .ok s := by
   unfold leadV
   rw [Int.toNat_natCast, Int.toNat_natCast, hf2, hvb, h.wo.lo (b : Int) (by omega)]
   rw [if_neg (by omega), if_neg (by omega), if_neg (by decide), if_neg (by omega), if_neg (by omega), if_neg (by simp), if_neg (by decide), if_neg hne]
   exact ⟨_, rfl⟩
  obtain ⟨s, hs⟩ := hm
  obtain ⟨g1, g2, g3, g4, g5, g6, ⟨T, t1, t2, t3⟩, g8, v', g9, g10, g11⟩ := lead_standsL h.wo.len h.wo.walk hs hne
  have hnd : (s.changes.map fun x => x.1).Nodup := List.Pairwise.map _ (fun a b hab e => by omega) g6
  have hblk : ∀ x ∈ s.changes, 0 ≤ x.1 ∧ x.1 < 4096 ∧ has v' x.1.toNat = true := fun x hx => by
   rcases t3 x hx with rfl | ⟨c1, c2, c3, c4, c5, -⟩
   ·dsimp only
    exact ⟨by omega, by omega, (g10 _).2 (.inr (by omega))⟩
   ·exact ⟨c1, c2, (g10 _).2 (.inl ⟨c5, by omega⟩)⟩
  refine ⟨(b : Int), us.set b true, s, v', ⟨hnx, hs, g3, g4, g5, fun x hx => ⟨(hblk x hx).1, (hblk x hx).2.1⟩, by omega, by rw [List.length_set]; exact h.wo.ulen, ⟨⟨g9, by rw [putC_len]; exact h.wo.len, by rw [freeT_len, List.length_set]; exact h.wo.ulen, fun c hc => ?_, h.wo.lo, fun c hc => ?_, half_same h.wo.half g11⟩, h.gr, putC_small h.sm (changes_size h.wo.len hnd hblk g9), h.low⟩⟩⟩
  ·rw [g4, freeT_at _ _ (fun x hx => by rw [List.mem_singleton.1 hx, List.length_set, h.wo.ulen]; omega), getD_set us b c true (by rw [h.wo.ulen]; omega), h.wo.used c hc, Bool.eq_iff_iff, g10]
   simp only [Bool.and_eq_true, Bool.not_eq_true', List.contains_cons, List.contains_nil, Bool.or_false, beq_eq_false_iff_ne]
   by_cases e : c = b
   ·subst e
    rw [if_pos rfl]
    exact ⟨fun _ => .inr rfl, fun _ => ⟨rfl, hne⟩⟩
   ·rw [if_neg e]
    constructor
    ·rintro ⟨p1, p2⟩
     exact .inl ⟨p1, p2⟩
    ·rintro (⟨p1, p2⟩ | p1)
     ·exact ⟨p1, p2⟩
     ·exact absurd (by omega) e
  ·rcases (g10 c).1 hc with ⟨p1, -⟩ | p1
   ·exact h.wo.hi c p1
   ·omega
structure StepV where
 kind : Nat
 fr : Nat
 tt : Nat
 many : Nat
 len : Nat
 gap : Nat
 pos : Nat
def StepV.lo (x : StepV) : Nat := min (x.fr % 300) (x.tt % 300)
def StepV.hi (x : StepV) : Nat := max (x.fr % 300) (x.tt % 300)
def rowAt (hi n g p : Nat) : Nat → Nat → Nat → EL
 | 0, _, _ => []
 | k + 1, i, a => if hi < a + n then [] else ((a : Int), 1 + ((p + 7 * i) % 2000 : Nat), (n : Int)) :: rowAt hi n g p k (i + 1) (a + n + g)
def StepV.row (x : StepV) : EL := rowAt x.hi (1 + x.len % 3) (x.gap % 3) x.pos (x.many % 30) 0 x.lo
theorem rowAt_all (hi n g p : Nat) : ∀ k i a, ∀ x ∈ rowAt hi n g p k i a, (a : Int) ≤ x.1 ∧ Exts.fin x ≤ hi ∧ x.2.2 = n ∧ 1 ≤ x.2.1 ∧ x.2.1 ≤ 2000
 | 0, i, a, x, h => by cases h
 | k + 1, i, a, x, h => by
  unfold rowAt at h
  split at h
  ·cases h
  ·rcases List.mem_cons.1 h with rfl | h
   ·have : (p + 7 * i) % 2000 < 2000 := Nat.mod_lt _ (by decide)
    unfold Exts.fin
    dsimp only
    omega
   ·have := rowAt_all hi n g p k (i + 1) (a + n + g) x h
    omega
theorem rowAt_row (hi n g p : Nat) (hn : 1 ≤ n) (hn3 : n ≤ 3) (ht : hi ≤ 299) : ∀ k i a, Exts.Row (rowAt hi n g p k i a)
 | 0, i, a => trivial
 | k + 1, i, a => by
  unfold rowAt
  split
  ·trivial
  ·have : (p + 7 * i) % 2000 < 2000 := Nat.mod_lt _ (by decide)
   refine ⟨?_, fun y hy => ?_, rowAt_row hi n g p hn hn3 ht k _ _⟩
   ·unfold Exts.may
    dsimp only
    omega
   ·have := (rowAt_all hi n g p k (i + 1) (a + n + g) y hy).1
    unfold Exts.fin
    dsimp only
    omega
theorem rowAt_len (hi n g p : Nat) : ∀ k i a, (rowAt hi n g p k i a).length ≤ k
 | 0, i, a => Nat.le_refl _
 | k + 1, i, a => by
  unfold rowAt
  split
  ·simp
  ·have := rowAt_len hi n g p k (i + 1) (a + n + g)
   simp only [List.length_cons]
   omega
theorem StepV.ok (x : StepV) : x.lo ≤ x.hi ∧ x.hi ≤ 299 ∧ Exts.Row x.row ∧ x.row.length ≤ 29 ∧ (∀ y ∈ x.row, (x.lo : Int) ≤ y.1 ∧ Exts.fin y ≤ x.hi ∧ 1 ≤ y.2.2 ∧ y.2.2 ≤ 3 ∧ 1 ≤ y.2.1 ∧ y.2.1 ≤ 2000) ∧ (∀ y ∈ x.row, GR y) ∧ fitsT x.lo x.hi x.row = true := by
 have h1 : x.lo ≤ x.hi ∧ x.hi ≤ 299 := by unfold StepV.lo StepV.hi; omega
 have hr : Exts.Row x.row := rowAt_row _ _ _ _ (by omega) (by omega) h1.2 _ _ _
 have hl : x.row.length ≤ 29 := by
  have := rowAt_len x.hi (1 + x.len % 3) (x.gap % 3) x.pos (x.many % 30) 0 x.lo
  unfold StepV.row
  omega
 have ha : ∀ y ∈ x.row, (x.lo : Int) ≤ y.1 ∧ Exts.fin y ≤ x.hi ∧ 1 ≤ y.2.2 ∧ y.2.2 ≤ 3 ∧ 1 ≤ y.2.1 ∧ y.2.1 ≤ 2000 := fun y hy => by
  have := rowAt_all _ _ _ _ _ _ _ y hy
  omega
 refine ⟨h1.1, h1.2, hr, hl, ha, fun y hy => ?_, ?_⟩
 ·have := ha y hy
  unfold GR
  omega
 ·exact fits_mk (by omega) (by omega) (by omega) hr (fun y hy => ⟨(ha y hy).1, (ha y hy).2.1⟩)
def wantB (R : EL) (k : Int) : Int := (Exts.blk R k).getD 0
theorem blk_pos {R : EL} (hr : Exts.Row R) {k p : Int} (h : Exts.blk R k = some p) : 1 ≤ p := by
 induction R with
 | nil => cases h
 | cons x R ih =>
  rw [Exts.blk_cons] at h
  split at h
  ·rename_i hk
   injection h with h
   have := hr.1
   unfold Exts.may at this
   omega
  ·exact ih hr.2.2 h
theorem find_want {R : EL} (hr : Exts.Row R) (k : Int) : (Exts.findR R k).1 = wantB R k ∧ (Exts.findR R k).2.2 = decide (0 < wantB R k) := by
 have hok := Exts.check_row.2 hr
 unfold wantB
 cases h : Exts.at_ R k with
 | none =>
  have hb : Exts.blk R k = none := by unfold Exts.blk; rw [h]; rfl
  rw [Exts.findR_none hok h, hb]
  exact ⟨rfl, rfl⟩
 | some q =>
  obtain ⟨p, m⟩ := q
  have hb : Exts.blk R k = some p := by unfold Exts.blk; rw [h]; rfl
  have := blk_pos hr hb
  rw [Exts.findR_some hok h, hb]
  refine ⟨rfl, ?_⟩
  simp
  omega
theorem want_repl {R l : EL} {a b : Int} (hr : Exts.Row R) (hf : fitsT a b l = true) (k : Int) : wantB (replT R a b l) k = if a ≤ k ∧ k < b then wantB l k else wantB R k := by
 obtain ⟨g1, g2, g3, g4, g5⟩ := fits_spec hf
 by_cases e : a = b
 ·unfold replT
  rw [if_pos e, if_neg (by omega)]
 ·rw [repl_eq hr g1 g2 g3 e]
  unfold wantB
  rw [Exts.blk_change hr l a b k g2 g5]
  split <;> rfl
theorem want_move {R : EL} {y : E} {tt : Int} (hr : Exts.Row R) (hy : y ∈ R) (k : Int) : wantB (R.map (gT (isM y.1 y.2.2) tt)) k = if y.1 ≤ k ∧ k < Exts.fin y then tt + (k - y.1) else wantB R k := by
 unfold wantB
 induction R with
 | nil => cases hy
 | cons x R ih =>
  rw [List.map_cons, Exts.blk_cons, Exts.blk_cons]
  have hfin : Exts.fin (gT (isM y.1 y.2.2) tt x) = Exts.fin x := by
   unfold Exts.fin
   rw [gT_1, gT_3]
  rw [gT_1, hfin]
  have hxm := hr.1
  unfold Exts.may at hxm
  have hxf : Exts.fin x = x.1 + x.2.2 := rfl
  by_cases hxy : isM y.1 y.2.2 x = true
  ·-- this is the ext; those behind stay
   have h1 : x.1 = y.1 ∧ x.2.2 = y.2.2 := by unfold isM at hxy; simpa using hxy
   have hyf : Exts.fin y = y.1 + y.2.2 := rfl
   have hrest : R.map (gT (isM y.1 y.2.2) tt) = R := by
    refine gT_no (List.filter_eq_nil_iff.2 fun z hz hp => ?_)
    have h2 := hr.2.1 z hz
    unfold isM at hp
    simp at hp
    omega
   rw [hrest]
   have hg : (gT (isM y.1 y.2.2) tt x).2.1 = tt := by unfold gT; rw [if_pos hxy]
   rw [hg]
   by_cases hk : x.1 ≤ k ∧ k < Exts.fin x
   ·rw [if_pos hk, if_pos (by omega)]
    simp
    omega
   ·rw [if_neg hk, if_neg (by omega), if_neg hk]
  ·have hyR : y ∈ R := by
    rcases List.mem_cons.1 hy with rfl | hy
    ·exact absurd (by unfold isM; simp) hxy
    ·exact hy
   have h2 := hr.2.1 y hyR
   have hg : gT (isM y.1 y.2.2) tt x = x := by unfold gT; rw [if_neg hxy]
   rw [hg]
   by_cases hk : x.1 ≤ k ∧ k < Exts.fin x
   ·rw [if_pos hk, if_pos hk, if_neg (by omega)]
   ·rw [if_neg hk, if_neg hk]
    exact ih hr.2.2 hyR
def wantT (l : EL) (i n : Nat) (k : Int) : Int := if (l.getD i (0, 0, 0)).1 ≤ k ∧ k < (l.getD i (0, 0, 0)).1 + n then (l.getD i (0, 0, 0)).2.1 + (k - (l.getD i (0, 0, 0)).1) else wantB (l.take i) k
theorem wantT_zero (l : EL) (i : Nat) (k : Int) : wantT l i 0 k = wantB (l.take i) k := by
 unfold wantT
 rw [if_neg (by omega)]
theorem wantT_end {l : EL} (hr : Exts.Row l) (i : Nat) (hi : i < l.length) (n : Nat) (hn : (n : Int) = (l.getD i (0, 0, 0)).2.2) (k : Int) : wantT l i n k = wantB (l.take (i + 1)) k := by
 have e : l.getD i (0, 0, 0) = l[i] := by simp [List.getD, hi]
 unfold wantT wantB
 rw [e] at hn ⊢
 rw [List.take_succ_eq_append_getElem hi, Exts.blk_append]
 have hrow : Exts.Row (l.take i ++ [l[i]]) := by
  have := hr
  rw [← List.take_append_drop (i + 1) l, List.take_succ_eq_append_getElem hi] at this
  exact (Exts.row_append_iff.1 this).1
 have hsep := (Exts.row_append_iff.1 hrow).2.2
 have hf : Exts.fin l[i] = l[i].1 + l[i].2.2 := rfl
 have hb1 : Exts.blk [l[i]] k = if l[i].1 ≤ k ∧ k < Exts.fin l[i] then some (l[i].2.1 + k - l[i].1) else none := by rw [Exts.blk_cons]; rfl
 by_cases hk : l[i].1 ≤ k ∧ k < l[i].1 + n
 ·have hnone : Exts.blk (l.take i) k = none := by
   have gen : ∀ m : EL, (∀ x ∈ m, Exts.fin x ≤ l[i].1) → Exts.blk m k = none := by
    intro m
    induction m with
    | nil => intro _; rfl
    | cons x m ih =>
     intro hx
     rw [Exts.blk_cons, if_neg (by have := hx x (by simp); omega)]
     exact ih (fun z hz => hx z (by simp [hz]))
   exact gen _ (fun x hx => hsep x hx l[i] (by simp))
  rw [if_pos hk, hnone, hb1, if_pos (by omega)]
  simp
  omega
 ·rw [if_neg hk, hb1, if_neg (by omega)]
  cases Exts.blk (l.take i) k <;> rfl
theorem wantT_succ (l : EL) (i n : Nat) (k : Int) : wantT l i (n + 1) k = if k = (l.getD i (0, 0, 0)).1 + n then (l.getD i (0, 0, 0)).2.1 + n else wantT l i n k := by
 unfold wantT
 by_cases h : k = (l.getD i (0, 0, 0)).1 + n
 ·rw [if_pos h, if_pos (by omega)]
  omega
 ·rw [if_neg h]
  by_cases h2 : (l.getD i (0, 0, 0)).1 ≤ k ∧ k < (l.getD i (0, 0, 0)).1 + n
  ·rw [if_pos h2, if_pos (by omega)]
  ·rw [if_neg h2, if_neg (by omega)]
end Go.Proofs.YtgjmeeiejcbjfaaGreat.Forks
namespace Go.Proofs.YtgjmeeiejcbjfaaGreat
open Go.Lib (hid)
open Go Go.RowKit
structure StepIn (x : Forks.StepV) : Prop where
 kind : x.kind < 256
 fr : x.fr < 65536
 tt : x.tt < 65536
 many : x.many < 256
 len : x.len < 256
 gap : x.gap < 256
 pos : x.pos < 65536
def stepC (x : Forks.StepV) : Array Value := #[.int .u8 x.kind, .int .u16 x.fr, .int .u16 x.tt, .int .u8 x.many, .int .u8 x.len, .int .u8 x.gap, .int .u16 x.pos]
theorem rowAt_step (hi n g p m i t : Nat) (h : i < m) : Forks.rowAt hi n g p (m - i) i t = if hi < t + n then [] else ((t : Int), 1 + (((p + 7 * i) % 2000 : Nat) : Int), (n : Int)) :: Forks.rowAt hi n g p (m - (i + 1)) (i + 1) (t + n + g) := by
 rw [show m - i = (m - (i + 1)) + 1 by omega]
 rfl
set_option maxRecDepth 100000 in
set_option maxHeartbeats 4000000 in
theorem row_any (x : Forks.StepV) (hx : StepIn x) (w : World) :
  Calls Tryz.prog 35 #[.agg (stepC x)] w fun e w' => ∃ v, e = .returned (.tuple #[.int .i64 (x.lo : Int), .int .i64 (x.hi : Int), v]) ∧ OwnExts w.heap.size w' v x.row ∧ Below w.heap.size w w' := by
 obtain ⟨i0', hi0, hz0, hz1, hz2⟩ := info_parts info_ext
 have hlo : x.lo = min (x.fr % 300) (x.tt % 300) := rfl
 have hhi : x.hi = max (x.fr % 300) (x.tt % 300) := rfl
 have hrow : Hid (x.row = Forks.rowAt x.hi (1 + x.len % 3) (x.gap % 3) x.pos (x.many % 30 - 0) 0 x.lo) := hid rfl
 obtain ⟨kind, fr, tt, many, len, gap, pos⟩ := x
 obtain ⟨b1, b2, b3, b4, b5, b6, b7⟩ := hx
 dsimp only at b1 b2 b3 b4 b5 b6 b7 hlo hhi hrow
 unfold stepC
 dsimp only
 generalize Forks.StepV.lo _ = lo at *
 generalize Forks.StepV.hi _ = hi at *
 generalize Forks.StepV.row _ = ROW at *
 have x0 := heap_alloc_new w (.cells #[.int .u8 kind, .int .u16 fr, .int .u16 tt, .int .u8 many, .int .u8 len, .int .u8 gap, .int .u16 pos] 86)
 have X0 := hid x0
 have bA := hid ((Below.refl w.heap.size w).alloc (Nat.le_refl _) (.cells #[.int .u8 kind, .int .u16 fr, .int .u16 tt, .int .u8 many, .int .u8 len, .int .u8 gap, .int .u16 pos] 86))
 have c1 := cell_of_row _ _ 1 _ _ _ x0
 have c2 := cell_of_row _ _ 2 _ _ _ x0
 obtain ⟨f3, hf3⟩ : ∃ f3 : Nat, f3 = fr % 300 := ⟨_, rfl⟩
 obtain ⟨t3, ht3⟩ : ∃ t3 : Nat, t3 = tt % 300 := ⟨_, rfl⟩
 obtain ⟨m, hm⟩ : ∃ m : Nat, m = many % 30 := ⟨_, rfl⟩
 obtain ⟨n, hn⟩ : ∃ n : Nat, n = 1 + len % 3 := ⟨_, rfl⟩
 obtain ⟨gp, hg⟩ : ∃ gp : Nat, gp = gap % 3 := ⟨_, rfl⟩
 have y1 : IntKind.i64.wrap ((fr : Int) % 300) = (fr : Int) % 300 := IntWalk.i64_in _ (by omega)
 have y2 : IntKind.i64.wrap ((tt : Int) % 300) = (tt : Int) % 300 := IntWalk.i64_in _ (by omega)
 have y3 : IntKind.u16.wrap ((fr : Int) % 300) = (fr : Int) % 300 := by simp [IntKind.wrap, IntKind.bits, IntKind.signed]; omega
 have y4 : IntKind.u16.wrap ((tt : Int) % 300) = (tt : Int) % 300 := by simp [IntKind.wrap, IntKind.bits, IntKind.signed]; omega
 rw [← hf3, ← ht3] at hlo hhi
 rw [← hm, ← hn, ← hg] at hrow
 have e5 : (fr : Int) % 300 = (f3 : Int) := by omega
 have e6 : (tt : Int) % 300 = (t3 : Int) := by omega
 have f9 : f3 ≤ 299 ∧ t3 ≤ 299 := by omega
 have E5 := hid e5
 have E6 := hid e6
 clear e5 e6 hf3 ht3
 go_enter Tryz.func35, Tryz.ntmps35
 go_upto_region 1 with fail
 go_quiet (fail)
 rw [E5.out, E6.out]
 generalize hw1 : (w.alloc _).drewN _ = w1
 have X1 : Hid (w1.heap[w.heap.size]? = some (.cells #[.int .u8 kind, .int .u16 fr, .int .u16 tt, .int .u8 many, .int .u8 len, .int .u8 gap, .int .u16 pos] 86 (0, 0))) := hid (by rw [← hw1]; exact X0.out)
 have B1 : Hid (Below w.heap.size w w1) := hid (by rw [← hw1]; exact below_drewN bA.out _)
 clear hw1 X0 bA x0 c1 c2 y1 y2 y3 y4 E5 E6
 have s1 : Hid (w.heap.size < w1.heap.size) := hid (lt_of_block X1.out)
 go_upto_if 21 with fail
 go_cut [5, 6] (fun a b wx => a = .int .i64 (lo : Int) ∧ b = .int .i64 (hi : Int) ∧ wx = w1)
 case first =>
  by_cases h : t3 < f3
  ·have d1 : decide ((t3 : Int) < (f3 : Int)) = true := decide_eq_true (by omega)
   have hl : lo = t3 := by omega
   have hh : hi = f3 := by omega
   subst hl
   subst hh
   go_wp2_with fail
   all_goals (go_meet; exact ⟨rfl, rfl, rfl⟩)
  ·have d1 : decide ((t3 : Int) < (f3 : Int)) = false := decide_eq_false (by omega)
   have hl : lo = f3 := by omega
   have hh : hi = t3 := by omega
   subst hl
   subst hh
   go_wp2_with fail
   all_goals (go_meet; exact ⟨rfl, rfl, rfl⟩)
 obtain ⟨rfl, rfl, hwd⟩ := hcut
 subst hwd
 have hl1 : lo ≤ 299 ∧ hi ≤ 299 := by omega
 have hm29 : m ≤ 29 := by omega
 have hn3 : 1 ≤ n ∧ n ≤ 3 := by omega
 have hg2 : gp ≤ 2 := by omega
 have hp7 : pos ≤ 65535 := by omega
 have HM := hid hm
 have HN := hid hn
 have HG := hid hg
 clear hm hn hg hlo hhi b1 b2 b3 b4 b5 b6 b7
 go_wp2_with fail
 go_loopw [7, 8, 9, 10] (fun o a q z wr => ∃ (i t : Nat) (acc : EL) (u z' : Value), u = o ∧ z' = z ∧ a = .int .i64 (t : Int) ∧ q = .int .i64 (i : Int) ∧ i ≤ m ∧ t ≤ 305 ∧ acc.length = i ∧ Hid (acc ++ Forks.rowAt hi n gp pos (m - i) i t = ROW) ∧ Hid (OwnExts wc.heap.size wr u acc) ∧ Hid (Below wc.heap.size wc wr)) (fun _ _ q _ _ => m - (intOf q).toNat)
 case atStart => exact ⟨0, lo, [], _, _, rfl, rfl, rfl, rfl, by omega, by omega, rfl, hid (by rw [List.nil_append]; exact hrow.out.symm), hid (World.ownsRow_nil _ _ _ _), hid (Below.refl _ _)⟩
 case round =>
  obtain ⟨i, t, acc, u, z', rfl, rfl, rfl, rfl, hi', ht', hacc, hsp, ho, hb⟩ := hrel
  have X2 : wr.heap[w.heap.size]? = some (.cells #[.int .u8 kind, .int .u16 fr, .int .u16 tt, .int .u8 many, .int .u8 len, .int .u8 gap, .int .u16 pos] 86 (0, 0)) := (hb.out.block _ s1.out).trans X1.out
  have c3 := cell_of_row _ _ 3 _ _ _ X2
  have c4 := cell_of_row _ _ 4 _ _ _ X2
  have c5 := cell_of_row _ _ 5 _ _ _ X2
  have c6 := cell_of_row _ _ 6 _ _ _ X2
  have F : Hid (Below w.heap.size w wr) := hid (B1.out.trans (hb.out.mono B1.out.size))
  by_cases hlt : i < m
  ·have i0 : (0 : Int) ≤ (i : Int) := by omega
   have e1 : (many : Int) % 30 = (m : Int) := by have := HM.out; omega
   have e2 : 1 + (len : Int) % 3 = (n : Int) := by have := HN.out; omega
   have e3 : (gap : Int) % 3 = (gp : Int) := by have := HG.out; omega
   have w1 : IntKind.i64.wrap ((many : Int) % 30) = (many : Int) % 30 := IntWalk.i64_in _ (by omega)
   have w2 : IntKind.i64.wrap ((len : Int) % 3) = (len : Int) % 3 := IntWalk.i64_in _ (by omega)
   have w3 : IntKind.i64.wrap ((gap : Int) % 3) = (gap : Int) % 3 := IntWalk.i64_in _ (by omega)
   have w4 : IntKind.i64.wrap (1 + (len : Int) % 3) = 1 + (len : Int) % 3 := IntWalk.i64_in _ (by omega)
   have w5 : IntKind.u8.wrap ((many : Int) % 30) = (many : Int) % 30 := IntWalk.u8_in _ (by omega)
   have w6 : IntKind.u8.wrap ((len : Int) % 3) = (len : Int) % 3 := IntWalk.u8_in _ (by omega)
   have w7 : IntKind.u8.wrap ((gap : Int) % 3) = (gap : Int) % 3 := IntWalk.u8_in _ (by omega)
   have v1 : IntKind.i64.wrap ((t : Int) + (1 + (len : Int) % 3)) = (t : Int) + (1 + (len : Int) % 3) := IntWalk.i64_in _ (by omega)
   have d0 : decide ((i : Int) < (many : Int) % 30) = true := decide_eq_true (by omega)
   have hst := rowAt_step hi n gp pos m i t hlt
   by_cases hbr : hi < t + n
   ·rw [if_pos hbr] at hst
    have hend : Hid (acc = ROW) := hid (by have := hsp.out; rw [hst, List.append_nil] at this; exact this)
    have d1 : decide ((hi : Int) < (t : Int) + (1 + (len : Int) % 3)) = true := decide_eq_true (by omega)
    have O := hid (World.ownsRow.mono ho.out B1.out.size)
    clear hst hsp ho hb e1 e2 e3 hbr hlt X2
    go_wp2_with fail
    refine bodyPost_ret (v := .tuple #[.int .i64 (lo : Int), .int .i64 (hi : Int), u]) (by simp [results, Tryz.results35, go_sem]) rfl ?_
    exact ⟨u, rfl, by rw [← hend.out]; exact O.out, F.out⟩
   ·rw [if_neg hbr] at hst
    have d1 : decide ((hi : Int) < (t : Int) + (1 + (len : Int) % 3)) = false := decide_eq_false (by omega)
    have w8 : IntKind.i64.wrap (7 * (i : Int)) = 7 * (i : Int) := IntWalk.i64_in _ (by omega)
    have w9 : IntKind.i64.wrap ((pos : Int) + 7 * (i : Int)) = (pos : Int) + 7 * (i : Int) := IntWalk.i64_in _ (by omega)
    have w10 : IntKind.i64.wrap (pos : Int) = (pos : Int) := IntWalk.i64_in _ (by omega)
    have w11 : Int.tmod ((pos : Int) + 7 * (i : Int)) 2000 = ((pos : Int) + 7 * (i : Int)) % 2000 := Int.tmod_eq_emod_of_nonneg (by omega)
    have w12 : IntKind.i64.wrap (((pos : Int) + 7 * (i : Int)) % 2000) = ((pos : Int) + 7 * (i : Int)) % 2000 := IntWalk.i64_in _ (by omega)
    have w13 : IntKind.i64.wrap (1 + ((pos : Int) + 7 * (i : Int)) % 2000) = 1 + ((pos : Int) + 7 * (i : Int)) % 2000 := IntWalk.i64_in _ (by omega)
    have v2 : IntKind.i64.wrap ((t : Int) + (1 + (len : Int) % 3) + (gap : Int) % 3) = (t : Int) + (1 + (len : Int) % 3) + (gap : Int) % 3 := IntWalk.i64_in _ (by omega)
    have hE : Hid (((t : Int), 1 + (((pos + 7 * i) % 2000 : Nat) : Int), (n : Int)) = ((t : Int), 1 + ((pos : Int) + 7 * (i : Int)) % 2000, 1 + (len : Int) % 3)) := hid (by
     rw [show (((pos + 7 * i) % 2000 : Nat) : Int) = ((pos : Int) + 7 * (i : Int)) % 2000 by omega, e2])
    have hT : Hid (((t + n + gp : Nat) : Int) = (t : Int) + (1 + (len : Int) % 3) + (gap : Int) % 3) := hid (by omega)
    rw [hE.out] at hst
    have hnext : Hid ((acc ++ [((t : Int), 1 + ((pos : Int) + 7 * (i : Int)) % 2000, 1 + (len : Int) % 3)]) ++ Forks.rowAt hi n gp pos (m - (i + 1)) (i + 1) (t + n + gp) = ROW) := hid (by
     have := hsp.out
     rw [hst] at this
     rw [List.append_assoc]
     exact this)
    have ht2 : t + n + gp ≤ 305 := by omega
    obtain ⟨au, cu, rfl⟩ := OwnExts.slice ho.out
    have hbz := hb.out.size
    have HO := hid (show (wr.alloc (.cells #[.int .i64 (t : Int), .int .i64 (1 + ((pos : Int) + 7 * (i : Int)) % 2000), .int .i64 (1 + (len : Int) % 3)] 53)).ownsRow wc.heap.size 53 3 (.slice au acc.length cu) acc.length (ecells acc) from own_below ho.out ((Below.refl _ _).alloc (Nat.le_refl _) (.cells #[.int .i64 (t : Int), .int .i64 (1 + ((pos : Int) + 7 * (i : Int)) % 2000), .int .i64 (1 + (len : Int) % 3)] 53)))
    have HB := hid (hb.out.alloc hbz (.cells #[.int .i64 (t : Int), .int .i64 (1 + ((pos : Int) + 7 * (i : Int)) % 2000), .int .i64 (1 + (len : Int) % 3)] 53))
    have hone := ecells_one [((t : Int), 1 + ((pos : Int) + 7 * (i : Int)) % 2000, 1 + (len : Int) % 3)]
    have hB2 : wc.heap.size ≤ (wr.alloc (.cells #[.int .i64 (t : Int), .int .i64 (1 + ((pos : Int) + 7 * (i : Int)) % 2000), .int .i64 (1 + (len : Int) % 3)] 53)).heap.size := by simp; omega
    have hacc2 := hid hacc
    have hal : acc.length ≤ 29 := by omega
    clear hst hsp ho hb e1 e2 e3 hbr X2 hacc
    have ca : (wr.alloc (.cells #[.int .i64 (t : Int), .int .i64 (1 + ((pos : Int) + 7 * (i : Int)) % 2000), .int .i64 (1 + (len : Int) % 3)] 53)).cell? ⟨w.heap.size, 5, none⟩ = some (.int .u8 gap) := by rw [((Below.refl wr.heap.size wr).alloc (Nat.le_refl _) (.cells #[.int .i64 (t : Int), .int .i64 (1 + ((pos : Int) + 7 * (i : Int)) % 2000), .int .i64 (1 + (len : Int) % 3)] 53)).cell (World.block_lt_of_cell? _ _ c5)]; exact c5
    go_wp2_with (first | (at_builtin; refine wpList_append_own _ rfl (.tmp 43) (.tmp 55) 42 rfl wc.heap.size 53 i0' (.agg #[.int .i64 0, .int .i64 0, .int .i64 0]) 3 24 Tryz.underlying42 hi0 hz0 hz1 hz2 rfl (by decide) _ acc.length (ecells acc) rfl HO.out ⟨wr.heap.size, 0, none⟩ 1 1 [.int .i64 (t : Int), .int .i64 (1 + ((pos : Int) + 7 * (i : Int)) % 2000), .int .i64 (1 + (len : Int) % 3)] rfl rfl (World.news_of_block (heap_alloc_new _ _)) hone (by unfold maxLen; omega) (by omega) hB2 ?_))
    intro v' w5' hown hgrow _
    have O5 : Hid (OwnExts wc.heap.size w5' v' (acc ++ [((t : Int), 1 + ((pos : Int) + 7 * (i : Int)) % 2000, 1 + (len : Int) % 3)])) := hid (by
     unfold OwnExts
     rw [List.length_append, ecells_append]
     exact hown)
    have B5 := hid (HB.out.grown hgrow hB2 (fun k hk => (World.ownsRow.lt HO.out k hk).1))
    have X5 : w5'.heap[w.heap.size]? = some (.cells #[.int .u8 kind, .int .u16 fr, .int .u16 tt, .int .u8 many, .int .u8 len, .int .u8 gap, .int .u16 pos] 86 (0, 0)) := (B5.out.block _ s1.out).trans X1.out
    have c55 := cell_of_row _ _ 5 _ _ _ X5
    have hL5 : Hid ((acc ++ [((t : Int), 1 + ((pos : Int) + 7 * (i : Int)) % 2000, 1 + (len : Int) % 3)]).length = i + 1) := hid (by rw [List.length_append, hacc2.out]; rfl)
    clear hown hgrow HO HB X5 ca c3 c4 c5 c6
    go_wp2_with fail
    go_roundw
    case rel => exact ⟨i + 1, t + n + gp, _, _, _, rfl, rfl, by rw [hT.out], by go_num, by omega, ht2, hL5.out, hnext, O5, B5⟩
    case measure => simp [intOf]; omega
  ·obtain rfl : i = m := by omega
   have hend : Hid (acc = ROW) := hid (by have := hsp.out; rw [Nat.sub_self] at this; rw [← this]; simp [Forks.rowAt])
   have w1 : IntKind.i64.wrap ((many : Int) % 30) = (many : Int) % 30 := IntWalk.i64_in _ (by omega)
   have w5 : IntKind.u8.wrap ((many : Int) % 30) = (many : Int) % 30 := IntWalk.u8_in _ (by omega)
   have d0 : decide ((i : Int) < (many : Int) % 30) = false := decide_eq_false (by have := HM.out; omega)
   have O := hid (World.ownsRow.mono ho.out B1.out.size)
   clear hsp ho hb hlt X2
   go_wp2_with fail
   refine bodyPost_ret (v := .tuple #[.int .i64 (lo : Int), .int .i64 (hi : Int), u]) (by simp [results, Tryz.results35, go_sem]) rfl ?_
   exact ⟨u, rfl, by rw [← hend.out]; exact O.out, F.out⟩
end Go.Proofs.YtgjmeeiejcbjfaaGreat
namespace Go.Proofs.YtgjmeeiejcbjfaaGreat
open Go.Lib (hid)
open Go Go.RowKit
variable {w w5 wz wy : World} {D O1 O2 k1 k2 : Nat} {L : List ByteArray} {v : Value}
theorem RepAt.keep {B : Nat} {r : Except Int Forks.SetR} {a1 a2 a3 : Option Addr} {c1 c2 c3 : Nat} (h : RepAt B wz r a1 a2 a3 c1 c2 c3) (hk : ∀ T, T ≠ 58 → KeepT T wz wy) : RepAt B wy r a1 a2 a3 c1 c2 c3 :=
 ⟨own_keepT h.root (hk _ (by decide)), own_keepT h.chgs (hk _ (by decide)), own_keepT h.free (hk _ (by decide))⟩
theorem RepAt.below {B : Nat} {r : Except Int Forks.SetR} {a1 a2 a3 : Option Addr} {c1 c2 c3 : Nat} (h : RepAt B wz r a1 a2 a3 c1 c2 c3) (hb : Below wz.heap.size wz wy) : RepAt B wy r a1 a2 a3 c1 c2 c3 :=
 ⟨h.root.below hb, h.chgs.below hb, h.free.below hb⟩
theorem RepAt.mono {B B' : Nat} {r : Except Int Forks.SetR} {a1 a2 a3 : Option Addr} {c1 c2 c3 : Nat} (h : RepAt B wz r a1 a2 a3 c1 c2 c3) (hb : B' ≤ B) : RepAt B' wz r a1 a2 a3 c1 c2 c3 :=
 ⟨World.ownsRow.mono h.root hb, World.ownsRow.mono h.chgs hb, World.ownsRow.mono h.free hb⟩
def SetRow (w : World) (X : Nat) (r : Except Int Forks.SetR) (a1 a2 a3 : Option Addr) (c1 c2 c3 : Nat) : Prop := w.heap[X]? = some (.cells #[.int .i64 (repD r), .slice a1 (repR r).length c1, .slice a2 (repC r).length c2, .slice a3 (repF r).length c3] 58 (0, 0))
theorem SBase.setAt (h : SBase w w5 D O1 O2 L v k1 k2 wz) {g k : Nat} {u : Value} {cs : Array Value} {T : TypeId} {fr : Nat × Nat} (hg : wz.heap[g]? = some (.cells cs T fr)) (hlo : w5.heap.size ≤ g) (h1 : 9 ≠ T) (h2 : 68 ≠ T) : SBase w w5 D O1 O2 L v k1 k2 (wz.setCell ⟨g, k, none⟩ u) :=
 ⟨h.row.keepT (KeepT.set (a := ⟨g, k, none⟩) hg h1), KeepT.set (a := ⟨g, k, none⟩) hg h2 _ _ _ h.one, KeepT.set (a := ⟨g, k, none⟩) hg h2 _ _ _ h.two, h.bel.setCell hlo _, h.old, h.lo1, h.lo2, h.ne, h.loD⟩
theorem set_cells {X : Nat} {x y z u : Value} {T : TypeId} (h : wz.heap[X]? = some (.cells #[x, y, z, u] T (0, 0))) : wz.cell? ⟨X, 0, none⟩ = some x ∧ wz.cell? ⟨X, 1, none⟩ = some y ∧ wz.cell? ⟨X, 2, none⟩ = some z ∧ wz.cell? ⟨X, 3, none⟩ = some u ∧ wz.frozen? ⟨X, 0, none⟩ = false ∧ wz.frozen? ⟨X, 1, none⟩ = false ∧ wz.frozen? ⟨X, 2, none⟩ = false ∧ wz.frozen? ⟨X, 3, none⟩ = false :=
 ⟨cell_of_row _ _ 0 _ _ _ h, cell_of_row _ _ 1 _ _ _ h, cell_of_row _ _ 2 _ _ _ h, cell_of_row _ _ 3 _ _ _ h, free_zero h 0, free_zero h 1, free_zero h 2, free_zero h 3⟩
theorem read_keep {X : Nat} {o1 o2 ob : Obj} (h : wy = (wz.alloc o1).alloc o2) (hb : wz.heap[X]? = some ob) : wy.heap[X]? = some ob := by subst h; exact heap_alloc_at (heap_alloc_at hb _) _
theorem SBase.readP (h : SBase w w5 D O1 O2 L v k1 k2 wz) (hL : L.length = 4096) (bad : Int) (P : Nat) (hP : wz.heap.size = P) (wy : World) (hw : wy = (wz.alloc (.cells #[.slice (some ⟨D, 0, none⟩) 4096 4096] 40)).alloc (.cells #[.int .i64 bad] 3)) :
  SBase w w5 D O1 O2 L v k1 k2 wy ∧ DiskAt wy.heap.size wy (RDV P (P + 1)) ⟨L, bad⟩ := by
 subst hw hP
 exact h.read hL bad
structure SX (w w5 : World) (D O1 O2 X M : Nat) (L : List ByteArray) (v : Value) (k1 k2 : Nat) (d : Int) (a1 a2 a3 : Option Addr) (n1 n2 n3 c1 c2 c3 : Nat) (rv cv fv : Value) (R : EL) (C : CL) (F : IL) (wz : World) : Prop where
 base : SBase w w5 D O1 O2 L v k1 k2 wz
 res : wz.heap[X]? = some (.cells #[.int .i64 d, .slice a1 n1 c1, .slice a2 n2 c2, .slice a3 n3 c3] 58 (0, 0))
 x1 : ∃ xs, wz.ownsRow w5.heap.size 31 3 (.slice a1 n1 c1) n1 xs
 x2 : ∃ xs, wz.ownsRow w5.heap.size 72 2 (.slice a2 n2 c2) n2 xs
 x3 : ∃ xs, wz.ownsRow w5.heap.size 3 1 (.slice a3 n3 c3) n3 xs
 hi1 : ∀ g, a1 = some g → g.block < M
 hi2 : ∀ g, a2 = some g → g.block < M
 hi3 : ∀ g, a3 = some g → g.block < M
 root : OwnEnts M wz rv R
 chgs : OwnChgs M wz cv C
 free : OwnInts M wz fv F
section
variable {X M n1 n2 n3 c1 c2 c3 : Nat} {d : Int} {a1 a2 a3 : Option Addr} {rv cv fv : Value} {R : EL} {C : CL} {F : IL}
theorem SX.below (h : SX w w5 D O1 O2 X M L v k1 k2 d a1 a2 a3 n1 n2 n3 c1 c2 c3 rv cv fv R C F wz) (hb : Below wz.heap.size wz wy) : SX w w5 D O1 O2 X M L v k1 k2 d a1 a2 a3 n1 n2 n3 c1 c2 c3 rv cv fv R C F wy := by
 have own : ∀ {B T sz a n xs}, wz.ownsRow B T sz a n xs → wy.ownsRow B T sz a n xs := fun h => ⟨h.1, h.2.imp id (fun ⟨g', cap, cur, hv, hg', hh, r⟩ => ⟨g', cap, cur, hv, hg', by rw [hb.block _ (lt_of_block hh)]; exact hh, r⟩)⟩
 exact ⟨h.base.below hb, (hb.block _ (lt_of_block h.res)).trans h.res, h.x1.imp fun _ => own, h.x2.imp fun _ => own, h.x3.imp fun _ => own, h.hi1, h.hi2, h.hi3, own h.root, own h.chgs, own h.free⟩
theorem SX.put2 (h : SX w w5 D O1 O2 X M L v k1 k2 d a1 a2 a3 n1 n2 n3 c1 c2 c3 rv cv fv R C F wz) {g k : Nat} (ha : a2 = some ⟨g, 0, none⟩) (hk : k < n2 * 2) (u : Value) : SX w w5 D O1 O2 X M L v k1 k2 d a1 a2 a3 n1 n2 n3 c1 c2 c3 rv cv fv R C F (wz.setCell ⟨g, k, none⟩ u) := by
 subst ha
 obtain ⟨xs, hx⟩ := h.x2
 obtain ⟨g', e, hg, cs, hc⟩ := own_form hx (by omega)
 cases e
 have hM : g < M := h.hi2 _ rfl
 have kp : ∀ {T}, T ≠ 72 → KeepT T wz (wz.setCell ⟨g, k, none⟩ u) := fun hT => KeepT.set (a := ⟨g, k, none⟩) hc hT
 exact ⟨h.base.setAt hc hg (by decide) (by decide), kp (by decide) _ _ _ h.res, h.x1.imp fun _ => (own_keepT · (kp (by decide))), ⟨_, ownsRow_set hx k hk u⟩, h.x3.imp fun _ => (own_keepT · (kp (by decide))), h.hi1, h.hi2, h.hi3, own_setAt u h.root hM, own_setAt u h.chgs hM, own_setAt u h.free hM⟩
theorem SX.start {r : Except Int Forks.SetR} (hb : SBase w w5 D O1 O2 L v k1 k2 wz) (hs : SetRow wz X r a1 a2 a3 c1 c2 c3) (hr : RepAt w5.heap.size wz r a1 a2 a3 c1 c2 c3) : SX w w5 D O1 O2 X wz.heap.size L v k1 k2 (repD r) a1 a2 a3 (repR r).length (repC r).length (repF r).length c1 c2 c3 (.slice none 0 0) (.slice none 0 0) (.slice none 0 0) [] [] [] wz := by
 have lt : ∀ {B sz n c : Nat} {T : TypeId} {a : Option Addr} {xs : List Value}, wz.ownsRow B T sz (.slice a n c) n xs → ∀ g, a = some g → g.block < wz.heap.size := fun h g hg => by
  subst hg
  rcases h.2 with ⟨h1, _⟩ | ⟨g', cap, cur, hv, _, hh, _⟩
  ·cases h1
  ·cases hv
   exact lt_of_block hh
 exact ⟨hb, hs, ⟨_, hr.root⟩, ⟨_, hr.chgs⟩, ⟨_, hr.free⟩, lt hr.root, lt hr.chgs, lt hr.free, World.ownsRow_nil _ _ _ _, World.ownsRow_nil _ _ _ _, World.ownsRow_nil _ _ _ _⟩
theorem SX.readP (h : SX w w5 D O1 O2 X M L v k1 k2 d a1 a2 a3 n1 n2 n3 c1 c2 c3 rv cv fv R C F wz) (hL : L.length = 4096) (bad : Int) (P : Nat) (hP : wz.heap.size = P) (wy : World) (hw : wy = (wz.alloc (.cells #[.slice (some ⟨D, 0, none⟩) 4096 4096] 40)).alloc (.cells #[.int .i64 bad] 3)) :
  SX w w5 D O1 O2 X M L v k1 k2 d a1 a2 a3 n1 n2 n3 c1 c2 c3 rv cv fv R C F wy ∧ DiskAt wy.heap.size wy (RDV P (P + 1)) ⟨L, bad⟩ := by
 obtain ⟨h1, h2⟩ := h.base.readP hL bad P hP wy hw
 subst hw
 exact ⟨h.below (((Below.refl _ _).alloc (Nat.le_refl _) _).alloc (by simp) _), h2⟩
theorem put4_other {Y b : Nat} {x y z u : Value} (hb : b ≠ Y) : (put4 wz Y x y z u).heap[b]? = wz.heap[b]? := by
 unfold put4
 rw [Below.heap_setCell _ _ _ _ hb, Below.heap_setCell _ _ _ _ hb, Below.heap_setCell _ _ _ _ hb, Below.heap_setCell _ _ _ _ hb]
end
end Go.Proofs.YtgjmeeiejcbjfaaGreat
namespace Go.Proofs.YtgjmeeiejcbjfaaGreat
open Go.Lib (hid)
open Go Go.RowKit
theorem info_bool : (Tryz.prog.info? 4).map (fun i => (i.zero, i.size, i.bytes)) = some (some (.bool false), 1, 1) := by kernel_rfl
def UBlk (w : World) (U : Nat) (us : List Bool) : Prop := w.heap[U]? = some (.cells (us.map Value.bool).toArray 4 (0, 0))
theorem UBlk.cell {w : World} {U : Nat} {us : List Bool} (h : UBlk w U us) {b : Nat} (hb : b < us.length) : w.cell? ⟨U, b, none⟩ = some (.bool (us.getD b true)) := by
 rw [cell_of_row w U b _ _ _ h]
 simp [List.getD, hb]
theorem UBlk.set {w : World} {U : Nat} {us : List Bool} (h : UBlk w U us) (b : Nat) (x : Bool) : UBlk (w.setCell ⟨U, b, none⟩ (.bool x)) U (us.set b x) := by
 have := block_setCell h b (.bool x)
 unfold UBlk
 rw [this, List.map_set]
 simp
def FRw (W U : Nat) (us : List Bool) (w : World) : Prop := us.length = 4096 ∧ w.cell? ⟨W, 3, none⟩ = some (.slice (some ⟨U, 0, none⟩) 4096 4096) ∧ UBlk w U us ∧ W ≠ U
set_option maxRecDepth 100000 in
theorem next_first {us : List Bool} {b : Nat} (h1 : 2048 ≤ b) (h2 : b < 4096) (h3 : us.getD b true = false) (h4 : ∀ c, 2048 ≤ c → c < b → us.getD c true = true) : nextB us = some b := by
 unfold nextB
 rw [List.find?_eq_some_iff_append]
 refine ⟨by rw [h3]; rfl, ((List.range 4096).drop 2048).take (b - 2048), ((List.range 4096).drop 2048).drop (b - 2048 + 1), ?_, fun c hc => ?_⟩
 ·have hl : b - 2048 < ((List.range 4096).drop 2048).length := by rw [List.length_drop, List.length_range]; omega
  conv => lhs; rw [← List.take_append_drop (b - 2048) ((List.range 4096).drop 2048)]
  rw [List.drop_eq_getElem_cons hl]
  congr 2
  rw [List.getElem_drop, List.getElem_range]
  omega
 ·obtain ⟨i, hi, rfl⟩ := List.mem_iff_getElem.1 hc
  rw [List.length_take] at hi
  rw [List.getElem_take, List.getElem_drop, List.getElem_range, h4 _ (by omega) (by omega)]
  rfl
set_option maxRecDepth 100000 in
theorem next_none {us : List Bool} (h : ∀ c, 2048 ≤ c → c < 4096 → us.getD c true = true) : nextB us = none := by
 unfold nextB
 rw [List.find?_eq_none]
 intro c hc
 have := Forks.mem_high.1 hc
 rw [h c this.1 this.2]
 decide
set_option maxRecDepth 100000 in
theorem worldFn (W U K0 : Nat) (hW : W < K0) (hU : U < K0) : FreshFn (List Bool) K0 U 32 #[.pointer (some ⟨W, 0, none⟩)] Forks.nextW (FRw W U) (fun _ => 0) := by
 refine ⟨.inr (.inl ⟨rfl, W, rfl⟩), fun us wz h _ => ?_, fun us wz wz' h hb => ?_, fun _ => Nat.zero_le _, hU⟩
 ·obtain ⟨hl, h3, hu, hne⟩ := h
  refine (fresh_any W U us wz h3 (fun b hb => hu.cell (by omega)) (fun b => free_zero hu b)).mono ?_
  rintro e w' (⟨b, h1, h2, h4, h5, rfl, rfl⟩ | ⟨h4, rfl, rfl⟩)
  ·have hn : Forks.nextW us = (some (b : Int), us.set b true) := by
    unfold Forks.nextW
    rw [next_first h1 h2 h4 h5]
   rw [hn]
   refine ⟨rfl, ⟨by rw [List.length_set]; exact hl, ?_, hu.set b true, hne⟩, .set wz b _, .of_all (S := 4) (fun T hT => KeepT.set (a := ⟨U, b, none⟩) hu hT)⟩
   rw [World.cell?_of_block (Below.heap_setCell _ _ _ _ hne)]
   exact h3
  ·have hn : Forks.nextW us = (none, us) := by
    unfold Forks.nextW
    rw [next_none h4]
   rw [hn]
   exact ⟨rfl, ⟨hl, h3, hu, hne⟩, .refl _ _, .refl _⟩
 ·obtain ⟨hl, h3, hu, hne⟩ := h
  refine ⟨hl, (hb.cell (p := ⟨W, 3, none⟩) hW).trans h3, ?_, hne⟩
  unfold UBlk
  rw [hb.block U hU]
  exact hu
def WBlk (w : World) (W D U : Nat) (d : Int) (rv : Value) : Prop := w.heap[W]? = some (.cells #[.slice (some ⟨D, 0, none⟩) 4096 4096, .int .i64 d, rv, .slice (some ⟨U, 0, none⟩) 4096 4096] 79 (0, 0))
structure WorldAt (B : Nat) (w : World) (W D U : Nat) (us : List Bool) (L : List ByteArray) (d : Int) (rv : Value) (root : EL) : Prop where
 blk : WBlk w W D U d rv
 row : Row w D 9 (L.map .string)
 use : UBlk w U us
 root : OwnEnts B w rv root
 loW : B ≤ W
 loD : B ≤ D
 loU : B ≤ U
 neD : W ≠ D
 neU : W ≠ U
 neDU : D ≠ U
variable {B W D U : Nat} {us : List Bool} {L : List ByteArray} {d : Int} {rv : Value} {root : EL} {w w' : World}
theorem WorldAt.cells (h : WorldAt B w W D U us L d rv root) : w.cell? ⟨W, 0, none⟩ = some (.slice (some ⟨D, 0, none⟩) 4096 4096) ∧ w.cell? ⟨W, 1, none⟩ = some (.int .i64 d) ∧ w.cell? ⟨W, 2, none⟩ = some rv ∧ w.cell? ⟨W, 3, none⟩ = some (.slice (some ⟨U, 0, none⟩) 4096 4096) ∧ ∀ k, w.frozen? ⟨W, k, none⟩ = false :=
 ⟨cell_of_row w W 0 _ _ _ h.blk, cell_of_row w W 1 _ _ _ h.blk, cell_of_row w W 2 _ _ _ h.blk, cell_of_row w W 3 _ _ _ h.blk, free_zero h.blk⟩
theorem WorldAt.below (h : WorldAt B w W D U us L d rv root) (hb : Below w.heap.size w w') : WorldAt B w' W D U us L d rv root := by
 refine ⟨?_, h.row.below hb h.row.lt, ?_, h.root.below hb, h.loW, h.loD, h.loU, h.neD, h.neU, h.neDU⟩
 ·unfold WBlk
  rw [hb.block W (lt_of_block h.blk)]
  exact h.blk
 ·unfold UBlk
  rw [hb.block U (lt_of_block h.use)]
  exact h.use
theorem WorldAt.fr (h : WorldAt B w W D U us L d rv root) (hu : us.length = 4096) : FRw W U us w := ⟨hu, h.cells.2.2.2.1, h.use, h.neU⟩
theorem WorldAt.only {us' : List Bool} (h : WorldAt B w W D U us L d rv root) (hb : OnlyM U w w') (hu : UBlk w' U us') (hr : ∀ rg, rv.ownBlock = some rg → rg ≠ U) : WorldAt B w' W D U us' L d rv root := by
 refine ⟨?_, ?_, hu, ?_, h.loW, h.loD, h.loU, h.neD, h.neU, h.neDU⟩
 ·unfold WBlk
  rw [hb.block W (lt_of_block h.blk) h.neU]
  exact h.blk
 ·obtain ⟨fr, h1, h2⟩ := h.row
  exact ⟨fr, by rw [hb.block D (lt_of_block h1) h.neDU]; exact h1, h2⟩
 ·obtain ⟨h1, h2⟩ := h.root
  refine ⟨h1, h2.imp id ?_⟩
  rintro ⟨g, cap, cur, hv, hg, hh, r⟩
  subst hv
  exact ⟨g, cap, cur, rfl, hg, by rw [hb.block g (lt_of_block hh) (hr g rfl)]; exact hh, r⟩
end Go.Proofs.YtgjmeeiejcbjfaaGreat
namespace Go.Proofs.YtgjmeeiejcbjfaaGreat
open Go.Lib (hid)
open Go Go.RowKit
structure OnlyW (W D U : Nat) (w w' : World) : Prop where
 os : w'.os = w.os
 tape : w'.tape = w.tape
 output : w'.output = w.output
 size : w.heap.size ≤ w'.heap.size
 block : ∀ k, k < w.heap.size → k ≠ W → k ≠ D → k ≠ U → w'.heap[k]? = w.heap[k]?
section
variable {W D U : Nat} {a b c : World}
theorem OnlyW.refl (W D U : Nat) (w : World) : OnlyW W D U w w := ⟨rfl, rfl, rfl, Nat.le_refl _, fun _ _ _ _ _ => rfl⟩
theorem OnlyW.trans (h1 : OnlyW W D U a b) (h2 : OnlyW W D U b c) : OnlyW W D U a c :=
 ⟨h2.os.trans h1.os, h2.tape.trans h1.tape, h2.output.trans h1.output, Nat.le_trans h1.size h2.size, fun k hk g1 g2 g3 => (h2.block k (Nat.lt_of_lt_of_le hk h1.size) g1 g2 g3).trans (h1.block k hk g1 g2 g3)⟩
theorem OnlyW.of_below (h : Below a.heap.size a b) : OnlyW W D U a b := ⟨h.os, h.tape, h.output, h.size, fun k hk _ _ _ => h.block k hk⟩
theorem OnlyW.of_only (h : OnlyM U a b) : OnlyW W D U a b := ⟨h.os, h.tape, h.output, h.size, fun k hk _ _ g => h.block k hk g⟩
theorem OnlyW.set (w : World) (X k : Nat) (v : Value) (h : X = W ∨ X = D ∨ X = U) : OnlyW W D U w (w.setCell ⟨X, k, none⟩ v) :=
 ⟨rfl, rfl, rfl, by simp, fun j hj h1 h2 h3 => Below.heap_setCell _ _ _ _ (by rcases h with rfl | rfl | rfl <;> assumption)⟩
theorem OnlyW.below {B : Nat} (h : OnlyW W D U a b) (hB : B ≤ a.heap.size) (hW : B ≤ W) (hD : B ≤ D) (hU : B ≤ U) : Below B a b :=
 ⟨h.os, h.tape, h.output, h.size, fun k hk => h.block k (by omega) (by omega) (by omega) (by omega)⟩
end
section
variable {B W D U X : Nat} {us : List Bool} {L : List ByteArray} {d sd : Int} {rv rv' cv fv : Value} {root root' : EL} {C : CL} {F : IL} {w0 w w' : World}
structure PutSt (B : Nat) (w0 : World) (W D U X : Nat) (us : List Bool) (L : List ByteArray) (d : Int) (rv : Value) (root : EL) (sd : Int) (rv' cv fv : Value) (root' : EL) (C : CL) (F : IL) (w : World) : Prop where
 wa : WorldAt B w W D U us L d rv root
 set : w.heap[X]? = some (.cells #[.int .i64 sd, rv', cv, fv] 58 (0, 0))
 nr : OwnEnts B w rv' root'
 nc : OwnChgs B w cv C
 nf : OwnInts B w fv F
 only : OnlyW W D U w0 w
theorem PutSt.below (h : PutSt B w0 W D U X us L d rv root sd rv' cv fv root' C F w) (hb : Below w.heap.size w w') : PutSt B w0 W D U X us L d rv root sd rv' cv fv root' C F w' :=
 ⟨h.wa.below hb, (hb.block _ (lt_of_block h.set)).trans h.set, h.nr.below hb, h.nc.below hb, h.nf.below hb, h.only.trans (.of_below hb)⟩
theorem PutSt.chg (h : PutSt B w0 W D U X us L d rv root sd rv' cv fv root' C F w) (b : Nat) (s : ByteArray) : PutSt B w0 W D U X us (L.set b s) d rv root sd rv' cv fv root' C F (w.setCell ⟨D, b, none⟩ (.string s)) := by
 obtain ⟨fr, h1, h2⟩ := h.wa.row
 have hk : ∀ {T : TypeId}, T ≠ 9 → KeepT T w (w.setCell ⟨D, b, none⟩ (.string s)) := fun hT => KeepT.set (a := ⟨D, b, none⟩) h1 hT
 refine ⟨⟨hk (by decide) _ _ _ h.wa.blk, ?_, hk (by decide) _ _ _ h.wa.use, own_keepT h.wa.root (hk (by decide)), h.wa.loW, h.wa.loD, h.wa.loU, h.wa.neD, h.wa.neU, h.wa.neDU⟩, hk (by decide) _ _ _ h.set, own_keepT h.nr (hk (by decide)), own_keepT h.nc (hk (by decide)), own_keepT h.nf (hk (by decide)), h.only.trans (.set _ _ _ _ (.inr (.inl rfl)))⟩
 have := h.wa.row.set b (.string s)
 rwa [← List.map_set] at this
theorem PutSt.frd (h : PutSt B w0 W D U X us L d rv root sd rv' cv fv root' C F w) (b : Nat) : PutSt B w0 W D U X (us.set b false) L d rv root sd rv' cv fv root' C F (w.setCell ⟨U, b, none⟩ (.bool false)) := by
 have h1 := h.wa.use
 have hk : ∀ {T : TypeId}, T ≠ 4 → KeepT T w (w.setCell ⟨U, b, none⟩ (.bool false)) := fun hT => KeepT.set (a := ⟨U, b, none⟩) h1 hT
 exact ⟨⟨hk (by decide) _ _ _ h.wa.blk, h.wa.row.keepT (hk (by decide)), h1.set b false, own_keepT h.wa.root (hk (by decide)), h.wa.loW, h.wa.loD, h.wa.loU, h.wa.neD, h.wa.neU, h.wa.neDU⟩, hk (by decide) _ _ _ h.set, own_keepT h.nr (hk (by decide)), own_keepT h.nc (hk (by decide)), own_keepT h.nf (hk (by decide)), h.only.trans (.set _ _ _ _ (.inr (.inr rfl)))⟩
theorem PutSt.done (h : PutSt B w0 W D U X us L d rv root sd rv' cv fv root' C F w) : WorldAt B ((w.setCell ⟨W, 1, none⟩ (.int .i64 sd)).setCell ⟨W, 2, none⟩ rv') W D U us L sd rv' root' ∧ OnlyW W D U w0 ((w.setCell ⟨W, 1, none⟩ (.int .i64 sd)).setCell ⟨W, 2, none⟩ rv') := by
 have h1 := h.wa.blk
 have h2 := block_setCell h1 1 (.int .i64 sd)
 have h3 := block_setCell h2 2 rv'
 have hk : ∀ {T : TypeId}, T ≠ 79 → KeepT T w ((w.setCell ⟨W, 1, none⟩ (.int .i64 sd)).setCell ⟨W, 2, none⟩ rv') := fun hT => (KeepT.set (a := ⟨W, 1, none⟩) h1 hT).trans (KeepT.set (a := ⟨W, 2, none⟩) h2 hT)
 refine ⟨⟨by unfold WBlk; simpa using h3, h.wa.row.keepT (hk (by decide)), hk (by decide) _ _ _ h.wa.use, own_keepT h.nr (hk (by decide)), h.wa.loW, h.wa.loD, h.wa.loU, h.wa.neD, h.wa.neU, h.wa.neDU⟩, (h.only.trans (.set _ _ _ _ (.inl rfl))).trans (.set _ _ _ _ (.inl rfl))⟩
end
theorem cell_str {w : World} {D b : Nat} {L : List ByteArray} (h : Row w D 9 (L.map .string)) (hb : b < L.length) : w.cell? ⟨D, b, none⟩ = some (.string (L.getD b ⟨#[]⟩)) :=
 h.cellAt b (by rw [List.getElem?_map, List.getD_eq_getElem?_getD, List.getElem?_eq_getElem hb]; rfl)
set_option maxRecDepth 100000 in
set_option maxHeartbeats 4000000 in
theorem put_any {B W D U : Nat} {us : List Bool} {L : List ByteArray} {d sd : Int} {rv rv' cv fv : Value} {root root' : EL} {C : CL} {F : IL} {w : World} (h : WorldAt B w W D U us L d rv root) (hB : B ≤ w.heap.size) (hr : OwnEnts B w rv' root') (hc : OwnChgs B w cv C) (hf : OwnInts B w fv F) (hL : L.length = 4096) (hu : us.length = 4096) (hC : ∀ x ∈ C, 0 ≤ x.1 ∧ x.1 < 4096) (hF : ∀ x ∈ F, 0 ≤ x ∧ x < 4096) (hCl : C.length ≤ 1000000) (hFl : F.length ≤ 1000000) :
  Calls Tryz.prog 33 #[.pointer (some ⟨W, 0, none⟩), .agg #[.int .i64 sd, rv', cv, fv]] w fun e w' => e = .returned (.tuple #[]) ∧ WorldAt B w' W D U (Forks.freeT F us) (Forks.putC C L) sd rv' root' ∧ OnlyW W D U w w' := by
 have bA : Below w.heap.size w (w.alloc (.cells #[.int .i64 sd, rv', cv, fv] 58)) := (Below.refl _ _).alloc (Nat.le_refl _) _
 have P0 : Hid (PutSt B w W D U w.heap.size us L d rv root sd rv' cv fv root' C F (w.alloc (.cells #[.int .i64 sd, rv', cv, fv] 58))) := hid ⟨h.below bA, heap_alloc_new w _, hr.below bA, hc.below bA, hf.below bA, .of_below bA⟩
 have HC := hid hC
 have HF := hid hF
 have HL := hid hL
 have HU := hid hu
 obtain ⟨ac, cc, rfl⟩ := hc.slice
 obtain ⟨af, cf, rfl⟩ := (OwnInts.at hf).form
 obtain ⟨ar, cr, rfl⟩ := (OwnEnts.ents hr).ext.form
 clear h hB hr hc hf hL hu hC hF bA
 go_enter Tryz.func33, Tryz.ntmps33
 go_wp2_with fail
 generalize w.alloc _ = w1 at *
 generalize w.heap.size = X at *
 go_loopw [4] (fun q wr => ∃ k : Nat, k ≤ C.length ∧ q = .int .i64 k ∧ Hid (PutSt B w W D U X us (Forks.putC (C.take k) L) d rv root sd (.slice ar root'.length cr) (.slice ac C.length cc) (.slice af F.length cf) root' C F wr)) (fun q _ => C.length - (intOf q).toNat)
 case atStart => exact ⟨0, Nat.zero_le _, rfl, P0⟩
 case round =>
  clear P0
  obtain ⟨k, hk, rfl, hst⟩ := hrel
  obtain ⟨x0, x1, x2, x3, -⟩ := set_cells hst.out.set
  obtain ⟨y0, y1, y2, y3, -⟩ := hst.out.wa.cells
  by_cases hlt : k < C.length
  ·have i0 : (0 : Int) ≤ (k : Int) := by omega
   have i1 : (k : Int) < (C.length : Int) := by omega
   obtain ⟨g, off, rfl, c0, c1⟩ := (OwnChgs.at hst.out.nc).cells k hlt
   have hx := HC.out (C.getD k (0, ⟨#[]⟩)) (by rw [show C.getD k (0, ⟨#[]⟩) = C[k] by simp [List.getD, hlt]]; exact List.getElem_mem _)
   have hn := hst.out.chg (C.getD k (0, ⟨#[]⟩)).1.toNat (C.getD k (0, ⟨#[]⟩)).2
   have e : (Forks.putC (C.take k) L).set (C.getD k (0, ⟨#[]⟩)).1.toNat (C.getD k (0, ⟨#[]⟩)).2 = Forks.putC (C.take (k + 1)) L := by
    have := Forks.fold_take (fun B x => putD x B) L C k hlt (0, ⟨#[]⟩)
    unfold Forks.putC
    rw [this]
    unfold putD
    rw [if_pos hx]
   rw [e] at hn
   have HN := hid hn
   have hDl : (C.getD k (0, ⟨#[]⟩)).1.toNat < (Forks.putC (C.take k) L).length := by rw [Forks.putC_len, HL.out]; omega
   have hf0 : wr.frozen? ⟨D, (C.getD k (0, ⟨#[]⟩)).1.toNat, none⟩ = false := hst.out.wa.row.free _ (by rw [List.length_map]; exact hDl)
   have hcd : wr.cell? ⟨D, (C.getD k (0, ⟨#[]⟩)).1.toNat, none⟩ = some (.string ((Forks.putC (C.take k) L).getD (C.getD k (0, ⟨#[]⟩)).1.toNat ⟨#[]⟩)) := cell_str hst.out.wa.row hDl
   obtain ⟨b, hb⟩ : ∃ b : Nat, (C.getD k (0, ⟨#[]⟩)).1 = (b : Int) := ⟨(C.getD k (0, ⟨#[]⟩)).1.toNat, by omega⟩
   rw [hb] at c0 hx
   rw [hb, Int.toNat_natCast] at HN hf0 hcd
   clear hn e hb hDl
   generalize (C.getD k (0, ⟨#[]⟩)).2 = s at *
   generalize (Forks.putC (C.take k) L).getD b ⟨#[]⟩ = s0 at *
   obtain ⟨j0, j1⟩ := hx
   clear hst x1 y1 y2 y3
   go_upto_region 4 with fail
   go_region
   all_goals
    go_wp2_with fail
    go_roundw
    case rel => exact ⟨k + 1, by omega, by go_num, hid (HN.out.below (Below.refl _ _).drew)⟩
    case measure => simp [intOf]; omega
  ·obtain rfl : k = C.length := by omega
   have hst2 := hst.out
   rw [List.take_length] at hst2
   have HST := hid hst2
   clear hst hst2 hlt y0 y1 y2 y3
   go_wp2_with fail
   clear x0 x1 x2 x3
   go_loopw [5] (fun q wr => ∃ k : Nat, k ≤ F.length ∧ q = .int .i64 k ∧ Hid (PutSt B w W D U X (Forks.freeT (F.take k) us) (Forks.putC C L) d rv root sd (.slice ar root'.length cr) (.slice ac C.length cc) (.slice af F.length cf) root' C F wr)) (fun q _ => F.length - (intOf q).toNat)
   case atStart => exact ⟨0, Nat.zero_le _, rfl, HST⟩
   case round =>
    clear HST
    obtain ⟨k, hk, rfl, hst⟩ := hrel
    obtain ⟨x0, x1, x2, x3, xf⟩ := set_cells hst.out.set
    obtain ⟨y0, y1, y2, y3, yf⟩ := hst.out.wa.cells
    by_cases hlt : k < F.length
    ·have i0 : (0 : Int) ≤ (k : Int) := by omega
     have i1 : (k : Int) < (F.length : Int) := by omega
     obtain ⟨g, off, rfl, c0⟩ := (OwnInts.at hst.out.nf).cells k hlt
     have hx := HF.out (F.getD k 0) (by rw [show F.getD k 0 = F[k] by simp [List.getD, hlt]]; exact List.getElem_mem _)
     have hn := hst.out.frd (F.getD k 0).toNat
     have e : (Forks.freeT (F.take k) us).set (F.getD k 0).toNat false = Forks.freeT (F.take (k + 1)) us := by
      have := Forks.fold_take (fun (u : List Bool) (b : Int) => u.set b.toNat false) us F k hlt 0
      unfold Forks.freeT
      rw [this]
     rw [e] at hn
     have HN := hid hn
     have hul : (F.getD k 0).toNat < (Forks.freeT (F.take k) us).length := by rw [Forks.freeT_len, HU.out]; omega
     have hf0 : wr.frozen? ⟨U, (F.getD k 0).toNat, none⟩ = false := free_zero hst.out.wa.use _
     have hcd : wr.cell? ⟨U, (F.getD k 0).toNat, none⟩ = some (.bool ((Forks.freeT (F.take k) us).getD (F.getD k 0).toNat true)) := hst.out.wa.use.cell hul
     obtain ⟨b, hb⟩ : ∃ b : Nat, F.getD k 0 = (b : Int) := ⟨(F.getD k 0).toNat, by omega⟩
     rw [hb] at c0 hx
     rw [hb, Int.toNat_natCast] at HN hf0 hcd
     clear hn e hb hul
     generalize (Forks.freeT (F.take k) us).getD b true = s0 at *
     obtain ⟨j0, j1⟩ := hx
     clear hst x0 x1 x2 y0 y1 y2 xf yf
     go_upto_region 8 with fail
     go_region
     all_goals
      go_wp2_with fail
      go_roundw
      case rel => exact ⟨k + 1, by omega, by go_num, hid (HN.out.below (Below.refl _ _).drew)⟩
      case measure => simp [intOf]; omega
    ·obtain rfl : k = F.length := by omega
     have hst2 := hst.out
     rw [List.take_length] at hst2
     have HD := hid hst2.done
     have f1 := yf 1
     have f2 := yf 2
     clear hst hst2 hlt y0 y3 yf xf x2
     go_wp2_with fail
     go_end0
     exact ⟨rfl, HD.out.1, HD.out.2⟩
theorem begun_mk (w w1 : World) (D U : Nat) (ba : Below w.heap.size w w1) (hD : w.heap.size ≤ D) (hU : w.heap.size ≤ U) (hne : D ≠ U) (hr : Row w1 D 9 ((diskOf []).map .string)) (hu : UBlk w1 U (List.replicate 4096 false)) (N : Nat) (hN : w1.heap.size = N) (wt : World) (ht : w1.alloc (.cells #[.slice (some ⟨D, 0, none⟩) 4096 4096, .int .i64 0, .slice none 0 0, .slice (some ⟨U, 0, none⟩) 4096 4096] 79) = wt) :
  WorldAt w.heap.size wt N D U (List.replicate 4096 false) (diskOf []) 0 (.slice none 0 0) [] ∧ Below w.heap.size w wt := by
 subst ht
 subst hN
 have hb : Below w1.heap.size w1 (w1.alloc (.cells #[.slice (some ⟨D, 0, none⟩) 4096 4096, .int .i64 0, .slice none 0 0, .slice (some ⟨U, 0, none⟩) 4096 4096] 79)) := (Below.refl _ _).alloc (Nat.le_refl _) _
 have hl := hr.lt
 have hl2 := lt_of_block hu
 refine ⟨⟨heap_alloc_new w1 _, hr.below hb hl, ?_, World.ownsRow_nil _ _ _ _, ba.size, hD, hU, by omega, by omega, hne⟩, ba.trans (hb.mono ba.size)⟩
 unfold UBlk
 rw [hb.block U hl2]
 exact hu
set_option maxRecDepth 100000 in
set_option maxHeartbeats 4000000 in
theorem begun_any (w : World) : Calls Tryz.prog 31 #[] w fun e w' => ∃ W D U, e = .returned (.pointer (some ⟨W, 0, none⟩)) ∧ WorldAt w.heap.size w' W D U (List.replicate 4096 false) (diskOf []) 0 (.slice none 0 0) [] ∧ Below w.heap.size w w' := by
 obtain ⟨ib, hib, hzb, hsb, hbb⟩ := info_parts info_bool
 obtain ⟨bs, hbs⟩ : ∃ bs : Array Value, bs = ((List.replicate 4096 false).map Value.bool).toArray := ⟨_, rfl⟩
 have HBS := hid hbs
 have hmB : ∀ wx : World, (Instr.makeSlice 77 (.int .i64 4096) (.int .i64 4096)).run Tryz.prog wx = .ok (.slice (some ⟨wx.heap.size, 0, none⟩) 4096 4096) (wx.alloc (.cells bs 4)) := fun wx => by
  have hr := run_make (P := Tryz.prog) wx 77 4 ib (.bool false) Tryz.underlying77 hib hzb .i64 .i64 4096 4096 (by omega) (by omega) (by rw [hbb]; omega) (by omega)
  rw [hbs, List.map_replicate]
  have e : (4096 : Int).toNat = 4096 := rfl
  rw [e] at hr
  simpa only [hsb, Value.cells, madeCells_one, Nat.mul_one] using hr
 have qb := hid (fun wx => blocks_any (.slice none 0 0) [] 0 wx (.inl ⟨rfl, rfl⟩) (by simp) (fun x hx => by cases hx))
 have bA : Below w.heap.size w (w.alloc (.cells bs 4)).drew := ((Below.refl _ _).alloc (Nat.le_refl _) _).drew
 have b0 : Below w.heap.size w w.drew := (Below.refl _ _).drew
 have NA : Hid ((w.alloc (.cells bs 4)).drew.heap[w.heap.size]? = some (.cells bs 4)) := hid (heap_alloc_new w (.cells bs 4))
 have hsA : (w.alloc (.cells bs 4)).drew.heap.size = w.heap.size + 1 := by simp
 have hs0 : w.drew.heap.size = w.heap.size := rfl
 clear hbs
 generalize hLD : (diskOf []).map Value.string = LD at *
 go_enter Tryz.func31, Tryz.ntmps31
 go_upto_region 1 with fail
 go_region_held3 (fun w' => True)
   (exact trivial)
   (first
    | (go_at_call 18; (with_reducible refine (qb.out _).mono ?_); rintro e w6 ⟨D, rfl, hD, hrow, b6⟩; have s6 := bA.trans (b6.mono bA.size); have u6 := (b6.block _ (lt_of_block NA.out)).trans NA.out; have Z6 := begun_mk w w6 D w.heap.size s6 (by omega) (Nat.le_refl _) (by omega) (by rw [hLD]; exact hrow) (by unfold UBlk; rw [← HBS.out]; exact u6) _ rfl _ rfl)
    | (go_at_call 18; (with_reducible refine (qb.out _).mono ?_); rintro e w6 ⟨D, rfl, hD, hrow, b6⟩; have s6 := b0.trans (b6.mono b0.size); have t6 := s6.alloc s6.size (.cells bs 4); have u6 := heap_alloc_new w6 (.cells bs 4); have hl6 := hrow.lt; have Z6 := begun_mk w (w6.alloc (.cells bs 4)) D w6.heap.size t6 (by omega) s6.size (by omega) (by rw [hLD]; exact hrow.alloc _) (by unfold UBlk; rw [← HBS.out]; exact u6) (w6.heap.size + 1) (by simp) _ rfl)
    | fail "none")
 all_goals
  go_wp2_with fail
  go_ret
  exact ⟨_, _, _, rfl, Z6.1, Z6.2⟩
end Go.Proofs.YtgjmeeiejcbjfaaGreat
