/- Rows of exts in memory. -/
import Derived.Test.YtgjmeeiejcbjfaaGreatH02
import Derived.Test.YtgjmeeiejcbjfaaGreatH04
import Derived.Deep.CutRange
import Derived.Deep.Onto
import Derived.Deep.RegionHeld3
import Derived.StillTailTactics
set_option linter.unusedSimpArgs false
set_option linter.unusedVariables false
namespace Go.Proofs.YtgjmeeiejcbjfaaGreat
open Go.Lib (hid)
open Go Go.RowKit
abbrev EL := Exts.EL
def ecells (l : EL) : List Value := l.flatMap fun x => [.int .i64 x.1, .int .i64 x.2.1, .int .i64 x.2.2]
theorem ecells_length (l : EL) : (ecells l).length = l.length * 3 := by
 induction l with
 | nil => rfl
 | cons x l ih =>
  have e : ecells (x :: l) = [.int .i64 x.1, .int .i64 x.2.1, .int .i64 x.2.2] ++ ecells l := by simp [ecells]
  rw [e, List.length_append, ih]
  simp only [List.length_cons, List.length_nil]
  omega
theorem ecells_append (a b : EL) : ecells (a ++ b) = ecells a ++ ecells b := by simp [ecells]
theorem ecells_one (l : EL) : ∀ u ∈ ecells l, u.oneCell' = true := by
 intro u hu
 simp only [ecells, List.mem_flatMap] at hu
 obtain ⟨x, _, hx⟩ := hu
 simp at hx
 rcases hx with rfl | rfl | rfl <;> rfl
theorem ecells_at : ∀ (l : EL) (i : Nat), i < l.length → (ecells l)[i * 3]? = some (.int .i64 (l.getD i (0, 0, 0)).1) ∧ (ecells l)[i * 3 + 1]? = some (.int .i64 (l.getD i (0, 0, 0)).2.1) ∧ (ecells l)[i * 3 + 2]? = some (.int .i64 (l.getD i (0, 0, 0)).2.2)
 | [], i, h => by simp at h
 | x :: l, 0, _ => ⟨rfl, rfl, rfl⟩
 | x :: l, i + 1, h => by
  have e : ecells (x :: l) = .int .i64 x.1 :: .int .i64 x.2.1 :: .int .i64 x.2.2 :: ecells l := by simp [ecells]
  obtain ⟨h1, h2, h3⟩ := ecells_at l i (by simpa using h)
  rw [e, show (i + 1) * 3 = i * 3 + 1 + 1 + 1 by omega]
  simp only [List.getElem?_cons_succ, List.getD_cons_succ]
  exact ⟨h1, h2, h3⟩
def ExtsAt (w : World) (v : Value) (l : EL) : Prop :=
 (v = .slice none 0 0 ∧ l = []) ∨ ∃ b off cap, v = .slice (some ⟨b, off, none⟩) l.length cap ∧ ∀ j u, (ecells l)[j]? = some u → w.cell? ⟨b, off + j, none⟩ = some u
theorem ExtsAt.below {w w' : World} {v : Value} {l : EL} {B : Nat} (h : ExtsAt w v l) (hb : Below w.heap.size w w') : ExtsAt w' v l := by
 rcases h with h | ⟨b, off, cap, rfl, hc⟩
 ·exact .inl h
 ·exact .inr ⟨b, off, cap, rfl, fun j u hu => (hb.cell (p := ⟨b, off + j, none⟩) (World.block_lt_of_cell? w _ (hc j u hu))).trans (hc j u hu)⟩
theorem ExtsAt.cells {w : World} {ad : Option Addr} {n cap : Nat} {l : EL} (h : ExtsAt w (.slice ad n cap) l) (i : Nat) (hi : i < l.length) : n = l.length ∧ ∃ g off, ad = some ⟨g, off, none⟩ ∧
  w.cell? ⟨g, off + i * 3, none⟩ = some (.int .i64 (l.getD i (0, 0, 0)).1) ∧ w.cell? ⟨g, off + i * 3 + 1, none⟩ = some (.int .i64 (l.getD i (0, 0, 0)).2.1) ∧ w.cell? ⟨g, off + i * 3 + 2, none⟩ = some (.int .i64 (l.getD i (0, 0, 0)).2.2) := by
 rcases h with ⟨h, rfl⟩ | ⟨b, off, c, h, hc⟩
 ·simp at hi
 ·cases h
  obtain ⟨y0, y1, y2⟩ := ecells_at l i hi
  refine ⟨rfl, b, off, rfl, hc (i * 3) _ y0, ?_, ?_⟩
  ·have := hc (i * 3 + 1) _ y1
   rwa [← Nat.add_assoc] at this
  ·have := hc (i * 3 + 2) _ y2
   rwa [← Nat.add_assoc] at this
def OwnExts (B : Nat) (w : World) (v : Value) (l : EL) : Prop := w.ownsRow B 53 3 v l.length (ecells l)
theorem OwnExts.at {B : Nat} {w : World} {v : Value} {l : EL} (h : OwnExts B w v l) : ExtsAt w v l := by
 rcases h.2 with ⟨rfl, hn⟩ | ⟨g, cap, cur, rfl, hg, hh, h1, h2, h3, h4⟩
 ·exact .inl ⟨rfl, List.eq_nil_of_length_eq_zero hn⟩
 ·refine .inr ⟨g, 0, cap, rfl, fun j u hu => ?_⟩
  have hj : j < l.length * 3 := by
   have := (List.getElem?_eq_some_iff.1 hu).1
   rwa [ecells_length] at this
  rw [Nat.zero_add]
  have e : (cur.toList.take (l.length * 3))[j]? = some u := by rw [h4]; exact hu
  rw [List.getElem?_take, if_pos hj, Array.getElem?_toList] at e
  simp [World.cell?, hh, e]
theorem OwnExts.below {B : Nat} {w w' : World} {v : Value} {l : EL} (h : OwnExts B w v l) (hb : Below w.heap.size w w') : OwnExts B w' v l :=
 ⟨h.1, h.2.imp id (fun ⟨g, cap, cur, hv, hg, hh, r⟩ => ⟨g, cap, cur, hv, hg, by rw [hb.block g (lt_of_block hh)]; exact hh, r⟩)⟩
def SmallE (x : Exts.E) : Prop := (-9223372036854775808 ≤ x.1 ∧ x.1 ≤ 9223372036854775807) ∧ (-9223372036854775808 ≤ x.2.1 ∧ x.2.1 ≤ 9223372036854775807) ∧ (-9223372036854775808 ≤ x.2.2 ∧ x.2.2 ≤ 9223372036854775807)
def SmallsE (l : EL) : Prop := ∀ x ∈ l, SmallE x
theorem SmallsE.at {l : EL} (h : SmallsE l) (i : Nat) (hi : i < l.length) : SmallE (l.getD i (0, 0, 0)) := by
 have e : l.getD i (0, 0, 0) = l[i] := by simp [List.getD, hi]
 rw [e]; exact h _ (List.getElem_mem hi)
theorem SmallsE.row {l : EL} (h : Exts.Row l) : SmallsE l := fun x hx => by
 have := h.may x hx
 unfold Exts.may at this
 unfold SmallE; omega
theorem eend_any (x : Exts.E) (h : -9223372036854775808 ≤ Exts.fin x ∧ Exts.fin x ≤ 9223372036854775807) (w : World) : Calls Tryz.prog 82 #[.agg #[.int .i64 x.1, .int .i64 x.2.1, .int .i64 x.2.2]] w fun e w' => e = .returned (.int .i64 (Exts.fin x)) ∧ Below w.heap.size w w' := by
 have hb : Below w.heap.size w (w.alloc (.cells #[.int .i64 x.1, .int .i64 x.2.1, .int .i64 x.2.2] 53)) := (Below.refl _ _).alloc (Nat.le_refl _) _
 obtain ⟨a, b, c⟩ := x
 unfold Exts.fin at *
 dsimp only at *
 go_enter Tryz.func82, Tryz.ntmps82
 go_wp2_with fail
 go_ret
 exact ⟨rfl, hb⟩
theorem info_ext : (Tryz.prog.info? 53).map (fun i => (i.zero, i.size, i.bytes)) = some (some (.agg #[.int .i64 0, .int .i64 0, .int .i64 0]), 3, 24) := by kernel_rfl
set_option maxHeartbeats 1000000 in
theorem eclone_any (v : Value) (l : EL) (w : World) (h : ExtsAt w v l) (hl : l.length ≤ 1000000000) : Calls Tryz.prog 138 #[v] w fun e w' => ∃ v', e = .returned v' ∧ OwnExts w.heap.size w' v' l ∧ Below w.heap.size w w' := by
 obtain ⟨i0, hi0, hz0, hz1, hz2⟩ := info_parts info_ext
 rcases h with ⟨rfl, rfl⟩ | ⟨b, off, cap, rfl, hc⟩
 ·have hnil : ∀ w : World, (binOp .eql 42 (.slice none 0 0) (.slice none 0 0)).run Tryz.prog w = .ok (.bool true) w := fun w => Lib.run_eql_slice_nil (P := Tryz.prog) w 42 53 none 0 0 0 0 Tryz.underlying42
  go_enter Tryz.func138, Tryz.ntmps138
  go_wp2_with fail
  go_ret
  exact ⟨_, rfl, World.ownsRow_nil _ _ _ _, Below.refl _ _⟩
 ·have hnil : ∀ w : World, (binOp .eql 42 (.slice (some ⟨b, off, none⟩) l.length cap) (.slice none 0 0)).run Tryz.prog w = .ok (.bool false) w := fun w => Lib.run_eql_slice_nil (P := Tryz.prog) w 42 53 (some ⟨b, off, none⟩) l.length cap 0 0 Tryz.underlying42
  have hnews : ∀ j u, (ecells l)[j]? = some u → (w.alloc (.cells #[] 53)).cell? ((⟨b, off, none⟩ : Addr).add j) = some u := fun j u hu => by
   have e1 : (⟨b, off, none⟩ : Addr).add j = ⟨b, off + j, none⟩ := by unfold Addr.add; split <;> simp_all
   rw [e1]
   have := hc j u hu
   exact Lib.cell?_alloc_some _ this
  have hown : (w.alloc (.cells #[] 53)).ownsRow w.heap.size 53 3 (.slice (some ⟨w.heap.size, 0, none⟩) 0 0) 0 [] := World.ownsRow_lit w #[] 0 (Nat.le_refl _) (Nat.zero_le _) rfl
  have hone := ecells_one l
  have hrl := ecells_length l
  have HH := hid hl
  clear hc
  go_enter Tryz.func138, Tryz.ntmps138
  go_wp2_with (first
   | (at_builtin; refine wpList_append_own _ rfl _ _ 42 rfl w.heap.size 53 i0 (.agg #[.int .i64 0, .int .i64 0, .int .i64 0]) 3 24 Tryz.underlying42 hi0 hz0 hz1 hz2 rfl (by decide) _ 0 _ rfl hown ⟨b, off, none⟩ l.length cap (ecells l) rfl hrl hnews hone (by have := HH.out; unfold maxLen; omega) (by have := HH.out; omega) (by simp) ?_))
  intro v' w1 hown1 hgrow _
  have hW : Hid (Below w.heap.size w w1) := hid (((Below.refl _ _).alloc (Nat.le_refl _) (.cells #[] 53)).grown hgrow (by simp) (fun k hk => by have := (hown.lt k hk).1; exact this))
  have hG : Hid (OwnExts w.heap.size w1 v' l) := hid (by
   exact hown1)
  clear hown1 hgrow hown hnews
  go_wp2_with fail
  go_ret
  exact ⟨_, rfl, hG.out, hW.out⟩
theorem esame_no (a1 a2 : Option Addr) (n1 n2 c1 c2 : Nat) (h : n1 ≠ n2) (h1 : n1 ≤ 9223372036854775807) (h2 : n2 ≤ 9223372036854775807) (w : World) :
  Calls Tryz.prog 22 #[.slice a1 n1 c1, .slice a2 n2 c2] w fun e w' => e = .returned (.bool false) ∧ ∃ n, w' = w.drewN n := by
 have hb : ((n1 : Int) != (n2 : Int)) = true := by rw [bne_iff_ne]; omega
 go_enter Tryz.func22, Tryz.ntmps22
 go_wp2_with fail
 go_ret
 exact ⟨rfl, 0, rfl⟩
theorem esame_zero (a1 a2 : Option Addr) (c1 c2 : Nat) (w : World) :
  Calls Tryz.prog 22 #[.slice a1 0 c1, .slice a2 0 c2] w fun e w' => e = .returned (.bool true) ∧ ∃ n, w' = w.drewN n := by
 go_enter Tryz.func22, Tryz.ntmps22
 go_wp2_with fail
 refine wp_loop_rounds 1 ?_
 rw [rounds_succ]
 go_wp2_with fail
 go_ret
 exact ⟨rfl, 0, rfl⟩
set_option maxHeartbeats 2000000 in
theorem esame_some (w : World) (b1 o1 c1 b2 o2 c2 : Nat) (l1 l2 : EL) (hn : l2.length = l1.length) (hb : l1.length ≤ 9223372036854775807)
  (h1 : ∀ j u, (ecells l1)[j]? = some u → w.cell? ⟨b1, o1 + j, none⟩ = some u) (h2 : ∀ j u, (ecells l2)[j]? = some u → w.cell? ⟨b2, o2 + j, none⟩ = some u) :
  Calls Tryz.prog 22 #[.slice (some ⟨b1, o1, none⟩) l1.length c1, .slice (some ⟨b2, o2, none⟩) l1.length c2] w fun e w' => e = .returned (.bool (l1 == l2)) ∧ ∃ n, w' = w.drewN n := by
 have H1 := hid h1
 have H2 := hid h2
 have HN := hid hn
 clear h1 h2 hn
 go_enter Tryz.func22, Tryz.ntmps22
 go_wp2_with fail
 go_loopw [5] (fun q wr => ∃ i : Nat, i ≤ l1.length ∧ q = .int .i64 i ∧ Hid (l1.take i = l2.take i) ∧ Hid (∃ n, wr = w.drewN n)) (fun q _ => l1.length - (intOf q).toNat)
 case atStart => exact ⟨0, by omega, rfl, hid (by simp), hid ⟨0, rfl⟩⟩
 case round =>
  obtain ⟨i, hi, rfl, hp, hw⟩ := hrel
  by_cases hlt : i < l1.length
  ·have hlt2 : i < l2.length := by rw [HN.out]; exact hlt
   obtain ⟨m, hm⟩ := hw.out
   have c1a := H1.out (i * 3) _ (ecells_at l1 i hlt).1
   have c1b := H1.out (i * 3 + 1) _ (ecells_at l1 i hlt).2.1
   have c1c := H1.out (i * 3 + 2) _ (ecells_at l1 i hlt).2.2
   have c2a := H2.out (i * 3) _ (ecells_at l2 i hlt2).1
   have c2b := H2.out (i * 3 + 1) _ (ecells_at l2 i hlt2).2.1
   have c2c := H2.out (i * 3 + 2) _ (ecells_at l2 i hlt2).2.2
   generalize hx : l1.getD i (0, 0, 0) = x at c1a c1b c1c
   generalize hy : l2.getD i (0, 0, 0) = y at c2a c2b c2c
   have HX := hid hx
   have HY := hid hy
   obtain ⟨x1, x2, x3⟩ := x
   obtain ⟨y1, y2, y3⟩ := y
   have e1 : wr.cell? = w.cell? := by rw [hm]; rfl
   rw [← e1] at c1a c1b c1c c2a c2b c2c
   simp only [← Nat.add_assoc] at c1b c1c c2b c2c
   clear hx hy hm e1
   have i0 : (0 : Int) ≤ (i : Int) := by omega
   have i1 : (i : Int) < l1.length := by omega
   by_cases he : x1 = y1 ∧ x2 = y2 ∧ x3 = y3
   ·obtain ⟨rfl, rfl, rfl⟩ := he
    go_wp2_with fail
    go_quiet (fail)
    go_wp2_with fail
    go_roundw
    case rel =>
     refine ⟨i + 1, by omega, by go_num, ?_, ?_⟩
     ·refine hid ?_
      rw [List.take_succ_eq_append_getElem hlt, List.take_succ_eq_append_getElem hlt2, hp.out]
      have := HX.out; have h2 := HY.out
      simp only [List.getD, List.getElem?_eq_getElem hlt, List.getElem?_eq_getElem hlt2, Option.getD_some] at this h2
      rw [this, h2]
     ·obtain ⟨m, rfl⟩ := hw.out
      exact hid ⟨m + nq, World.drewN_drewN _ _ _⟩
    case measure => simp [intOf]; omega
   ·have hne : Hid ((l1 == l2) = false) := by
     refine hid ?_
     rw [beq_eq_false_iff_ne]
     intro h
     rw [h] at HX
     have e := HX.out.symm.trans HY.out
     exact he ⟨congrArg Prod.fst e, congrArg (fun z => z.2.1) e, congrArg (fun z => z.2.2) e⟩
    by_cases hx1 : x1 = y1
    ·subst hx1
     by_cases hx2 : x2 = y2
     ·subst hx2
      have hb : (x3 == y3) = false := by rw [beq_eq_false_iff_ne]; intro h; exact he ⟨rfl, rfl, h⟩
      clear he
      go_wp2_with fail
      go_quiet (fail)
      go_wp2_with fail
      go_ret
      refine ⟨by rw [hne.out]; rfl, ?_⟩
      obtain ⟨m, rfl⟩ := hw.out
      exact ⟨m + nq, World.drewN_drewN _ _ _⟩
     ·have hb : (x2 == y2) = false := by rw [beq_eq_false_iff_ne]; exact hx2
      clear he hx2
      go_wp2_with fail
      go_quiet (fail)
      go_wp2_with fail
      go_ret
      refine ⟨by rw [hne.out]; rfl, ?_⟩
      obtain ⟨m, rfl⟩ := hw.out
      exact ⟨m + nq, World.drewN_drewN _ _ _⟩
    ·have hb : (x1 == y1) = false := by rw [beq_eq_false_iff_ne]; exact hx1
     clear he hx1
     go_wp2_with fail
     go_quiet (fail)
     go_wp2_with fail
     go_ret
     refine ⟨by rw [hne.out]; rfl, ?_⟩
     obtain ⟨m, rfl⟩ := hw.out
     exact ⟨m + nq, World.drewN_drewN _ _ _⟩
  ·have heq : Hid ((l1 == l2) = true) := by
    refine hid ?_
    rw [beq_iff_eq]
    have := hp.out
    rwa [List.take_of_length_le (by omega), List.take_of_length_le (by rw [HN.out]; omega)] at this
   go_wp2_with fail
   go_ret
   exact ⟨by rw [heq.out]; rfl, hw.out⟩
theorem esame_any (w : World) (v1 v2 : Value) (l1 l2 : EL) (h1 : ExtsAt w v1 l1) (h2 : ExtsAt w v2 l2) (hn1 : l1.length ≤ 9223372036854775807) (hn2 : l2.length ≤ 9223372036854775807) :
  Calls Tryz.prog 22 #[v1, v2] w fun e w' => e = .returned (.bool (l1 == l2)) ∧ ∃ n, w' = w.drewN n := by
 have hs1 : ∃ a c, v1 = .slice a l1.length c := by
  rcases h1 with ⟨rfl, rfl⟩ | ⟨b, o, c, rfl, _⟩
  ·exact ⟨_, _, rfl⟩
  ·exact ⟨_, _, rfl⟩
 have hs2 : ∃ a c, v2 = .slice a l2.length c := by
  rcases h2 with ⟨rfl, rfl⟩ | ⟨b, o, c, rfl, _⟩
  ·exact ⟨_, _, rfl⟩
  ·exact ⟨_, _, rfl⟩
 by_cases hn : l1.length = l2.length
 ·by_cases h0 : l1.length = 0
  ·obtain ⟨a1, c1, rfl⟩ := hs1
   obtain ⟨a2, c2, rfl⟩ := hs2
   have e1 := List.eq_nil_of_length_eq_zero h0
   have e2 := List.eq_nil_of_length_eq_zero (hn ▸ h0)
   subst e1; subst e2
   exact (esame_zero a1 a2 c1 c2 w).mono fun e w' ⟨he, hw⟩ => ⟨by rw [he]; rfl, hw⟩
  ·rcases h1 with ⟨_, rfl⟩ | ⟨b1, o1, c1, rfl, g1⟩
   ·simp at h0
   rcases h2 with ⟨_, rfl⟩ | ⟨b2, o2, c2, rfl, g2⟩
   ·simp at hn; simp [hn] at h0
   rw [← hn]
   exact esame_some w b1 o1 c1 b2 o2 c2 l1 l2 hn.symm hn1 g1 g2
 ·obtain ⟨a1, c1, rfl⟩ := hs1
  obtain ⟨a2, c2, rfl⟩ := hs2
  refine (esame_no a1 a2 _ _ c1 c2 hn hn1 hn2 w).mono fun e w' ⟨he, hw⟩ => ⟨?_, hw⟩
  have : (l1 == l2) = false := by rw [beq_eq_false_iff_ne]; intro h; exact hn (by rw [h])
  rw [he, this]
theorem esame_b (w : World) (v1 v2 : Value) (l1 l2 : EL) (h1 : ExtsAt w v1 l1) (h2 : ExtsAt w v2 l2) (hn1 : l1.length ≤ 9223372036854775807) (hn2 : l2.length ≤ 9223372036854775807) (r : Bool) (hr : (l1 == l2) = r) :
  Calls Tryz.prog 22 #[v1, v2] w fun e w' => e = .returned (.bool r) ∧ Below w.heap.size w w' := by
 refine (esame_any w v1 v2 l1 l2 h1 h2 hn1 hn2).mono ?_
 rintro e w' ⟨rfl, k, rfl⟩
 exact ⟨by rw [hr], below_dr (Below.refl _ _)⟩
theorem nsame_no (a1 a2 : Option Addr) (n1 n2 c1 c2 : Nat) (h : n1 ≠ n2) (h1 : n1 ≤ 9223372036854775807) (h2 : n2 ≤ 9223372036854775807) (w : World) :
  Calls Tryz.prog 14 #[.slice a1 n1 c1, .slice a2 n2 c2] w fun e w' => e = .returned (.bool false) ∧ ∃ n, w' = w.drewN n := by
 have hb : ((n1 : Int) != (n2 : Int)) = true := by rw [bne_iff_ne]; omega
 go_enter Tryz.func14, Tryz.ntmps14
 go_wp2_with fail
 go_ret
 exact ⟨rfl, 0, rfl⟩
theorem nsame_zero (a1 a2 : Option Addr) (c1 c2 : Nat) (w : World) :
  Calls Tryz.prog 14 #[.slice a1 0 c1, .slice a2 0 c2] w fun e w' => e = .returned (.bool true) ∧ ∃ n, w' = w.drewN n := by
 go_enter Tryz.func14, Tryz.ntmps14
 go_wp2_with fail
 refine wp_loop_rounds 1 ?_
 rw [rounds_succ]
 go_wp2_with fail
 go_ret
 exact ⟨rfl, 0, rfl⟩
set_option maxHeartbeats 2000000 in
theorem nsame_some (w : World) (b1 o1 c1 b2 o2 c2 : Nat) (l1 l2 : EL) (hn : l2.length = l1.length) (hb : l1.length ≤ 9223372036854775807)
  (h1 : ∀ j u, (ecells l1)[j]? = some u → w.cell? ⟨b1, o1 + j, none⟩ = some u) (h2 : ∀ j u, (ecells l2)[j]? = some u → w.cell? ⟨b2, o2 + j, none⟩ = some u) :
  Calls Tryz.prog 14 #[.slice (some ⟨b1, o1, none⟩) l1.length c1, .slice (some ⟨b2, o2, none⟩) l1.length c2] w fun e w' => e = .returned (.bool (l1 == l2)) ∧ ∃ n, w' = w.drewN n := by
 have H1 := hid h1
 have H2 := hid h2
 have HN := hid hn
 clear h1 h2 hn
 go_enter Tryz.func14, Tryz.ntmps14
 go_wp2_with fail
 go_loopw [5] (fun q wr => ∃ i : Nat, i ≤ l1.length ∧ q = .int .i64 i ∧ Hid (l1.take i = l2.take i) ∧ Hid (∃ n, wr = w.drewN n)) (fun q _ => l1.length - (intOf q).toNat)
 case atStart => exact ⟨0, by omega, rfl, hid (by simp), hid ⟨0, rfl⟩⟩
 case round =>
  obtain ⟨i, hi, rfl, hp, hw⟩ := hrel
  by_cases hlt : i < l1.length
  ·have hlt2 : i < l2.length := by rw [HN.out]; exact hlt
   obtain ⟨m, hm⟩ := hw.out
   have c1a := H1.out (i * 3) _ (ecells_at l1 i hlt).1
   have c1b := H1.out (i * 3 + 1) _ (ecells_at l1 i hlt).2.1
   have c1c := H1.out (i * 3 + 2) _ (ecells_at l1 i hlt).2.2
   have c2a := H2.out (i * 3) _ (ecells_at l2 i hlt2).1
   have c2b := H2.out (i * 3 + 1) _ (ecells_at l2 i hlt2).2.1
   have c2c := H2.out (i * 3 + 2) _ (ecells_at l2 i hlt2).2.2
   generalize hx : l1.getD i (0, 0, 0) = x at c1a c1b c1c
   generalize hy : l2.getD i (0, 0, 0) = y at c2a c2b c2c
   have HX := hid hx
   have HY := hid hy
   obtain ⟨x1, x2, x3⟩ := x
   obtain ⟨y1, y2, y3⟩ := y
   have e1 : wr.cell? = w.cell? := by rw [hm]; rfl
   rw [← e1] at c1a c1b c1c c2a c2b c2c
   simp only [← Nat.add_assoc] at c1b c1c c2b c2c
   clear hx hy hm e1
   have i0 : (0 : Int) ≤ (i : Int) := by omega
   have i1 : (i : Int) < l1.length := by omega
   by_cases he : x1 = y1 ∧ x2 = y2 ∧ x3 = y3
   ·obtain ⟨rfl, rfl, rfl⟩ := he
    go_wp2_with fail
    go_quiet (fail)
    go_wp2_with fail
    go_roundw
    case rel =>
     refine ⟨i + 1, by omega, by go_num, ?_, ?_⟩
     ·refine hid ?_
      rw [List.take_succ_eq_append_getElem hlt, List.take_succ_eq_append_getElem hlt2, hp.out]
      have := HX.out; have h2 := HY.out
      simp only [List.getD, List.getElem?_eq_getElem hlt, List.getElem?_eq_getElem hlt2, Option.getD_some] at this h2
      rw [this, h2]
     ·obtain ⟨m, rfl⟩ := hw.out
      exact hid ⟨m + nq, World.drewN_drewN _ _ _⟩
    case measure => simp [intOf]; omega
   ·have hne : Hid ((l1 == l2) = false) := by
     refine hid ?_
     rw [beq_eq_false_iff_ne]
     intro h
     rw [h] at HX
     have e := HX.out.symm.trans HY.out
     exact he ⟨congrArg Prod.fst e, congrArg (fun z => z.2.1) e, congrArg (fun z => z.2.2) e⟩
    by_cases hx1 : x1 = y1
    ·subst hx1
     by_cases hx2 : x2 = y2
     ·subst hx2
      have hb : (x3 == y3) = false := by rw [beq_eq_false_iff_ne]; intro h; exact he ⟨rfl, rfl, h⟩
      clear he
      go_wp2_with fail
      go_quiet (fail)
      go_wp2_with fail
      go_ret
      refine ⟨by rw [hne.out]; rfl, ?_⟩
      obtain ⟨m, rfl⟩ := hw.out
      exact ⟨m + nq, World.drewN_drewN _ _ _⟩
     ·have hb : (x2 == y2) = false := by rw [beq_eq_false_iff_ne]; exact hx2
      clear he hx2
      go_wp2_with fail
      go_quiet (fail)
      go_wp2_with fail
      go_ret
      refine ⟨by rw [hne.out]; rfl, ?_⟩
      obtain ⟨m, rfl⟩ := hw.out
      exact ⟨m + nq, World.drewN_drewN _ _ _⟩
    ·have hb : (x1 == y1) = false := by rw [beq_eq_false_iff_ne]; exact hx1
     clear he hx1
     go_wp2_with fail
     go_quiet (fail)
     go_wp2_with fail
     go_ret
     refine ⟨by rw [hne.out]; rfl, ?_⟩
     obtain ⟨m, rfl⟩ := hw.out
     exact ⟨m + nq, World.drewN_drewN _ _ _⟩
  ·have heq : Hid ((l1 == l2) = true) := by
    refine hid ?_
    rw [beq_iff_eq]
    have := hp.out
    rwa [List.take_of_length_le (by omega), List.take_of_length_le (by rw [HN.out]; omega)] at this
   go_wp2_with fail
   go_ret
   exact ⟨by rw [heq.out]; rfl, hw.out⟩
theorem nsame_any (w : World) (v1 v2 : Value) (l1 l2 : EL) (h1 : ExtsAt w v1 l1) (h2 : ExtsAt w v2 l2) (hn1 : l1.length ≤ 9223372036854775807) (hn2 : l2.length ≤ 9223372036854775807) :
  Calls Tryz.prog 14 #[v1, v2] w fun e w' => e = .returned (.bool (l1 == l2)) ∧ ∃ n, w' = w.drewN n := by
 have hs1 : ∃ a c, v1 = .slice a l1.length c := by
  rcases h1 with ⟨rfl, rfl⟩ | ⟨b, o, c, rfl, _⟩
  ·exact ⟨_, _, rfl⟩
  ·exact ⟨_, _, rfl⟩
 have hs2 : ∃ a c, v2 = .slice a l2.length c := by
  rcases h2 with ⟨rfl, rfl⟩ | ⟨b, o, c, rfl, _⟩
  ·exact ⟨_, _, rfl⟩
  ·exact ⟨_, _, rfl⟩
 by_cases hn : l1.length = l2.length
 ·by_cases h0 : l1.length = 0
  ·obtain ⟨a1, c1, rfl⟩ := hs1
   obtain ⟨a2, c2, rfl⟩ := hs2
   have e1 := List.eq_nil_of_length_eq_zero h0
   have e2 := List.eq_nil_of_length_eq_zero (hn ▸ h0)
   subst e1; subst e2
   exact (nsame_zero a1 a2 c1 c2 w).mono fun e w' ⟨he, hw⟩ => ⟨by rw [he]; rfl, hw⟩
  ·rcases h1 with ⟨_, rfl⟩ | ⟨b1, o1, c1, rfl, g1⟩
   ·simp at h0
   rcases h2 with ⟨_, rfl⟩ | ⟨b2, o2, c2, rfl, g2⟩
   ·simp at hn; simp [hn] at h0
   rw [← hn]
   exact nsame_some w b1 o1 c1 b2 o2 c2 l1 l2 hn.symm hn1 g1 g2
 ·obtain ⟨a1, c1, rfl⟩ := hs1
  obtain ⟨a2, c2, rfl⟩ := hs2
  refine (nsame_no a1 a2 _ _ c1 c2 hn hn1 hn2 w).mono fun e w' ⟨he, hw⟩ => ⟨?_, hw⟩
  have : (l1 == l2) = false := by rw [beq_eq_false_iff_ne]; intro h; exact hn (by rw [h])
  rw [he, this]
theorem nsame_b (w : World) (v1 v2 : Value) (l1 l2 : EL) (h1 : ExtsAt w v1 l1) (h2 : ExtsAt w v2 l2) (hn1 : l1.length ≤ 9223372036854775807) (hn2 : l2.length ≤ 9223372036854775807) (r : Bool) (hr : (l1 == l2) = r) :
  Calls Tryz.prog 14 #[v1, v2] w fun e w' => e = .returned (.bool r) ∧ Below w.heap.size w w' := by
 refine (nsame_any w v1 v2 l1 l2 h1 h2 hn1 hn2).mono ?_
 rintro e w' ⟨rfl, k, rfl⟩
 exact ⟨by rw [hr], below_dr (Below.refl _ _)⟩
theorem neq_no (a1 a2 : Option Addr) (n1 n2 c1 c2 : Nat) (h : n1 ≠ n2) (h1 : n1 ≤ 9223372036854775807) (h2 : n2 ≤ 9223372036854775807) (w : World) :
  Calls Tryz.prog 145 #[.slice a1 n1 c1, .slice a2 n2 c2] w fun e w' => e = .returned (.bool false) ∧ ∃ n, w' = w.drewN n := by
 have hb : ((n1 : Int) != (n2 : Int)) = true := by rw [bne_iff_ne]; omega
 go_enter Tryz.func145, Tryz.ntmps145
 go_wp2_with fail
 go_ret
 exact ⟨rfl, 0, rfl⟩
theorem neq_zero (a1 a2 : Option Addr) (c1 c2 : Nat) (w : World) :
  Calls Tryz.prog 145 #[.slice a1 0 c1, .slice a2 0 c2] w fun e w' => e = .returned (.bool true) ∧ ∃ n, w' = w.drewN n := by
 go_enter Tryz.func145, Tryz.ntmps145
 go_wp2_with fail
 refine wp_loop_rounds 1 ?_
 rw [rounds_succ]
 go_wp2_with fail
 go_ret
 exact ⟨rfl, 0, rfl⟩
set_option maxHeartbeats 2000000 in
theorem neq_some (w : World) (b1 o1 c1 b2 o2 c2 : Nat) (l1 l2 : EL) (hn : l2.length = l1.length) (hb : l1.length ≤ 9223372036854775807)
  (h1 : ∀ j u, (ecells l1)[j]? = some u → w.cell? ⟨b1, o1 + j, none⟩ = some u) (h2 : ∀ j u, (ecells l2)[j]? = some u → w.cell? ⟨b2, o2 + j, none⟩ = some u) :
  Calls Tryz.prog 145 #[.slice (some ⟨b1, o1, none⟩) l1.length c1, .slice (some ⟨b2, o2, none⟩) l1.length c2] w fun e w' => e = .returned (.bool (l1 == l2)) ∧ ∃ n, w' = w.drewN n := by
 have H1 := hid h1
 have H2 := hid h2
 have HN := hid hn
 clear h1 h2 hn
 go_enter Tryz.func145, Tryz.ntmps145
 go_wp2_with fail
 go_loopw [13] (fun q wr => ∃ i : Nat, i ≤ l1.length ∧ q = .int .i64 i ∧ Hid (l1.take i = l2.take i) ∧ Hid (∃ n, wr = w.drewN n)) (fun q _ => l1.length - (intOf q).toNat)
 case atStart => exact ⟨0, by omega, rfl, hid (by simp), hid ⟨0, rfl⟩⟩
 case round =>
  obtain ⟨i, hi, rfl, hp, hw⟩ := hrel
  by_cases hlt : i < l1.length
  ·have hlt2 : i < l2.length := by rw [HN.out]; exact hlt
   obtain ⟨m, hm⟩ := hw.out
   have c1a := H1.out (i * 3) _ (ecells_at l1 i hlt).1
   have c1b := H1.out (i * 3 + 1) _ (ecells_at l1 i hlt).2.1
   have c1c := H1.out (i * 3 + 2) _ (ecells_at l1 i hlt).2.2
   have c2a := H2.out (i * 3) _ (ecells_at l2 i hlt2).1
   have c2b := H2.out (i * 3 + 1) _ (ecells_at l2 i hlt2).2.1
   have c2c := H2.out (i * 3 + 2) _ (ecells_at l2 i hlt2).2.2
   generalize hx : l1.getD i (0, 0, 0) = x at c1a c1b c1c
   generalize hy : l2.getD i (0, 0, 0) = y at c2a c2b c2c
   have HX := hid hx
   have HY := hid hy
   obtain ⟨x1, x2, x3⟩ := x
   obtain ⟨y1, y2, y3⟩ := y
   have e1 : wr.cell? = w.cell? := by rw [hm]; rfl
   rw [← e1] at c1a c1b c1c c2a c2b c2c
   simp only [← Nat.add_assoc] at c1b c1c c2b c2c
   clear hx hy hm e1
   have i0 : (0 : Int) ≤ (i : Int) := by omega
   have i1 : (i : Int) < l1.length := by omega
   by_cases he : x1 = y1 ∧ x2 = y2 ∧ x3 = y3
   ·obtain ⟨rfl, rfl, rfl⟩ := he
    go_wp2_with fail
    go_quiet (fail)
    go_wp2_with fail
    go_roundw
    case rel =>
     refine ⟨i + 1, by omega, by go_num, ?_, ?_⟩
     ·refine hid ?_
      rw [List.take_succ_eq_append_getElem hlt, List.take_succ_eq_append_getElem hlt2, hp.out]
      have := HX.out; have h2 := HY.out
      simp only [List.getD, List.getElem?_eq_getElem hlt, List.getElem?_eq_getElem hlt2, Option.getD_some] at this h2
      rw [this, h2]
     ·obtain ⟨m, rfl⟩ := hw.out
      exact hid ⟨m + nq, World.drewN_drewN _ _ _⟩
    case measure => simp [intOf]; omega
   ·have hne : Hid ((l1 == l2) = false) := by
     refine hid ?_
     rw [beq_eq_false_iff_ne]
     intro h
     rw [h] at HX
     have e := HX.out.symm.trans HY.out
     exact he ⟨congrArg Prod.fst e, congrArg (fun z => z.2.1) e, congrArg (fun z => z.2.2) e⟩
    by_cases hx1 : x1 = y1
    ·subst hx1
     by_cases hx2 : x2 = y2
     ·subst hx2
      have hb : (x3 == y3) = false := by rw [beq_eq_false_iff_ne]; intro h; exact he ⟨rfl, rfl, h⟩
      clear he
      go_wp2_with fail
      go_quiet (fail)
      go_wp2_with fail
      go_ret
      refine ⟨by rw [hne.out]; rfl, ?_⟩
      obtain ⟨m, rfl⟩ := hw.out
      exact ⟨m + nq, World.drewN_drewN _ _ _⟩
     ·have hb : (x2 == y2) = false := by rw [beq_eq_false_iff_ne]; exact hx2
      clear he hx2
      go_wp2_with fail
      go_quiet (fail)
      go_wp2_with fail
      go_ret
      refine ⟨by rw [hne.out]; rfl, ?_⟩
      obtain ⟨m, rfl⟩ := hw.out
      exact ⟨m + nq, World.drewN_drewN _ _ _⟩
    ·have hb : (x1 == y1) = false := by rw [beq_eq_false_iff_ne]; exact hx1
     clear he hx1
     go_wp2_with fail
     go_quiet (fail)
     go_wp2_with fail
     go_ret
     refine ⟨by rw [hne.out]; rfl, ?_⟩
     obtain ⟨m, rfl⟩ := hw.out
     exact ⟨m + nq, World.drewN_drewN _ _ _⟩
  ·have heq : Hid ((l1 == l2) = true) := by
    refine hid ?_
    rw [beq_iff_eq]
    have := hp.out
    rwa [List.take_of_length_le (by omega), List.take_of_length_le (by rw [HN.out]; omega)] at this
   go_wp2_with fail
   go_ret
   exact ⟨by rw [heq.out]; rfl, hw.out⟩
theorem neq_any (w : World) (v1 v2 : Value) (l1 l2 : EL) (h1 : ExtsAt w v1 l1) (h2 : ExtsAt w v2 l2) (hn1 : l1.length ≤ 9223372036854775807) (hn2 : l2.length ≤ 9223372036854775807) :
  Calls Tryz.prog 145 #[v1, v2] w fun e w' => e = .returned (.bool (l1 == l2)) ∧ ∃ n, w' = w.drewN n := by
 have hs1 : ∃ a c, v1 = .slice a l1.length c := by
  rcases h1 with ⟨rfl, rfl⟩ | ⟨b, o, c, rfl, _⟩
  ·exact ⟨_, _, rfl⟩
  ·exact ⟨_, _, rfl⟩
 have hs2 : ∃ a c, v2 = .slice a l2.length c := by
  rcases h2 with ⟨rfl, rfl⟩ | ⟨b, o, c, rfl, _⟩
  ·exact ⟨_, _, rfl⟩
  ·exact ⟨_, _, rfl⟩
 by_cases hn : l1.length = l2.length
 ·by_cases h0 : l1.length = 0
  ·obtain ⟨a1, c1, rfl⟩ := hs1
   obtain ⟨a2, c2, rfl⟩ := hs2
   have e1 := List.eq_nil_of_length_eq_zero h0
   have e2 := List.eq_nil_of_length_eq_zero (hn ▸ h0)
   subst e1; subst e2
   exact (neq_zero a1 a2 c1 c2 w).mono fun e w' ⟨he, hw⟩ => ⟨by rw [he]; rfl, hw⟩
  ·rcases h1 with ⟨_, rfl⟩ | ⟨b1, o1, c1, rfl, g1⟩
   ·simp at h0
   rcases h2 with ⟨_, rfl⟩ | ⟨b2, o2, c2, rfl, g2⟩
   ·simp at hn; simp [hn] at h0
   rw [← hn]
   exact neq_some w b1 o1 c1 b2 o2 c2 l1 l2 hn.symm hn1 g1 g2
 ·obtain ⟨a1, c1, rfl⟩ := hs1
  obtain ⟨a2, c2, rfl⟩ := hs2
  refine (neq_no a1 a2 _ _ c1 c2 hn hn1 hn2 w).mono fun e w' ⟨he, hw⟩ => ⟨?_, hw⟩
  have : (l1 == l2) = false := by rw [beq_eq_false_iff_ne]; intro h; exact hn (by rw [h])
  rw [he, this]
set_option maxHeartbeats 2000000 in
theorem emay_any (x : Exts.E) (hx : SmallE x) (w : World) : Calls Tryz.prog 117 #[.agg #[.int .i64 x.1, .int .i64 x.2.1, .int .i64 x.2.2]] w fun e w' => e = .returned (.bool (decide (Exts.may x))) ∧ Below w.heap.size w w' := by
 have hb : Below w.heap.size w (w.alloc (.cells #[.int .i64 x.1, .int .i64 x.2.1, .int .i64 x.2.2] 53)) := (Below.refl _ _).alloc (Nat.le_refl _) _
 obtain ⟨a, b, c⟩ := x
 obtain ⟨⟨h1, h2⟩, ⟨h3, h4⟩, h5, h6⟩ := hx
 dsimp only at *
 by_cases k1 : 1 ≤ c
 ·skip
  by_cases k2 : c ≤ 4096
  ·skip
   have w1 : IntKind.i64.wrap (2048 - c) = 2048 - c := IntWalk.i64_in _ (by omega)
   have w2 : IntKind.i64.wrap (4096 - c) = 4096 - c := IntWalk.i64_in _ (by omega)
   by_cases k3 : 0 ≤ a
   ·skip
    by_cases k4 : a ≤ 2048 - c
    ·skip
     by_cases k5 : 1 ≤ b
     ·skip
      by_cases k6 : b ≤ 4096 - c
      ·skip
       rw [show decide (Exts.may (a, b, c)) = true from decide_eq_true ⟨k1, k2, k3, k4, k5, k6⟩]
       go_enter Tryz.func117, Tryz.ntmps117
       go_wp2_with fail
       go_ret
       exact ⟨rfl, hb⟩
      ·skip
       rw [show decide (Exts.may (a, b, c)) = false from decide_eq_false (fun h => k6 h.2.2.2.2.2)]
       go_enter Tryz.func117, Tryz.ntmps117
       go_wp2_with fail
       go_ret
       exact ⟨rfl, hb⟩
     ·skip
      rw [show decide (Exts.may (a, b, c)) = false from decide_eq_false (fun h => k5 h.2.2.2.2.1)]
      go_enter Tryz.func117, Tryz.ntmps117
      go_wp2_with fail
      go_ret
      exact ⟨rfl, hb⟩
    ·skip
     rw [show decide (Exts.may (a, b, c)) = false from decide_eq_false (fun h => k4 h.2.2.2.1)]
     go_enter Tryz.func117, Tryz.ntmps117
     go_wp2_with fail
     go_ret
     exact ⟨rfl, hb⟩
   ·skip
    rw [show decide (Exts.may (a, b, c)) = false from decide_eq_false (fun h => k3 h.2.2.1)]
    go_enter Tryz.func117, Tryz.ntmps117
    go_wp2_with fail
    go_ret
    exact ⟨rfl, hb⟩
  ·skip
   rw [show decide (Exts.may (a, b, c)) = false from decide_eq_false (fun h => k2 h.2.1)]
   go_enter Tryz.func117, Tryz.ntmps117
   go_wp2_with fail
   go_ret
   exact ⟨rfl, hb⟩
 ·skip
  rw [show decide (Exts.may (a, b, c)) = false from decide_eq_false (fun h => k1 h.1)]
  go_enter Tryz.func117, Tryz.ntmps117
  go_wp2_with fail
  go_ret
  exact ⟨rfl, hb⟩
theorem Exts.okTo_may {l : EL} : ∀ {j : Nat}, Exts.okTo l j = true → ∀ k, k < j → Exts.may (l.getD k (0, 0, 0))
 | 0, _, k, hk => absurd hk (Nat.not_lt_zero _)
 | j + 1, h, k, hk => by
  unfold Exts.okTo at h
  simp only [Bool.and_eq_true, decide_eq_true_eq] at h
  rcases Nat.lt_or_ge k j with h1 | h1
  ·exact Exts.okTo_may h.1.1 k h1
  ·obtain rfl : k = j := by omega
   exact h.1.2
theorem Exts.okTo_false (l : EL) (i : Nat) (h : Exts.okTo l i = false) {n : Nat} (hn : i ≤ n) : Exts.okTo l n = false := by
 induction hn with
 | refl => exact h
 | step _ ih => unfold Exts.okTo; rw [ih]; rfl
theorem emay_fin {x : Exts.E} (h : Exts.may x) : -9223372036854775808 ≤ Exts.fin x ∧ Exts.fin x ≤ 9223372036854775807 := by
 unfold Exts.may at h
 unfold Exts.fin
 omega
set_option maxRecDepth 100000 in
set_option maxHeartbeats 4000000 in
theorem echeck_any (v : Value) (l : EL) (w : World) (hs : SmallsE l) (h : ExtsAt w v l) (hl : l.length ≤ 1000000000) :
  Calls Tryz.prog 79 #[v] w fun e w' => e = .returned (.bool (Exts.okTo l l.length)) ∧ Below w.heap.size w w' := by
 have H := hid h
 have HS := hid hs
 obtain ⟨ad, cap, rfl⟩ : ∃ ad cap, v = .slice ad l.length cap := by
  rcases h with ⟨rfl, rfl⟩ | ⟨b, off, cap, rfl, _⟩
  ·exact ⟨_, _, rfl⟩
  ·exact ⟨_, _, rfl⟩
 clear h hs
 go_enter Tryz.func79, Tryz.ntmps79
 go_wp2_with fail
 go_loopw [7] (fun q wr => ∃ j : Nat, j ≤ l.length ∧ q = .int .i64 j ∧ Exts.okTo l j = true ∧ Hid (Below w.heap.size w wr)) (fun q _ => l.length - (intOf q).toNat)
 case atStart => exact ⟨0, by omega, rfl, rfl, hid (Below.refl _ _)⟩
 case round =>
  obtain ⟨j, hj, rfl, hok, hb⟩ := hrel
  by_cases hlt : j < l.length
  ·have i0 : (0 : Int) ≤ (j : Int) := by omega
   have i1 : (j : Int) < (l.length : Int) := by omega
   obtain ⟨hll, g, off, rfl, c0, c1, c2⟩ := (H.out.below (B := 0) hb.out).cells j hlt
   clear hll
   have hsx := HS.out.at j hlt
   have hnext : Exts.okTo l (j + 1) = (decide (Exts.may (l.getD j (0, 0, 0))) && (j == 0 || decide (Exts.fin (l.getD (j - 1) (0, 0, 0)) ≤ (l.getD j (0, 0, 0)).1))) := by
    show (Exts.okTo l j && _ && _) = _
    rw [hok]
    rfl
   have hm := hid (fun w => emay_any _ hsx w)
   have bA : Below wr.heap.size wr (wr.alloc (.cells #[.int .i64 (l.getD j (0, 0, 0)).1, .int .i64 (l.getD j (0, 0, 0)).2.1, .int .i64 (l.getD j (0, 0, 0)).2.2] 53)) := (Below.refl _ _).alloc (Nat.le_refl _) _
   have bx0 : (wr.alloc (.cells #[.int .i64 (l.getD j (0, 0, 0)).1, .int .i64 (l.getD j (0, 0, 0)).2.1, .int .i64 (l.getD j (0, 0, 0)).2.2] 53)).cell? ⟨wr.heap.size, 0, none⟩ = some (.int .i64 (l.getD j (0, 0, 0)).1) := box_cell _ _ _ _
   have bx1 : (wr.alloc (.cells #[.int .i64 (l.getD j (0, 0, 0)).1, .int .i64 (l.getD j (0, 0, 0)).2.1, .int .i64 (l.getD j (0, 0, 0)).2.2] 53)).cell? ⟨wr.heap.size, 1, none⟩ = some (.int .i64 (l.getD j (0, 0, 0)).2.1) := box_cell _ _ _ _
   have bx2 : (wr.alloc (.cells #[.int .i64 (l.getD j (0, 0, 0)).1, .int .i64 (l.getD j (0, 0, 0)).2.1, .int .i64 (l.getD j (0, 0, 0)).2.2] 53)).cell? ⟨wr.heap.size, 2, none⟩ = some (.int .i64 (l.getD j (0, 0, 0)).2.2) := box_cell _ _ _ _
   have zX : wr.heap.size < (wr.alloc (.cells #[.int .i64 (l.getD j (0, 0, 0)).1, .int .i64 (l.getD j (0, 0, 0)).2.1, .int .i64 (l.getD j (0, 0, 0)).2.2] 53)).heap.size := by simp
   have hBz := hb.out.size
   by_cases k : Exts.may (l.getD j (0, 0, 0))
   ·rw [decide_eq_true k] at hm hnext
    rw [Bool.true_and] at hnext
    by_cases k0 : j = 0
    ·have hok' : Exts.okTo l (j + 1) = true := by rw [hnext]; simp [k0]
     have kd : decide ((0 : Int) < (j : Int)) = false := decide_eq_false (by omega)
     have c0' : wr.cell? ⟨g, off, none⟩ = some (.int .i64 (l.getD j (0, 0, 0)).1) := by have := c0; rwa [k0, Nat.zero_mul, Nat.add_zero, ← k0] at this
     have c1' : wr.cell? ⟨g, off + 1, none⟩ = some (.int .i64 (l.getD j (0, 0, 0)).2.1) := by have := c1; rwa [k0, Nat.zero_mul, Nat.add_zero, ← k0] at this
     have c2' : wr.cell? ⟨g, off + 2, none⟩ = some (.int .i64 (l.getD j (0, 0, 0)).2.2) := by have := c2; rwa [k0, Nat.zero_mul, Nat.add_zero, ← k0] at this
     clear hnext k c0 c1 c2
     generalize (l.getD j (0, 0, 0)) = x at *
     obtain ⟨xa, xb, xc⟩ := x
     dsimp only at *
     go_upto_region 4 with fail
     generalize wr.alloc _ = wx at *
     generalize hX : wr.heap.size = X at *
     refine wp_region_held_drew (S := fun w' => w'.cell? ⟨X, 0, none⟩ = some (.int .i64 xa) ∧ w'.cell? ⟨X, 1, none⟩ = some (.int .i64 xb) ∧ w'.cell? ⟨X, 2, none⟩ = some (.int .i64 xc)) (by kernel_rfl) (⟨bx0, bx1, bx2⟩) (fun hHeld => ?_)
     refine wpAnyH_take (i := 0) (v := .agg #[.int .i64 xa, .int .i64 xb, .int .i64 xc]) rfl (by kernel_rfl) (by kernel_rfl) (by kernel_rfl) (fun _ _ _ h => h) (Or.inl ⟨rfl, fun w hSw => ?_⟩) (by assumption) ?_
     ·(try dsimp only at hSw); go_simp
     try simp only [List.getElem_toArray, List.getElem_cons_zero, Act.put, List.setIfInBounds_toArray, List.set_cons_zero, List.set_cons_succ]
     refine wpAnyH_ready (rs := [1]) (by kernel_rfl) (by simp) ?_
     refine AllReadyH.cons rfl (fun K hK => ?_) AllReadyH.nil
     go_simp
     go_at_call 117; refine (hm.out _).mono ?_; rintro e w4 ⟨rfl, b4⟩; have s4 : Below wx.heap.size wx w4 := ⟨b4.os, b4.tape, b4.output, b4.size, b4.block⟩
     refine hK.out _ _ (⟨(s4.cell (p := ⟨X, 0, none⟩) zX).trans bx0, (s4.cell (p := ⟨X, 1, none⟩) zX).trans bx1, (s4.cell (p := ⟨X, 2, none⟩) zX).trans bx2⟩) (fun hHeld => ?_)
     clear hK K
     try simp only [List.getElem_toArray, List.getElem_cons_succ, List.getElem_cons_zero, Act.put, List.setIfInBounds_toArray, List.set_cons_zero, List.set_cons_succ]
     refine wpAnyH_take (i := 2) (v := .bool false) rfl (by kernel_rfl) (by kernel_rfl) (by kernel_rfl) (fun _ _ _ h => h) (Or.inl ⟨rfl, fun w hSw => ?_⟩) (by assumption) ?_
     ·(try dsimp only at hSw); go_simp
     try simp only [List.getElem_toArray, List.getElem_cons_succ, List.getElem_cons_zero, Act.put, List.setIfInBounds_toArray, List.set_cons_zero, List.set_cons_succ]
     refine wpAnyH_take (i := 3) (v := .bool false) rfl (by kernel_rfl) (by kernel_rfl) (by kernel_rfl) (fun _ _ _ h => h) (Or.inl ⟨rfl, fun w hSw => ?_⟩) (by assumption) ?_
     ·(try dsimp only at hSw); go_simp
     try simp only [List.getElem_toArray, List.getElem_cons_succ, List.getElem_cons_zero, Act.put, List.setIfInBounds_toArray, List.set_cons_zero, List.set_cons_succ]
     refine wpAnyH_take (i := 4) (v := .int .i64 0) rfl (by kernel_rfl) (by kernel_rfl) (by kernel_rfl) (fun _ _ _ h => h) (Or.inl ⟨rfl, fun w hSw => ?_⟩) (by assumption) ?_
     ·(try dsimp only at hSw); go_simp
     try simp only [List.getElem_toArray, List.getElem_cons_succ, List.getElem_cons_zero, Act.put, List.setIfInBounds_toArray, List.set_cons_zero, List.set_cons_succ]
     refine wpAnyH_take (i := 5) (v := .bool false) rfl (by kernel_rfl) (by kernel_rfl) (by kernel_rfl) (fun _ _ _ h => h) (Or.inl ⟨rfl, fun w hSw => ?_⟩) (by assumption) ?_
     ·(try dsimp only at hSw); go_simp
     try simp only [List.getElem_toArray, List.getElem_cons_succ, List.getElem_cons_zero, Act.put, List.setIfInBounds_toArray, List.set_cons_zero, List.set_cons_succ]
     refine wpAnyH_take (i := 6) (v := .bool false) rfl (by kernel_rfl) (by kernel_rfl) (by kernel_rfl) (fun _ _ _ h => h) (Or.inl ⟨rfl, fun w hSw => ?_⟩) (by assumption) ?_
     ·(try dsimp only at hSw); go_simp
     try simp only [List.getElem_toArray, List.getElem_cons_succ, List.getElem_cons_zero, Act.put, List.setIfInBounds_toArray, List.set_cons_zero, List.set_cons_succ]
     refine wpAnyH_take (i := 7) (v := undef) rfl (by kernel_rfl) (by kernel_rfl) (by kernel_rfl) (fun _ _ _ h => h) (Or.inr ⟨rfl, rfl⟩) (by assumption) ?_
     try simp only [List.getElem_toArray, List.getElem_cons_succ, List.getElem_cons_zero, Act.put, List.setIfInBounds_toArray, List.set_cons_zero, List.set_cons_succ]
     refine wpAnyH_take (i := 8) (v := undef) rfl (by kernel_rfl) (by kernel_rfl) (by kernel_rfl) (fun _ _ _ h => h) (Or.inr ⟨rfl, rfl⟩) (by assumption) ?_
     try simp only [List.getElem_toArray, List.getElem_cons_succ, List.getElem_cons_zero, Act.put, List.setIfInBounds_toArray, List.set_cons_zero, List.set_cons_succ]
     refine wpAnyH_take (i := 9) (v := undef) rfl (by kernel_rfl) (by kernel_rfl) (by kernel_rfl) (fun _ _ _ h => h) (Or.inr ⟨rfl, rfl⟩) (by assumption) ?_
     try simp only [List.getElem_toArray, List.getElem_cons_succ, List.getElem_cons_zero, Act.put, List.setIfInBounds_toArray, List.set_cons_zero, List.set_cons_succ]
     refine wpAnyH_take (i := 10) (v := undef) rfl (by kernel_rfl) (by kernel_rfl) (by kernel_rfl) (fun _ _ _ h => h) (Or.inr ⟨rfl, rfl⟩) (by assumption) ?_
     try simp only [List.getElem_toArray, List.getElem_cons_succ, List.getElem_cons_zero, Act.put, List.setIfInBounds_toArray, List.set_cons_zero, List.set_cons_succ]
     refine wpAnyH_take (i := 11) (v := undef) rfl (by kernel_rfl) (by kernel_rfl) (by kernel_rfl) (fun _ _ _ h => h) (Or.inr ⟨rfl, rfl⟩) (by assumption) ?_
     try simp only [List.getElem_toArray, List.getElem_cons_succ, List.getElem_cons_zero, Act.put, List.setIfInBounds_toArray, List.set_cons_zero, List.set_cons_succ]
     refine wpAnyH_take (i := 12) (v := undef) rfl (by kernel_rfl) (by kernel_rfl) (by kernel_rfl) (fun _ _ _ h => h) (Or.inr ⟨rfl, rfl⟩) (by assumption) ?_
     try simp only [List.getElem_toArray, List.getElem_cons_succ, List.getElem_cons_zero, Act.put, List.setIfInBounds_toArray, List.set_cons_zero, List.set_cons_succ]
     refine wpAnyH_take (i := 13) (v := undef) rfl (by kernel_rfl) (by kernel_rfl) (by kernel_rfl) (fun _ _ _ h => h) (Or.inr ⟨rfl, rfl⟩) (by assumption) ?_
     try simp only [List.getElem_toArray, List.getElem_cons_succ, List.getElem_cons_zero, Act.put, List.setIfInBounds_toArray, List.set_cons_zero, List.set_cons_succ]
     refine wpAnyH_take (i := 14) (v := undef) rfl (by kernel_rfl) (by kernel_rfl) (by kernel_rfl) (fun _ _ _ h => h) (Or.inr ⟨rfl, rfl⟩) (by assumption) ?_
     try simp only [List.getElem_toArray, List.getElem_cons_succ, List.getElem_cons_zero, Act.put, List.setIfInBounds_toArray, List.set_cons_zero, List.set_cons_succ]
     refine wpAnyH_take (i := 15) (v := undef) rfl (by kernel_rfl) (by kernel_rfl) (by kernel_rfl) (fun _ _ _ h => h) (Or.inr ⟨rfl, rfl⟩) (by assumption) ?_
     try simp only [List.getElem_toArray, List.getElem_cons_succ, List.getElem_cons_zero, Act.put, List.setIfInBounds_toArray, List.set_cons_zero, List.set_cons_succ]
     refine wpAnyH_take (i := 16) (v := .bool false) rfl (by kernel_rfl) (by kernel_rfl) (by kernel_rfl) (fun _ _ _ h => h) (Or.inl ⟨rfl, fun w hSw => ?_⟩) (by assumption) ?_
     ·(try dsimp only at hSw); go_simp
     try simp only [List.getElem_toArray, List.getElem_cons_succ, List.getElem_cons_zero, Act.put, List.setIfInBounds_toArray, List.set_cons_zero, List.set_cons_succ]
     refine wpAnyH_take (i := 17) (v := .bool false) rfl (by kernel_rfl) (by kernel_rfl) (by kernel_rfl) (fun _ _ _ h => h) (Or.inl ⟨rfl, fun w hSw => ?_⟩) (by assumption) ?_
     ·(try dsimp only at hSw); go_simp
     try simp only [List.getElem_toArray, List.getElem_cons_succ, List.getElem_cons_zero, Act.put, List.setIfInBounds_toArray, List.set_cons_zero, List.set_cons_succ]
     refine wpAnyH_done (by kernel_rfl) ?_ _
     have B9 := hid (hb.out.trans ((bA.trans (s4.mono (by omega))).mono hBz))
     clear s4 b4 bA hb
     go_wp2_with fail
     go_roundw
     case rel => exact ⟨j + 1, by omega, by go_num, hok', B9⟩
     case measure => simp [intOf]; omega
    ·obtain ⟨_, g', off', e', d0, d1, d2⟩ := (H.out.below (B := 0) hb.out).cells (j - 1) (by omega)
     cases e'
     have hmp : Exts.may (l.getD (j - 1) (0, 0, 0)) := Exts.okTo_may hok (j - 1) (by omega)
     have hfp := emay_fin hmp
     have he := hid (fun w => eend_any _ hfp w)
     have D0 := (bA.cell (p := ⟨g, off + (j - 1) * 3, none⟩) (World.block_lt_of_cell? wr _ d0)).trans d0
     have D1 := (bA.cell (p := ⟨g, off + (j - 1) * 3 + 1, none⟩) (World.block_lt_of_cell? wr _ d1)).trans d1
     have D2 := (bA.cell (p := ⟨g, off + (j - 1) * 3 + 2, none⟩) (World.block_lt_of_cell? wr _ d2)).trans d2
     have zg : g < (wr.alloc (.cells #[.int .i64 (l.getD j (0, 0, 0)).1, .int .i64 (l.getD j (0, 0, 0)).2.1, .int .i64 (l.getD j (0, 0, 0)).2.2] 53)).heap.size := World.block_lt_of_cell? _ _ D0
     have kn : (0 : Int) < (j : Int) := by omega
     have kN : 0 < j := by omega
     have kw : IntKind.i64.wrap ((j : Int) - 1) = ((j - 1 : Nat) : Int) := by
      rw [IntWalk.i64_in _ (by omega)]
      omega
     have kj : ((j - 1 : Nat) : Int) < (l.length : Int) := by omega
     have kj0 : (0 : Int) ≤ ((j - 1 : Nat) : Int) := by omega
     rw [show (j == 0) = false by simpa using k0, Bool.false_or] at hnext
     clear k hmp d0 d1 d2
     generalize (l.getD j (0, 0, 0)) = x at *
     generalize l.getD (j - 1) (0, 0, 0) = y at *
     obtain ⟨xa, xb, xc⟩ := x
     obtain ⟨ya, yb, yc⟩ := y
     dsimp only at *
     generalize Exts.fin (ya, yb, yc) = f at *
     generalize hJ : j - 1 = j1 at *
     by_cases k2 : f ≤ xa
     ·have k2' : ¬ xa < f := by omega
      have k2d : decide (xa < f) = false := decide_eq_false k2'
      have hok' : Exts.okTo l (j + 1) = true := by rw [hnext]; exact decide_eq_true k2
      clear hnext
      go_upto_region 4 with fail
      generalize wr.alloc _ = wx at *
      generalize hX : wr.heap.size = X at *
      go_region_held3 (fun w' => w'.cell? ⟨X, 0, none⟩ = some (.int .i64 xa) ∧ w'.cell? ⟨X, 1, none⟩ = some (.int .i64 xb) ∧ w'.cell? ⟨X, 2, none⟩ = some (.int .i64 xc) ∧ w'.cell? ⟨g, off + j1 * 3, none⟩ = some (.int .i64 ya) ∧ w'.cell? ⟨g, off + j1 * 3 + 1, none⟩ = some (.int .i64 yb) ∧ w'.cell? ⟨g, off + j1 * 3 + 2, none⟩ = some (.int .i64 yc))
       (first | exact ⟨bx0, bx1, bx2, D0, D1, D2⟩ | exact ⟨(s4.cell (p := ⟨X, 0, none⟩) zX).trans bx0, (s4.cell (p := ⟨X, 1, none⟩) zX).trans bx1, (s4.cell (p := ⟨X, 2, none⟩) zX).trans bx2, (s4.cell (p := ⟨g, off + j1 * 3, none⟩) zg).trans D0, (s4.cell (p := ⟨g, off + j1 * 3 + 1, none⟩) zg).trans D1, (s4.cell (p := ⟨g, off + j1 * 3 + 2, none⟩) zg).trans D2⟩ | exact ⟨(s5.cell (p := ⟨X, 0, none⟩) zX).trans bx0, (s5.cell (p := ⟨X, 1, none⟩) zX).trans bx1, (s5.cell (p := ⟨X, 2, none⟩) zX).trans bx2, (s5.cell (p := ⟨g, off + j1 * 3, none⟩) zg).trans D0, (s5.cell (p := ⟨g, off + j1 * 3 + 1, none⟩) zg).trans D1, (s5.cell (p := ⟨g, off + j1 * 3 + 2, none⟩) zg).trans D2⟩)
       (first | (go_at_call 117; refine (hm.out _).mono ?_; rintro e w4 ⟨rfl, b4⟩; have s4 : Below wx.heap.size wx w4 := ⟨b4.os, b4.tape, b4.output, b4.size, b4.block⟩) | (go_at_call 82; refine (he.out _).mono ?_; rintro e w5 ⟨rfl, b5⟩; have s5 : Below wx.heap.size wx w5 := s4.trans ⟨b5.os, b5.tape, b5.output, b5.size, fun k hk => b5.block k (Nat.lt_of_lt_of_le hk s4.size)⟩))
      have B9 := hid (hb.out.trans ((bA.trans (s5.mono (by omega))).mono hBz))
      clear s4 s5 b4 b5 bA hb
      go_wp2_with fail
      go_roundw
      case rel => exact ⟨j + 1, by omega, by go_num, hok', B9⟩
      case measure => simp [intOf]; omega
     ·have k2' : xa < f := by omega
      have k2d : decide (xa < f) = true := decide_eq_true k2'
      have hOK := hid (Exts.okTo_false (n := l.length) l (j + 1) (by rw [hnext]; exact decide_eq_false k2) (by omega))
      clear hnext
      go_upto_region 4 with fail
      generalize wr.alloc _ = wx at *
      generalize hX : wr.heap.size = X at *
      go_region_held3 (fun w' => w'.cell? ⟨X, 0, none⟩ = some (.int .i64 xa) ∧ w'.cell? ⟨X, 1, none⟩ = some (.int .i64 xb) ∧ w'.cell? ⟨X, 2, none⟩ = some (.int .i64 xc) ∧ w'.cell? ⟨g, off + j1 * 3, none⟩ = some (.int .i64 ya) ∧ w'.cell? ⟨g, off + j1 * 3 + 1, none⟩ = some (.int .i64 yb) ∧ w'.cell? ⟨g, off + j1 * 3 + 2, none⟩ = some (.int .i64 yc))
       (first | exact ⟨bx0, bx1, bx2, D0, D1, D2⟩ | exact ⟨(s4.cell (p := ⟨X, 0, none⟩) zX).trans bx0, (s4.cell (p := ⟨X, 1, none⟩) zX).trans bx1, (s4.cell (p := ⟨X, 2, none⟩) zX).trans bx2, (s4.cell (p := ⟨g, off + j1 * 3, none⟩) zg).trans D0, (s4.cell (p := ⟨g, off + j1 * 3 + 1, none⟩) zg).trans D1, (s4.cell (p := ⟨g, off + j1 * 3 + 2, none⟩) zg).trans D2⟩ | exact ⟨(s5.cell (p := ⟨X, 0, none⟩) zX).trans bx0, (s5.cell (p := ⟨X, 1, none⟩) zX).trans bx1, (s5.cell (p := ⟨X, 2, none⟩) zX).trans bx2, (s5.cell (p := ⟨g, off + j1 * 3, none⟩) zg).trans D0, (s5.cell (p := ⟨g, off + j1 * 3 + 1, none⟩) zg).trans D1, (s5.cell (p := ⟨g, off + j1 * 3 + 2, none⟩) zg).trans D2⟩)
       (first | (go_at_call 117; refine (hm.out _).mono ?_; rintro e w4 ⟨rfl, b4⟩; have s4 : Below wx.heap.size wx w4 := ⟨b4.os, b4.tape, b4.output, b4.size, b4.block⟩) | (go_at_call 82; refine (he.out _).mono ?_; rintro e w5 ⟨rfl, b5⟩; have s5 : Below wx.heap.size wx w5 := s4.trans ⟨b5.os, b5.tape, b5.output, b5.size, fun k hk => b5.block k (Nat.lt_of_lt_of_le hk s4.size)⟩))
      have B9 := hid (hb.out.trans ((bA.trans (s5.mono (by omega))).mono hBz))
      clear s4 s5 b4 b5 bA hb
      go_wp2_with fail
      go_ret
      exact ⟨by rw [hOK.out]; rfl, B9.out⟩
   ·rw [decide_eq_false k] at hm hnext
    rw [Bool.false_and] at hnext
    have hOK := hid (Exts.okTo_false (n := l.length) l (j + 1) hnext (by omega))
    clear hnext k
    generalize (l.getD j (0, 0, 0)) = x at *
    obtain ⟨xa, xb, xc⟩ := x
    dsimp only at *
    go_upto_region 4 with fail
    generalize wr.alloc _ = wx at *
    generalize hX : wr.heap.size = X at *
    refine wp_region_held_drew (S := fun w' => w'.cell? ⟨X, 0, none⟩ = some (.int .i64 xa) ∧ w'.cell? ⟨X, 1, none⟩ = some (.int .i64 xb) ∧ w'.cell? ⟨X, 2, none⟩ = some (.int .i64 xc)) (by kernel_rfl) (⟨bx0, bx1, bx2⟩) (fun hHeld => ?_)
    refine wpAnyH_take (i := 0) (v := .agg #[.int .i64 xa, .int .i64 xb, .int .i64 xc]) rfl (by kernel_rfl) (by kernel_rfl) (by kernel_rfl) (fun _ _ _ h => h) (Or.inl ⟨rfl, fun w hSw => ?_⟩) (by assumption) ?_
    ·(try dsimp only at hSw); go_simp
    try simp only [List.getElem_toArray, List.getElem_cons_zero, Act.put, List.setIfInBounds_toArray, List.set_cons_zero, List.set_cons_succ]
    refine wpAnyH_ready (rs := [1]) (by kernel_rfl) (by simp) ?_
    refine AllReadyH.cons rfl (fun K hK => ?_) AllReadyH.nil
    go_simp
    go_at_call 117; refine (hm.out _).mono ?_; rintro e w4 ⟨rfl, b4⟩; have s4 : Below wx.heap.size wx w4 := ⟨b4.os, b4.tape, b4.output, b4.size, b4.block⟩
    refine hK.out _ _ (⟨(s4.cell (p := ⟨X, 0, none⟩) zX).trans bx0, (s4.cell (p := ⟨X, 1, none⟩) zX).trans bx1, (s4.cell (p := ⟨X, 2, none⟩) zX).trans bx2⟩) (fun hHeld => ?_)
    clear hK K
    try simp only [List.getElem_toArray, List.getElem_cons_succ, List.getElem_cons_zero, Act.put, List.setIfInBounds_toArray, List.set_cons_zero, List.set_cons_succ]
    refine wpAnyH_take (i := 2) (v := .bool true) rfl (by kernel_rfl) (by kernel_rfl) (by kernel_rfl) (fun _ _ _ h => h) (Or.inl ⟨rfl, fun w hSw => ?_⟩) (by assumption) ?_
    ·(try dsimp only at hSw); go_simp
    try simp only [List.getElem_toArray, List.getElem_cons_succ, List.getElem_cons_zero, Act.put, List.setIfInBounds_toArray, List.set_cons_zero, List.set_cons_succ]
    refine wpAnyH_take (i := 3) (v := .bool true) rfl (by kernel_rfl) (by kernel_rfl) (by kernel_rfl) (fun _ _ _ h => h) (Or.inl ⟨rfl, fun w hSw => ?_⟩) (by assumption) ?_
    ·(try dsimp only at hSw); go_simp
    try simp only [List.getElem_toArray, List.getElem_cons_succ, List.getElem_cons_zero, Act.put, List.setIfInBounds_toArray, List.set_cons_zero, List.set_cons_succ]
    refine wpAnyH_take (i := 4) (v := undef) rfl (by kernel_rfl) (by kernel_rfl) (by kernel_rfl) (fun _ _ _ h => h) (Or.inr ⟨rfl, rfl⟩) (by assumption) ?_
    try simp only [List.getElem_toArray, List.getElem_cons_succ, List.getElem_cons_zero, Act.put, List.setIfInBounds_toArray, List.set_cons_zero, List.set_cons_succ]
    refine wpAnyH_take (i := 5) (v := undef) rfl (by kernel_rfl) (by kernel_rfl) (by kernel_rfl) (fun _ _ _ h => h) (Or.inr ⟨rfl, rfl⟩) (by assumption) ?_
    try simp only [List.getElem_toArray, List.getElem_cons_succ, List.getElem_cons_zero, Act.put, List.setIfInBounds_toArray, List.set_cons_zero, List.set_cons_succ]
    refine wpAnyH_take (i := 6) (v := undef) rfl (by kernel_rfl) (by kernel_rfl) (by kernel_rfl) (fun _ _ _ h => h) (Or.inr ⟨rfl, rfl⟩) (by assumption) ?_
    try simp only [List.getElem_toArray, List.getElem_cons_succ, List.getElem_cons_zero, Act.put, List.setIfInBounds_toArray, List.set_cons_zero, List.set_cons_succ]
    refine wpAnyH_take (i := 7) (v := undef) rfl (by kernel_rfl) (by kernel_rfl) (by kernel_rfl) (fun _ _ _ h => h) (Or.inr ⟨rfl, rfl⟩) (by assumption) ?_
    try simp only [List.getElem_toArray, List.getElem_cons_succ, List.getElem_cons_zero, Act.put, List.setIfInBounds_toArray, List.set_cons_zero, List.set_cons_succ]
    refine wpAnyH_take (i := 8) (v := undef) rfl (by kernel_rfl) (by kernel_rfl) (by kernel_rfl) (fun _ _ _ h => h) (Or.inr ⟨rfl, rfl⟩) (by assumption) ?_
    try simp only [List.getElem_toArray, List.getElem_cons_succ, List.getElem_cons_zero, Act.put, List.setIfInBounds_toArray, List.set_cons_zero, List.set_cons_succ]
    refine wpAnyH_take (i := 9) (v := undef) rfl (by kernel_rfl) (by kernel_rfl) (by kernel_rfl) (fun _ _ _ h => h) (Or.inr ⟨rfl, rfl⟩) (by assumption) ?_
    try simp only [List.getElem_toArray, List.getElem_cons_succ, List.getElem_cons_zero, Act.put, List.setIfInBounds_toArray, List.set_cons_zero, List.set_cons_succ]
    refine wpAnyH_take (i := 10) (v := undef) rfl (by kernel_rfl) (by kernel_rfl) (by kernel_rfl) (fun _ _ _ h => h) (Or.inr ⟨rfl, rfl⟩) (by assumption) ?_
    try simp only [List.getElem_toArray, List.getElem_cons_succ, List.getElem_cons_zero, Act.put, List.setIfInBounds_toArray, List.set_cons_zero, List.set_cons_succ]
    refine wpAnyH_take (i := 11) (v := undef) rfl (by kernel_rfl) (by kernel_rfl) (by kernel_rfl) (fun _ _ _ h => h) (Or.inr ⟨rfl, rfl⟩) (by assumption) ?_
    try simp only [List.getElem_toArray, List.getElem_cons_succ, List.getElem_cons_zero, Act.put, List.setIfInBounds_toArray, List.set_cons_zero, List.set_cons_succ]
    refine wpAnyH_take (i := 12) (v := undef) rfl (by kernel_rfl) (by kernel_rfl) (by kernel_rfl) (fun _ _ _ h => h) (Or.inr ⟨rfl, rfl⟩) (by assumption) ?_
    try simp only [List.getElem_toArray, List.getElem_cons_succ, List.getElem_cons_zero, Act.put, List.setIfInBounds_toArray, List.set_cons_zero, List.set_cons_succ]
    refine wpAnyH_take (i := 13) (v := undef) rfl (by kernel_rfl) (by kernel_rfl) (by kernel_rfl) (fun _ _ _ h => h) (Or.inr ⟨rfl, rfl⟩) (by assumption) ?_
    try simp only [List.getElem_toArray, List.getElem_cons_succ, List.getElem_cons_zero, Act.put, List.setIfInBounds_toArray, List.set_cons_zero, List.set_cons_succ]
    refine wpAnyH_take (i := 14) (v := undef) rfl (by kernel_rfl) (by kernel_rfl) (by kernel_rfl) (fun _ _ _ h => h) (Or.inr ⟨rfl, rfl⟩) (by assumption) ?_
    try simp only [List.getElem_toArray, List.getElem_cons_succ, List.getElem_cons_zero, Act.put, List.setIfInBounds_toArray, List.set_cons_zero, List.set_cons_succ]
    refine wpAnyH_take (i := 15) (v := undef) rfl (by kernel_rfl) (by kernel_rfl) (by kernel_rfl) (fun _ _ _ h => h) (Or.inr ⟨rfl, rfl⟩) (by assumption) ?_
    try simp only [List.getElem_toArray, List.getElem_cons_succ, List.getElem_cons_zero, Act.put, List.setIfInBounds_toArray, List.set_cons_zero, List.set_cons_succ]
    refine wpAnyH_take (i := 16) (v := undef) rfl (by kernel_rfl) (by kernel_rfl) (by kernel_rfl) (fun _ _ _ h => h) (Or.inr ⟨rfl, rfl⟩) (by assumption) ?_
    try simp only [List.getElem_toArray, List.getElem_cons_succ, List.getElem_cons_zero, Act.put, List.setIfInBounds_toArray, List.set_cons_zero, List.set_cons_succ]
    refine wpAnyH_take (i := 17) (v := .bool true) rfl (by kernel_rfl) (by kernel_rfl) (by kernel_rfl) (fun _ _ _ h => h) (Or.inl ⟨rfl, fun w hSw => ?_⟩) (by assumption) ?_
    ·(try dsimp only at hSw); go_simp
    try simp only [List.getElem_toArray, List.getElem_cons_succ, List.getElem_cons_zero, Act.put, List.setIfInBounds_toArray, List.set_cons_zero, List.set_cons_succ]
    refine wpAnyH_done (by kernel_rfl) ?_ _
    have B9 := hid (hb.out.trans ((bA.trans (s4.mono (by omega))).mono hBz))
    clear s4 b4 bA hb
    go_wp2_with fail
    go_ret
    exact ⟨by rw [hOK.out]; rfl, B9.out⟩
  ·obtain rfl : j = l.length := by omega
   go_wp2_with fail
   go_ret
   exact ⟨by rw [hok]; rfl, hb.out⟩
structure RowBox (X : Nat) (w0 w : World) (l : EL) : Prop where
 lo : w0.heap.size ≤ X
 ex : ∃ v, w.heap[X]? = some (.cells #[v] 241 (0, 0)) ∧ OwnExts (X + 1) w v l
 bel : Below X w0 w
theorem RowBox.lt {X : Nat} {w0 w : World} {l : EL} (h : RowBox X w0 w l) : X < w.heap.size := by obtain ⟨v, h, _⟩ := h.ex; exact lt_of_block h
theorem RowBox.below {X : Nat} {w0 w w' : World} {l : EL} (h : RowBox X w0 w l) (hb : Below w.heap.size w w') : RowBox X w0 w' l := by
 have hl := h.lt
 obtain ⟨v, h1, h2⟩ := h.ex
 exact ⟨h.lo, ⟨v, by rw [hb.block X hl]; exact h1, h2.below hb⟩, h.bel.trans (hb.mono (Nat.le_of_lt hl))⟩
theorem OwnExts.slice {B : Nat} {w : World} {v : Value} {l : EL} (h : OwnExts B w v l) : ∃ ad c, v = .slice ad l.length c := by
 rcases h.2 with ⟨rfl, hn⟩ | ⟨g, cap, cur, rfl, _⟩
 ·exact ⟨_, _, by rw [hn]⟩
 ·exact ⟨_, _, rfl⟩
theorem fin_part {x : Exts.E} (hm : Exts.may x) (a b : Int) (ha : 0 ≤ a) (k : max a x.1 < min b (Exts.fin x)) :
  0 ≤ max a x.1 ∧ max a x.1 ≤ 2048 ∧ 0 ≤ min b (Exts.fin x) ∧ min b (Exts.fin x) ≤ 2048 := by
 unfold Exts.may at hm
 unfold Exts.fin at *
 omega
theorem own_setB {B z n : Nat} {T : TypeId} {w : World} {v : Value} {xs : List Value} (h : w.ownsRow B T z v n xs) {a : Addr} (ha : a.block < B) (u : Value) : (w.setCell a u).ownsRow B T z v n xs := by
 refine ⟨h.1, ?_⟩
 rcases h.2 with h0 | ⟨g, cap, cur, e0, hb, hg, r⟩
 ·exact .inl h0
 ·exact .inr ⟨g, cap, cur, e0, hb, by rw [Below.heap_setCell _ _ _ _ (show g ≠ a.block by omega)]; exact hg, r⟩
theorem rowbox_pushed {X g c : Nat} {w0 wa w5 : World} {L : EL} {y : Exts.E} {u : Value} {row : Option Nat} (hlo : w0.heap.size ≤ X) (hbel : Below X w0 wa) (hX : X + 1 ≤ wa.heap.size) (hrow : ∀ j, row = some j → X + 1 ≤ j) (hg : wa.grownBy w5 row)
  (X5 : w5.heap[X]? = some (.cells #[u] 241 (0, 0))) (hown : w5.ownsRow (X + 1) 53 3 (.slice (some ⟨g, 0, none⟩) (L.length + 1) c) (L.length + 1) (ecells L ++ [.int .i64 y.1, .int .i64 y.2.1, .int .i64 y.2.2])) :
  RowBox X w0 (w5.setCell ⟨X, 0, none⟩ (.slice (some ⟨g, 0, none⟩) (L.length + 1) c)) (L ++ [y]) := by
 refine ⟨hlo, ⟨_, one_setCell X5, own_setB ?_ (Nat.lt_succ_self X) _⟩, ((hbel.grown hg (by omega) (fun k hk => by have := hrow k hk; omega)).setCell (Nat.le_refl _) _)⟩
 rw [ecells_append, List.length_append]
 exact hown
set_option maxRecDepth 100000 in
set_option maxHeartbeats 4000000 in
theorem eput_any (X : Nat) (w0 : World) (L : EL) (x : Exts.E) (a b : Int) (w : World) (h : RowBox X w0 w L) (hm : Exts.may x) (ha : 0 ≤ a) (ha2 : a ≤ 9223372036854775807) (hb : -9223372036854775808 ≤ b ∧ b ≤ 9223372036854775807) (hL : L.length ≤ 1000000000) :
  Calls Tryz.prog 158 #[.pointer (some ⟨X, 0, none⟩), .agg #[.int .i64 x.1, .int .i64 x.2.1, .int .i64 x.2.2], .int .i64 a, .int .i64 b] w fun e w' => e = .returned (.tuple #[]) ∧ RowBox X w0 w' (L ++ Exts.part x a b) := by
 obtain ⟨i0', hi0, hz0, hz1, hz2⟩ := info_parts info_ext
 have he := hid (fun w => eend_any x (emay_fin hm) w)
 have hp : Hid (Exts.part x a b = if max a x.1 < min b (Exts.fin x) then [(max a x.1, x.2.1 + max a x.1 - x.1, min b (Exts.fin x) - max a x.1)] else []) := hid rfl
 have hfp := hid (fin_part hm a b ha)
 have hmx : Exts.may x := hm
 unfold Exts.may at hmx
 have hfx : Exts.fin x = x.1 + x.2.2 := rfl
 have hfb : 1 ≤ Exts.fin x ∧ Exts.fin x ≤ 2048 := by omega
 clear hfx hm
 generalize Exts.part x a b = PT at *
 generalize hF : Exts.fin x = F at *
 clear hF
 obtain ⟨xa, xb, xc⟩ := x
 dsimp only at *
 obtain ⟨m, hm'⟩ : ∃ m, max a xa = m := ⟨_, rfl⟩
 obtain ⟨n, hn'⟩ : ∃ n, min b F = n := ⟨_, rfl⟩
 rw [hm', hn'] at hp hfp
 have hmi : (if a < xa then xa else a) = m := by rw [← hm']; split <;> omega
 have hni : (if F < b then F else b) = n := by rw [← hn']; split <;> omega
 clear hm' hn'
 have h1 := h.below (w' := w.alloc (.cells #[.int .i64 xa, .int .i64 xb, .int .i64 xc] 53)) ((Below.refl _ _).alloc (Nat.le_refl _) _)
 have HB := hid h1
 have x0 : (w.alloc (.cells #[.int .i64 xa, .int .i64 xb, .int .i64 xc] 53)).cell? ⟨w.heap.size, 0, none⟩ = some (.int .i64 xa) := box_cell _ _ _ _
 have x1 : (w.alloc (.cells #[.int .i64 xa, .int .i64 xb, .int .i64 xc] 53)).cell? ⟨w.heap.size, 1, none⟩ = some (.int .i64 xb) := box_cell _ _ _ _
 have x2 : (w.alloc (.cells #[.int .i64 xa, .int .i64 xb, .int .i64 xc] 53)).cell? ⟨w.heap.size, 2, none⟩ = some (.int .i64 xc) := box_cell _ _ _ _
 have zY : w.heap.size < (w.alloc (.cells #[.int .i64 xa, .int .i64 xb, .int .i64 xc] 53)).heap.size := by simp
 clear h h1
 go_enter Tryz.func158, Tryz.ntmps158
 go_upto_region 1 with fail
 generalize w.alloc _ = wx at *
 generalize hY : w.heap.size = Y at *
 go_cut [2, 3] from 8 to 15 (fun p q wy => p = .int .i64 m ∧ q = .int .i64 n ∧ Below wx.heap.size wx wy)
 case first =>
  go_region_held3 (fun w' => w'.cell? ⟨Y, 0, none⟩ = some (.int .i64 xa) ∧ w'.cell? ⟨Y, 1, none⟩ = some (.int .i64 xb) ∧ w'.cell? ⟨Y, 2, none⟩ = some (.int .i64 xc))
   (first | exact ⟨x0, x1, x2⟩ | exact ⟨(s4.cell (p := ⟨Y, 0, none⟩) zY).trans x0, (s4.cell (p := ⟨Y, 1, none⟩) zY).trans x1, (s4.cell (p := ⟨Y, 2, none⟩) zY).trans x2⟩)
   ((go_at_call 82; refine (he.out _).mono ?_; rintro e w4 ⟨rfl, b4⟩; have s4 : Below wx.heap.size wx w4 := ⟨b4.os, b4.tape, b4.output, b4.size, b4.block⟩))
  all_goals (go_step; go_step; go_meet; exact ⟨rfl, rfl, s4⟩)
 obtain ⟨rfl, rfl, bc⟩ := hcut
 have y0 := (bc.cell (p := ⟨Y, 0, none⟩) zY).trans x0
 have y1 := (bc.cell (p := ⟨Y, 1, none⟩) zY).trans x1
 have HC := hid (HB.out.below bc)
 clear x0 x1 x2 zY bc hmi hni HB
 by_cases k : m < n
 ·have hp' : Hid (PT = [(m, xb + m - xa, n - m)]) := hid (by rw [hp.out, if_pos k])
  obtain ⟨f1, f2, f3, f4⟩ := hfp.out k
  obtain ⟨v, hX, hO⟩ := HC.out.ex
  obtain ⟨ad, co, rfl⟩ := hO.slice
  have cX := cell_of_one hX
  have fX := free_of_one hX
  have HO := hid hO
  have HX := hid hX
  have hlt := lt_of_block hX
  have wa : IntKind.i64.wrap (xb + m) = xb + m := IntWalk.i64_in _ (by omega)
  have wb : IntKind.i64.wrap (xb + m - xa) = xb + m - xa := IntWalk.i64_in _ (by omega)
  have wd : IntKind.i64.wrap (n - m) = n - m := IntWalk.i64_in _ (by omega)
  clear hX hO
  have bA : Below wc.heap.size wc (wc.drew.alloc (.cells #[.int .i64 m, .int .i64 (xb + m - xa), .int .i64 (n - m)] 53)) := (Below.refl _ _).drew.alloc (Nat.le_refl _) _
  have G : (wc.drew.alloc (.cells #[.int .i64 m, .int .i64 (xb + m - xa), .int .i64 (n - m)] 53)).ownsRow (X + 1) 53 3 (.slice ad L.length co) L.length (ecells L) := HO.out.below bA
  have NN : ∀ jj uu, [Value.int .i64 m, .int .i64 (xb + m - xa), .int .i64 (n - m)][jj]? = some uu → (wc.drew.alloc (.cells #[.int .i64 m, .int .i64 (xb + m - xa), .int .i64 (n - m)] 53)).cell? ((⟨wc.heap.size, 0, none⟩ : Addr).add jj) = some uu := fun jj uu hjj => by
   have hadd : (⟨wc.heap.size, 0, none⟩ : Addr).add jj = ⟨wc.heap.size, jj, none⟩ := by unfold Addr.add; split <;> simp_all
   rw [hadd]
   exact (World.cell?_alloc_at (w := wc.drew) _ _ _ jj rfl).trans (by simpa using hjj)
  have hone := ecells_one [(m, xb + m - xa, n - m)]
  have HG := hid G
  have HNN := hid NN
  have hnB : Hid (∀ j, (Value.slice ad L.length co).ownBlock = some j → X + 1 ≤ j) := hid (fun j hj => (World.ownsRow.lt HO.out j hj).1)
  have hXw : Hid ((wc.drew.alloc (.cells #[.int .i64 m, .int .i64 (xb + m - xa), .int .i64 (n - m)] 53)).heap[X]? = some (.cells #[.slice ad L.length co] 241 (0, 0))) := hid (by rw [bA.block X hlt]; exact HX.out)
  have hXs : X + 1 ≤ wc.heap.size := hlt
  have HBL : Hid (Below X w0 (wc.drew.alloc (.cells #[.int .i64 m, .int .i64 (xb + m - xa), .int .i64 (n - m)] 53))) := hid (HC.out.bel.trans (bA.mono (by omega)))
  have hlo := hid HC.out.lo
  clear G NN bA HO HX HC
  go_upto_region 3 with fail
  go_region_law (refine step_append_lies _ rfl (.tmp 22) (.tmp 35) 241 rfl (X + 1) 53 i0' (.agg #[.int .i64 0, .int .i64 0, .int .i64 0]) 3 24 Tryz.underlying241 hi0 hz0 hz1 hz2 rfl (by decide) (.slice ad L.length co) L.length (ecells L) (by simp [Act.eval, Act.put]; done) HG.out ⟨wc.heap.size, 0, none⟩ 1 1 [.int .i64 m, .int .i64 (xb + m - xa), .int .i64 (n - m)] (by simp [Act.eval, Act.put]; done) rfl HNN.out hone (by decide) (by unfold maxLen; omega) (by omega) (by simp; omega) _ rfl ?_; intro g5 c5 w5 hown hgrow hat hlt5; have X5 : w5.heap[X]? = some (.cells #[.slice ad L.length co] 241 (0, 0)) := (hgrow.block X (by simp; omega) (fun e => by have := hnB.out X e.symm; omega)).trans hXw.out; have cX5 := cell_of_one X5; have fX5 := free_of_one X5)
  all_goals
   have R5 := hid (rowbox_pushed (y := (m, xb + m - xa, n - m)) hlo.out HBL.out (by simp; omega) hnB.out hgrow X5 hown)
   rw [← hp'.out] at R5
   go_end0
   exact ⟨rfl, R5.out⟩
 ·have hp' : Hid (PT = []) := hid (by rw [hp.out, if_neg k])
  go_wp2_with fail
  go_end0
  exact ⟨rfl, by rw [hp'.out, List.append_nil]; exact HC.out⟩
theorem Exts.endR_at {l : EL} (h : Exts.okTo l l.length = true) (hl : 0 < l.length) : Exts.endR l = Exts.fin (l.getD (l.length - 1) (0, 0, 0)) := by
 unfold Exts.endR
 rw [h, if_pos rfl, List.getLastD_eq_getLast?, List.getLast?_eq_getElem?, List.getD]
set_option maxRecDepth 100000 in
set_option maxHeartbeats 2000000 in
theorem eEnd_any (v : Value) (l : EL) (w : World) (hs : SmallsE l) (h : ExtsAt w v l) (hl : l.length ≤ 1000000000) :
  Calls Tryz.prog 105 #[v] w fun e w' => e = .returned (.int .i64 (Exts.endR l)) ∧ Below w.heap.size w w' := by
 have q := hid (echeck_any v l w hs h hl)
 have H := hid h
 obtain ⟨ad, cap, rfl⟩ : ∃ ad cap, v = .slice ad l.length cap := by
  rcases h with ⟨rfl, rfl⟩ | ⟨b, off, cap, rfl, _⟩
  ·exact ⟨_, _, rfl⟩
  ·exact ⟨_, _, rfl⟩
 cases hok : Exts.okTo l l.length
 ·rw [hok] at q
  have hE := hid (Exts.endR_bad l hok)
  clear h hok
  go_enter Tryz.func105, Tryz.ntmps105
  go_wp2_with fail
  refine q.out.mono ?_
  rintro e w1 ⟨rfl, b1⟩
  have B1 := hid b1
  clear b1
  go_wp2_with fail
  go_ret
  exact ⟨by rw [hE.out]; rfl, B1.out⟩
 ·rw [hok] at q
  by_cases hn : l.length = 0
  ·have hE : Hid (Exts.endR l = 0) := hid (by rw [List.eq_nil_of_length_eq_zero hn]; rfl)
   have hb : ((l.length : Int) == 0) = true := by simp [hn]
   clear h hok hn
   go_enter Tryz.func105, Tryz.ntmps105
   go_wp2_with fail
   refine q.out.mono ?_
   rintro e w1 ⟨rfl, b1⟩
   have B1 := hid b1
   clear b1
   go_wp2_with fail
   go_ret
   exact ⟨by rw [hE.out]; rfl, B1.out⟩
  ·have hE := hid (Exts.endR_at hok (by omega))
   have hx := (Exts.check_row.1 hok).may (l.getD (l.length - 1) (0, 0, 0)) (by simp [List.getD, show l.length - 1 < l.length by omega])
   have he := hid (fun w => eend_any _ (emay_fin hx) w)
   have hb : ((l.length : Int) == 0) = false := by rw [beq_eq_false_iff_ne]; omega
   obtain ⟨j, hj⟩ : ∃ j, l.length - 1 = j := ⟨_, rfl⟩
   have k1 : (j : Int) < (l.length : Int) := by omega
   have k2 : (0 : Int) ≤ (j : Int) := by omega
   have kw : IntKind.i64.wrap ((l.length : Int) - 1) = (j : Int) := by rw [IntWalk.i64_in _ (by omega)]; omega
   have kw' : (l.length : Int) - 1 = (j : Int) := by omega
   have HC := hid (fun w1 (hb : Below w.heap.size w w1) => (H.out.below (B := 0) hb).cells j (by omega))
   rw [hj] at hE he
   clear h hok hx hj hn
   go_enter Tryz.func105, Tryz.ntmps105
   go_wp2_with fail
   refine q.out.mono ?_
   rintro e w1 ⟨rfl, b1⟩
   obtain ⟨_, g, off, rfl, c0, c1, c2⟩ := HC.out w1 b1
   have B1 := hid b1
   generalize l.getD j (0, 0, 0) = x at *
   obtain ⟨xa, xb, xc⟩ := x
   dsimp only at *
   clear b1
   go_wp2_with fail
   refine (he.out _).mono ?_
   rintro e w2 ⟨rfl, b2⟩
   have B2 := hid (B1.out.trans (b2.mono B1.out.size))
   clear b2
   go_wp2_with fail
   go_ret
   exact ⟨by rw [hE.out]; rfl, B2.out⟩
end Go.Proofs.YtgjmeeiejcbjfaaGreat
namespace Go.Proofs.YtgjmeeiejcbjfaaGreat
open Go.Lib (hid)
open Go Go.RowKit
namespace Exts
open Go.Lib (hid)
structure Search (l : EL) (t : Int) (r : Nat) : Prop where
 le : r ≤ l.length
 lo : ∀ k, k < r → fin (l.getD k (0, 0, 0)) ≤ t
 hi : ∀ k, r ≤ k → k < l.length → t < fin (l.getD k (0, 0, 0))
theorem row_pair {l : EL} (hl : Row l) {a b : Nat} (hab : a < b) (hb : b < l.length) : fin (l.getD a (0, 0, 0)) ≤ (l.getD b (0, 0, 0)).1 := by
 induction l generalizing a b with
 | nil => simp at hb
 | cons x l ih =>
  obtain ⟨b, rfl⟩ : ∃ c, b = c + 1 := ⟨b - 1, by omega⟩
  have hb' : b < l.length := by simpa using hb
  cases a with
  | zero =>
   simp only [List.getD_cons_zero, List.getD_cons_succ]
   exact hl.2.1 _ (by simp [List.getD, hb'])
  | succ a =>
   simp only [List.getD_cons_succ]
   exact ih hl.2.2 (by omega) hb'
theorem row_at {l : EL} (hl : Row l) {a : Nat} (ha : a < l.length) : may (l.getD a (0, 0, 0)) := hl.may _ (by simp [List.getD, ha])
theorem row_mono {l : EL} (hl : Row l) {a b : Nat} (hab : a ≤ b) (hb : b < l.length) : fin (l.getD a (0, 0, 0)) ≤ fin (l.getD b (0, 0, 0)) := by
 rcases Nat.lt_or_ge a b with h | h
 ·have h1 := row_pair hl h hb
  have h2 := row_at hl hb
  unfold may at h2
  unfold fin at *
  omega
 ·obtain rfl : a = b := by omega
  exact Int.le_refl _
theorem at_skip (l : EL) (t : Int) : ∀ r, (∀ k, k < r → ¬ ((l.getD k (0, 0, 0)).1 ≤ t ∧ t < fin (l.getD k (0, 0, 0)))) → at_ l t = at_ (l.drop r) t := by
 induction l with
 | nil => intro r _; simp
 | cons x l ih =>
  intro r h
  cases r with
  | zero => rfl
  | succ r =>
   have h0 := h 0 (by omega)
   simp only [List.getD_cons_zero] at h0
   rw [at_, if_neg h0, List.drop_succ_cons]
   exact ih r (fun k hk => by have := h (k + 1) (by omega); simpa using this)
theorem at_none {l : EL} (hl : Row l) {t : Int} {r : Nat} (h : Search l t r) (hr : r = l.length ∨ t < (l.getD r (0, 0, 0)).1) : at_ l t = none := by
 rw [at_skip l t l.length (fun k hk => ?_), List.drop_length]
 ·rfl
 rintro ⟨h1, h2⟩
 rcases Nat.lt_or_ge k r with h3 | h3
 ·have := h.lo k h3; omega
 ·rcases hr with rfl | hr
  ·omega
  ·rcases Nat.lt_or_ge r k with h4 | h4
   ·have h5 := row_pair hl h4 hk
    have h6 := row_at hl (show r < l.length by omega)
    unfold may at h6
    unfold fin at *
    omega
   ·obtain rfl : k = r := by omega
    omega
theorem at_some {l : EL} {t : Int} {r : Nat} (h : Search l t r) (hr : r < l.length) (hle : (l.getD r (0, 0, 0)).1 ≤ t) : at_ l t = some ((l.getD r (0, 0, 0)).2.1 + t - (l.getD r (0, 0, 0)).1, fin (l.getD r (0, 0, 0)) - t) := by
 rw [at_skip l t r (fun k hk => by have := h.lo k hk; omega), List.drop_eq_getElem_cons hr, at_]
 have e : l.getD r (0, 0, 0) = l[r] := by simp [List.getD, hr]
 have h2 := h.hi r (Nat.le_refl _) hr
 rw [e] at hle h2 ⊢
 rw [if_pos ⟨hle, h2⟩]
def findR (l : EL) (t : Int) : Int × Int × Bool :=
 if okTo l l.length then match at_ l t with
  | none => (0, 0, false)
  | some (p, n) => (p, n, true)
 else (0, 0, false)
theorem findR_bad {l : EL} {t : Int} (h : okTo l l.length = false) : findR l t = (0, 0, false) := by unfold findR; rw [h]; rfl
theorem findR_none {l : EL} {t : Int} (h : okTo l l.length = true) (ha : at_ l t = none) : findR l t = (0, 0, false) := by unfold findR; rw [h, if_pos rfl, ha]
theorem findR_some {l : EL} {t p n : Int} (h : okTo l l.length = true) (ha : at_ l t = some (p, n)) : findR l t = (p, n, true) := by unfold findR; rw [h, if_pos rfl, ha]
end Exts
theorem find1_lo (x : Exts.E) (t : Int) (hm : Exts.may x) (ht : -9223372036854775808 ≤ t ∧ t ≤ 9223372036854775807) (h : Exts.fin x ≤ t) (w : World) :
  Calls Tryz.prog 81 #[.agg #[.int .i64 x.1, .int .i64 x.2.1, .int .i64 x.2.2], .int .i64 t] w fun e w' => e = .returned (.int .i64 (-1)) ∧ Below w.heap.size w w' := by
 have he := hid (fun w => eend_any x (emay_fin hm) w)
 have bA : Below w.heap.size w (w.alloc (.cells #[.int .i64 x.1, .int .i64 x.2.1, .int .i64 x.2.2] 53)) := (Below.refl _ _).alloc (Nat.le_refl _) _
 obtain ⟨a, b, c⟩ := x
 clear hm
 dsimp only at *
 go_enter Tryz.func81, Tryz.ntmps81
 go_wp2_with fail
 refine (he.out _).mono ?_
 rintro e w' ⟨rfl, hb⟩
 have B := hid (bA.trans (hb.mono bA.size))
 clear hb bA
 go_wp2_with fail
 go_ret
 exact ⟨rfl, B.out⟩
theorem find1_hi (x : Exts.E) (t : Int) (hm : Exts.may x) (ht : -9223372036854775808 ≤ t ∧ t ≤ 9223372036854775807) (h : ¬ Exts.fin x ≤ t) (w : World) :
  Calls Tryz.prog 81 #[.agg #[.int .i64 x.1, .int .i64 x.2.1, .int .i64 x.2.2], .int .i64 t] w fun e w' => e = .returned (.int .i64 1) ∧ Below w.heap.size w w' := by
 have he := hid (fun w => eend_any x (emay_fin hm) w)
 have bA : Below w.heap.size w (w.alloc (.cells #[.int .i64 x.1, .int .i64 x.2.1, .int .i64 x.2.2] 53)) := (Below.refl _ _).alloc (Nat.le_refl _) _
 obtain ⟨a, b, c⟩ := x
 clear hm
 dsimp only at *
 go_enter Tryz.func81, Tryz.ntmps81
 go_wp2_with fail
 refine (he.out _).mono ?_
 rintro e w' ⟨rfl, hb⟩
 have B := hid (bA.trans (hb.mono bA.size))
 clear hb bA
 go_wp2_with fail
 go_ret
 exact ⟨rfl, B.out⟩
set_option maxRecDepth 100000 in
set_option maxHeartbeats 4000000 in
theorem esearch_any (v : Value) (l : EL) (t : Int) (w : World) (hr : Exts.Row l) (h : ExtsAt w v l) (hl : l.length ≤ 1000000000) (ht : -9223372036854775808 ≤ t ∧ t ≤ 9223372036854775807) :
  Calls Tryz.prog 80 #[v, .int .i64 t, .func (.func 81) #[] #[]] w fun e w' => ∃ r : Nat, e = .returned (.tuple #[.int .i64 r, .bool false]) ∧ Exts.Search l t r ∧ Below w.heap.size w w' := by
 have H := hid h
 have HR := hid hr
 have HT := hid ht
 obtain ⟨ad, cap, rfl⟩ : ∃ ad cap, v = .slice ad l.length cap := by
  rcases h with ⟨rfl, rfl⟩ | ⟨b, off, cap, rfl, _⟩
  ·exact ⟨_, _, rfl⟩
  ·exact ⟨_, _, rfl⟩
 clear h hr
 go_enter Tryz.func80, Tryz.ntmps80
 go_wp2_with fail
 go_loopw [9, 10] (fun p q wr => ∃ lo hi : Nat, p = .int .i64 lo ∧ q = .int .i64 hi ∧ lo ≤ hi ∧ hi ≤ l.length ∧ Hid (∀ k, k < lo → Exts.fin (l.getD k (0, 0, 0)) ≤ t) ∧ Hid (∀ k, hi ≤ k → k < l.length → t < Exts.fin (l.getD k (0, 0, 0))) ∧ Hid (Below w.heap.size w wr)) (fun p q _ => (intOf q).toNat - (intOf p).toNat)
 case atStart => exact ⟨0, l.length, rfl, rfl, by omega, by omega, hid (fun k hk => absurd hk (Nat.not_lt_zero _)), hid (fun k h1 h2 => absurd h2 (by omega)), hid (Below.refl _ _)⟩
 case round =>
  obtain ⟨lo, hi, rfl, rfl, hlh, hin, hA, hB, hb⟩ := hrel
  by_cases hlt : lo < hi
  ·obtain ⟨m, hm⟩ : ∃ m, (lo + hi) / 2 = m := ⟨_, rfl⟩
   have hml : m < l.length := by omega
   obtain ⟨_, g, off, rfl, c0, c1, c2⟩ := (H.out.below (B := 0) hb.out).cells m hml
   have hmy := Exts.row_at HR.out hml
   have hmI : ((lo : Int) + (hi : Int)) / 2 = (m : Int) := by omega
   have i0 : (0 : Int) ≤ (m : Int) := by omega
   have i1 : (m : Int) < (l.length : Int) := by omega
   have jm : lo ≤ m ∧ m < hi := by omega
   by_cases hc : Exts.fin (l.getD m (0, 0, 0)) ≤ t
   ·have hcall := hid (fun w => find1_lo _ t hmy HT.out hc w)
    have hA' : Hid (∀ k, k < m + 1 → Exts.fin (l.getD k (0, 0, 0)) ≤ t) := hid (fun k hk => Int.le_trans (Exts.row_mono HR.out (by omega) hml) hc)
    clear hmy hc hm
    generalize l.getD m (0, 0, 0) = x at *
    obtain ⟨xa, xb, xc⟩ := x
    dsimp only at *
    go_wp2_with fail
    refine (hcall.out _).mono ?_
    rintro e w' ⟨rfl, hb'⟩
    have B2 := hid (hb.out.trans (hb'.mono hb.out.size))
    clear hb'
    go_wp2_with fail
    go_roundw
    case rel => exact ⟨m + 1, hi, by go_num, rfl, by omega, hin, hA', hB, B2⟩
    case measure => simp [intOf]; omega
   ·have hcall := hid (fun w => find1_hi _ t hmy HT.out hc w)
    have hB' : Hid (∀ k, m ≤ k → k < l.length → t < Exts.fin (l.getD k (0, 0, 0))) := hid (fun k h1 h2 => by have := Exts.row_mono HR.out h1 h2; omega)
    clear hmy hc hm
    generalize l.getD m (0, 0, 0) = x at *
    obtain ⟨xa, xb, xc⟩ := x
    dsimp only at *
    go_wp2_with fail
    refine (hcall.out _).mono ?_
    rintro e w' ⟨rfl, hb'⟩
    have B2 := hid (hb.out.trans (hb'.mono hb.out.size))
    clear hb'
    go_wp2_with fail
    go_roundw
    case rel => exact ⟨lo, m, rfl, rfl, by omega, by omega, hA, hB', B2⟩
    case measure => simp [intOf]; omega
  ·obtain rfl : hi = lo := by omega
   by_cases hn : hi < l.length
   ·obtain ⟨_, g, off, rfl, c0, c1, c2⟩ := (H.out.below (B := 0) hb.out).cells hi hn
    have hmy := Exts.row_at HR.out hn
    have i0 : (0 : Int) ≤ (hi : Int) := by omega
    have i1 : (hi : Int) < (l.length : Int) := by omega
    have hc : ¬ Exts.fin (l.getD hi (0, 0, 0)) ≤ t := by have := hB.out hi (Nat.le_refl _) hn; omega
    have hcall := hid (fun w => find1_hi _ t hmy HT.out hc w)
    have HS : Hid (Exts.Search l t hi) := hid ⟨hin, hA.out, hB.out⟩
    clear hmy hc
    generalize l.getD hi (0, 0, 0) = x at *
    obtain ⟨xa, xb, xc⟩ := x
    dsimp only at *
    go_wp2_with fail
    refine (hcall.out _).mono ?_
    rintro e w' ⟨rfl, hb'⟩
    have B2 := hid (hb.out.trans (hb'.mono hb.out.size))
    clear hb'
    go_wp2_with fail
    go_ret2
    exact ⟨_, rfl, HS.out, B2.out⟩
   ·have HS : Hid (Exts.Search l t hi) := hid ⟨hin, hA.out, hB.out⟩
    have i1 : ¬ (hi : Int) < (l.length : Int) := by omega
    have i2 : decide ((hi : Int) < (l.length : Int)) = false := decide_eq_false i1
    go_wp2_with fail
    go_ret2
    exact ⟨_, rfl, HS.out, hb.out⟩
end Go.Proofs.YtgjmeeiejcbjfaaGreat
namespace Go.Proofs.YtgjmeeiejcbjfaaGreat
open Go.Lib (hid)
open Go Go.RowKit
set_option maxRecDepth 100000 in
set_option maxHeartbeats 4000000 in
theorem efind_any (v : Value) (l : EL) (t : Int) (w : World) (hs : SmallsE l) (h : ExtsAt w v l) (hl : l.length ≤ 1000000000) (ht : -9223372036854775808 ≤ t ∧ t ≤ 9223372036854775807) :
  Calls Tryz.prog 36 #[v, .int .i64 t] w fun e w' => e = .returned (.tuple #[.int .i64 (Exts.findR l t).1, .int .i64 (Exts.findR l t).2.1, .bool (Exts.findR l t).2.2]) ∧ Below w.heap.size w w' := by
 have q := hid (echeck_any v l w hs h hl)
 have H := hid h
 cases hok : Exts.okTo l l.length
 ·rw [hok] at q
  rw [Exts.findR_bad hok]
  clear h hok
  go_enter Tryz.func36, Tryz.ntmps36
  go_wp2_with fail
  refine q.out.mono ?_
  rintro e w1 ⟨rfl, b1⟩
  have B1 := hid b1
  clear b1
  go_wp2_with fail
  exact bodyPost_ret (v := .tuple #[.int .i64 0, .int .i64 0, .bool false]) (by simp [results, Tryz.results36, go_sem]) rfl ⟨rfl, B1.out⟩
 ·rw [hok] at q
  have hR := hid (Exts.check_row.1 hok)
  have hq := hid (fun w1 (hb : Below w.heap.size w w1) => esearch_any v l t w1 hR.out (h.below (B := 0) hb) hl ht)
  have hN := hid (fun (a : Exts.at_ l t = none) => Exts.findR_none hok a)
  have hS := hid (fun p n (a : Exts.at_ l t = some (p, n)) => Exts.findR_some hok a)
  obtain ⟨ad, cap, rfl⟩ : ∃ ad cap, v = .slice ad l.length cap := by
   rcases h with ⟨rfl, rfl⟩ | ⟨b, off, cap, rfl, _⟩
   ·exact ⟨_, _, rfl⟩
   ·exact ⟨_, _, rfl⟩
  clear h hok
  generalize Exts.findR l t = F at *
  go_enter Tryz.func36, Tryz.ntmps36
  go_wp2_with fail
  refine q.out.mono ?_
  rintro e w1 ⟨rfl, b1⟩
  have B1 := hid b1
  have q2 := hid (hq.out w1 b1)
  clear b1 q hq
  go_wp2_with fail
  refine q2.out.mono ?_
  rintro e w2 ⟨r, rfl, hse, b2⟩
  have HSE := hid hse
  have B2 := hid (B1.out.trans (b2.mono B1.out.size))
  have hrl := hse.le
  clear b2 q2 hse
  by_cases hrn : r = l.length
  ·have hF := hN.out (Exts.at_none hR.out HSE.out (.inl hrn))
   subst hF
   have kb : ((r : Int) == (l.length : Int)) = true := by simp [hrn]
   clear hrn
   go_wp2_with fail
   exact bodyPost_ret (v := .tuple #[.int .i64 0, .int .i64 0, .bool false]) (by simp [results, Tryz.results36, go_sem]) rfl ⟨rfl, B2.out⟩
  ·have kb : ((r : Int) == (l.length : Int)) = false := by rw [beq_eq_false_iff_ne]; omega
   have hlt : r < l.length := by omega
   obtain ⟨_, g, off, rfl, c0, c1, c2⟩ := (H.out.below (B := 0) B2.out).cells r hlt
   have i0 : (0 : Int) ≤ (r : Int) := by omega
   have i1 : (r : Int) < (l.length : Int) := by omega
   by_cases k : t < (l.getD r (0, 0, 0)).1
   ·have hF := hN.out (Exts.at_none hR.out HSE.out (.inr k))
    subst hF
    generalize l.getD r (0, 0, 0) = x at *
    obtain ⟨xa, xb, xc⟩ := x
    dsimp only at *
    go_wp2_with fail
    exact bodyPost_ret (v := .tuple #[.int .i64 0, .int .i64 0, .bool false]) (by simp [results, Tryz.results36, go_sem]) rfl ⟨rfl, B2.out⟩
   ·have hF := hid (hS.out _ _ (Exts.at_some HSE.out hlt (by omega)))
    have hm := Exts.row_at hR.out hlt
    have hfin := HSE.out.hi r (Nat.le_refl _) hlt
    have he := hid (fun w => eend_any _ (emay_fin hm) w)
    have z0 : g < w2.heap.size := World.block_lt_of_cell? _ _ c0
    generalize l.getD r (0, 0, 0) = x at *
    obtain ⟨xa, xb, xc⟩ := x
    have hfx : Exts.fin (xa, xb, xc) = xa + xc := rfl
    unfold Exts.may at hm
    dsimp only at *
    have w1' : IntKind.i64.wrap (xb + t) = xb + t := IntWalk.i64_in _ (by omega)
    have w2' : IntKind.i64.wrap (xb + t - xa) = xb + t - xa := IntWalk.i64_in _ (by omega)
    have w3' : IntKind.i64.wrap (Exts.fin (xa, xb, xc) - t) = Exts.fin (xa, xb, xc) - t := IntWalk.i64_in _ (by omega)
    have HFX := hid hfx
    clear hfx
    go_upto_region 6 with fail
    go_region_held3 (fun w' => w'.cell? ⟨g, off + r * 3, none⟩ = some (.int .i64 xa) ∧ w'.cell? ⟨g, off + r * 3 + 1, none⟩ = some (.int .i64 xb) ∧ w'.cell? ⟨g, off + r * 3 + 2, none⟩ = some (.int .i64 xc))
     (first | exact ⟨c0, c1, c2⟩ | exact ⟨(s4.cell (p := ⟨g, off + r * 3, none⟩) z0).trans c0, (s4.cell (p := ⟨g, off + r * 3 + 1, none⟩) z0).trans c1, (s4.cell (p := ⟨g, off + r * 3 + 2, none⟩) z0).trans c2⟩)
     ((go_at_call 82; refine (he.out _).mono ?_; rintro e w4 ⟨rfl, b4⟩; have s4 : Below w2.heap.size w2 w4 := ⟨b4.os, b4.tape, b4.output, b4.size, b4.block⟩))
    have B4 := hid (B2.out.trans (s4.mono B2.out.size))
    clear s4 b4
    go_wp2_with fail
    exact bodyPost_ret (v := .tuple #[.int .i64 (xb + t - xa), .int .i64 (Exts.fin (xa, xb, xc) - t), .bool true]) (by simp [results, Tryz.results36, go_sem]) rfl ⟨by rw [hF.out], B4.out⟩
end Go.Proofs.YtgjmeeiejcbjfaaGreat
