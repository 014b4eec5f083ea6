/- Exts: Put, Punch, Cut. -/
import Derived.Test.YtgjmeeiejcbjfaaGreatH22
import Derived.Test.YtgjmeeiejcbjfaaGreatH11
import Derived.Deep.DeepMust
import Derived.Test.YtgjmeeiejcbjfaaGreatH05
set_option linter.unusedSimpArgs false
set_option linter.unusedVariables false
namespace Go.Proofs.YtgjmeeiejcbjfaaGreat
open Go.Lib (hid)
open Go Go.RowKit
namespace Exts
open Go.Lib (hid)
def punches (l : EL) (a n : Int) : Bool := okTo l l.length && decide (0 ≤ a ∧ 0 ≤ n ∧ a ≤ 2048 ∧ n ≤ 2048 - a)
def punchR (l : EL) (a n : Int) : EL := if n = 0 then l else changeR l a (a + n) []
def punchOut (l : EL) (a n : Int) : EL := if punches l a n then punchR l a n else []
def punchFr (l : EL) (a n : Int) : List (Int × Int) := if punches l a n then Runs.minusR (blocksR l) (blocksR (punchR l a n)) else []
def punchE (l : EL) (a n : Int) : Int := if punches l a n then 0 else 2
def cuts (l : EL) (a : Int) : Bool := okTo l l.length && decide (0 ≤ a)
def cutR (l : EL) (a : Int) : EL := changeR l (min a 2048) 2048 []
def cutOut (l : EL) (a : Int) : EL := if cuts l a then cutR l a else []
def cutFr (l : EL) (a : Int) : List (Int × Int) := if cuts l a then Runs.minusR (blocksR l) (blocksR (cutR l a)) else []
def cutE (l : EL) (a : Int) : Int := if cuts l a then 0 else 2
theorem minus_self (r : List (Int × Int)) : Runs.minusR r r = [] :=
 Runs.row_eq _ _ (Runs.minusR_spec r r).1 trivial fun i => by rw [(Runs.minusR_spec r r).2]; simp [Runs.mem_nil]
end Exts
theorem Ans.from {w wy w' : World} {out : EL} {fr : RL} {k : Int} {e : Ending} (hb : Below w.heap.size w wy) (h : Ans wy w' out fr k e) : Ans w w' out fr k e := by
 obtain ⟨v, f, c, he, h1, h2, h3, h4, h5⟩ := h
 have hz := hb.size
 exact ⟨v, f, c, he, h1.mono hz, by omega, h3, h4, hb.trans (h5.mono hz)⟩
set_option maxRecDepth 100000 in
set_option maxHeartbeats 4000000 in
theorem ePunch_any (v : Value) (l : EL) (a n : Int) (w : World) (hs : SmallsE l) (h : ExtsAt w v l) (hl : l.length ≤ 1000000) (ha : -9223372036854775808 ≤ a ∧ a ≤ 9223372036854775807) (hn : -9223372036854775808 ≤ n ∧ n ≤ 9223372036854775807) :
  Calls Tryz.prog 107 #[v, .int .i64 a, .int .i64 n] w fun e w' => Ans w w' (Exts.punchOut l a n) (Exts.punchFr l a n) (Exts.punchE l a n) e := by
 have q := hid (echeck_any v l w hs h (by omega))
 have H := hid h
 unfold Exts.punchOut Exts.punchFr Exts.punchE
 cases hok : Exts.okTo l l.length
 ·rw [hok] at q
  have e0 : Exts.punches l a n = false := by unfold Exts.punches; rw [hok]; rfl
  rw [e0]
  clear h hok e0
  go_enter Tryz.func107, Tryz.ntmps107
  go_wp2_with fail
  refine q.out.mono ?_
  rintro e w1 ⟨rfl, b1⟩
  have B1 := hid b1
  clear b1
  go_wp2_with fail
  exact bodyPost_ret (v := .tuple #[.slice none 0 0, .slice none 0 0, .int .i64 2]) (by simp [results, Tryz.results107, go_sem]) rfl (Ans.none 2 B1.out)
 ·rw [hok] at q
  have HR := hid (Exts.check_row.1 hok)
  by_cases hp : 0 ≤ a ∧ 0 ≤ n ∧ a ≤ 2048 ∧ n ≤ 2048 - a
  ·have e0 : Exts.punches l a n = true := by unfold Exts.punches; rw [hok, decide_eq_true hp]; rfl
   rw [e0]
   obtain ⟨p1, p2, p3, p4⟩ := hp
   have wd : IntKind.i64.wrap (2048 - a) = 2048 - a := IntWalk.i64_in _ (by omega)
   by_cases hz : n = 0
   ·subst hz
    have hq := hid (fun w1 (hb : Below w.heap.size w w1) => eclone_any v l w1 (H.out.below (B := 0) hb) (by omega))
    have hfin : Hid (∀ (w1 w2 : World) (v2 : Value), Below w.heap.size w w1 → OwnExts w1.heap.size w2 v2 l → Below w1.heap.size w1 w2 → Ans w w2 (Exts.punchR l a 0) (Runs.minusR (Exts.blocksR l) (Exts.blocksR (Exts.punchR l a 0))) 0 (.returned (.tuple #[v2, .slice none 0 0, .int .i64 0]))) := hid (by
     intro w1 w2 v2 hb o2 b2
     have e : Exts.punchR l a 0 = l := by unfold Exts.punchR; rw [if_pos rfl]
     rw [e, Exts.minus_self]
     exact ⟨v2, _, w2.heap.size, rfl, o2.mono hb.size, by have := hb.size; have := b2.size; omega, fun k hk => (World.ownsRow.lt o2 k hk).2, World.ownsRow_nil _ _ _ _, hb.trans (b2.mono hb.size)⟩)
    clear h hok e0
    go_enter Tryz.func107, Tryz.ntmps107
    go_wp2_with fail
    refine q.out.mono ?_
    rintro e w1 ⟨rfl, b1⟩
    have B1 := hid b1
    clear b1
    go_wp2_with fail
    refine (hq.out w1 B1.out).mono ?_
    rintro e w2 ⟨v2, rfl, o2, b2⟩
    have F := hid (hfin.out w1 w2 v2 B1.out o2 b2)
    clear o2 b2
    go_wp2_with fail
    exact bodyPost_ret (v := .tuple #[v2, .slice none 0 0, .int .i64 0]) (by simp [results, Tryz.results107, go_sem]) rfl F.out
   ·have hz' : (n == 0) = false := by simpa using hz
    have hrow := hid (Exts.gone_row HR.out a (a + n) p1 (by omega))
    have hpe : Hid (Exts.punchR l a n = Exts.changeR l a (a + n) []) := hid (by unfold Exts.punchR; rw [if_neg hz])
    have hch : Hid (∀ wy, Below w.heap.size w wy → Calls Tryz.prog 137 #[v, .int .i64 a, .int .i64 (a + n), .slice none 0 0] wy fun e w' => Ans wy w' (Exts.punchR l a n) (Runs.minusR (Exts.blocksR l) (Exts.blocksR (Exts.punchR l a n))) 0 e) := hid (by
     intro wy hb
     rw [hpe.out]
     exact echange_any v (.slice none 0 0) l [] a (a + n) wy HR.out (fun y hy => by cases hy) (H.out.below (B := 0) hb) (.inl ⟨rfl, rfl⟩) (by omega) (by simp) p1 ha.2 (by omega) (by omega) hrow.out)
    have wn : IntKind.i64.wrap (a + n) = a + n := IntWalk.i64_in _ (by omega)
    clear h hok e0 hpe hrow
    go_enter Tryz.func107, Tryz.ntmps107
    go_wp2_with fail
    refine q.out.mono ?_
    rintro e w1 ⟨rfl, b1⟩
    have B1 := hid b1
    clear b1
    go_wp2_with fail
    refine (hch.out w1 B1.out).mono ?_
    rintro e w2 hA
    have F := hid (Ans.from B1.out hA)
    obtain ⟨v2, f2, _, rfl, _⟩ := hA
    go_wp2_with fail
    exact bodyPost_ret (v := .tuple #[v2, f2, .int .i64 0]) (by simp [results, Tryz.results107, go_sem]) rfl F.out
  ·have e0 : Exts.punches l a n = false := by unfold Exts.punches; rw [hok, decide_eq_false hp]; rfl
   rw [e0]
   clear h hok e0
   by_cases p1 : a < 0
   ·go_enter Tryz.func107, Tryz.ntmps107
    go_wp2_with fail
    refine q.out.mono ?_
    rintro e w1 ⟨rfl, b1⟩
    have B1 := hid b1
    clear b1
    go_wp2_with fail
    exact bodyPost_ret (v := .tuple #[.slice none 0 0, .slice none 0 0, .int .i64 2]) (by simp [results, Tryz.results107, go_sem]) rfl (Ans.none 2 B1.out)
   by_cases p2 : n < 0
   ·go_enter Tryz.func107, Tryz.ntmps107
    go_wp2_with fail
    refine q.out.mono ?_
    rintro e w1 ⟨rfl, b1⟩
    have B1 := hid b1
    clear b1
    go_wp2_with fail
    exact bodyPost_ret (v := .tuple #[.slice none 0 0, .slice none 0 0, .int .i64 2]) (by simp [results, Tryz.results107, go_sem]) rfl (Ans.none 2 B1.out)
   by_cases p3 : 2048 < a
   ·go_enter Tryz.func107, Tryz.ntmps107
    go_wp2_with fail
    refine q.out.mono ?_
    rintro e w1 ⟨rfl, b1⟩
    have B1 := hid b1
    clear b1
    go_wp2_with fail
    exact bodyPost_ret (v := .tuple #[.slice none 0 0, .slice none 0 0, .int .i64 2]) (by simp [results, Tryz.results107, go_sem]) rfl (Ans.none 2 B1.out)
   ·have p4 : 2048 - a < n := by omega
    have wd : IntKind.i64.wrap (2048 - a) = 2048 - a := IntWalk.i64_in _ (by omega)
    clear hp
    go_enter Tryz.func107, Tryz.ntmps107
    go_wp2_with fail
    refine q.out.mono ?_
    rintro e w1 ⟨rfl, b1⟩
    have B1 := hid b1
    clear b1
    go_wp2_with fail
    exact bodyPost_ret (v := .tuple #[.slice none 0 0, .slice none 0 0, .int .i64 2]) (by simp [results, Tryz.results107, go_sem]) rfl (Ans.none 2 B1.out)
set_option maxRecDepth 100000 in
set_option maxHeartbeats 4000000 in
theorem eCut_any (v : Value) (l : EL) (a : Int) (w : World) (hs : SmallsE l) (h : ExtsAt w v l) (hl : l.length ≤ 1000000) (ha : -9223372036854775808 ≤ a ∧ a ≤ 9223372036854775807) :
  Calls Tryz.prog 106 #[v, .int .i64 a] w fun e w' => Ans w w' (Exts.cutOut l a) (Exts.cutFr l a) (Exts.cutE l a) e := by
 have q := hid (echeck_any v l w hs h (by omega))
 have H := hid h
 unfold Exts.cutOut Exts.cutFr Exts.cutE
 cases hok : Exts.okTo l l.length
 ·rw [hok] at q
  have e0 : Exts.cuts l a = false := by unfold Exts.cuts; rw [hok]; rfl
  rw [e0]
  clear h hok e0
  go_enter Tryz.func106, Tryz.ntmps106
  go_wp2_with fail
  refine q.out.mono ?_
  rintro e w1 ⟨rfl, b1⟩
  have B1 := hid b1
  clear b1
  go_wp2_with fail
  exact bodyPost_ret (v := .tuple #[.slice none 0 0, .slice none 0 0, .int .i64 2]) (by simp [results, Tryz.results106, go_sem]) rfl (Ans.none 2 B1.out)
 ·rw [hok] at q
  have HR := hid (Exts.check_row.1 hok)
  by_cases hp : 0 ≤ a
  ·have e0 : Exts.cuts l a = true := by unfold Exts.cuts; rw [hok, decide_eq_true hp]; rfl
   rw [e0]
   have hrow := hid (Exts.gone_row HR.out (min a 2048) 2048 (by omega) (by omega))
   have hch : Hid (∀ wy, Below w.heap.size w wy → Calls Tryz.prog 137 #[v, .int .i64 (min a 2048), .int .i64 2048, .slice none 0 0] wy fun e w' => Ans wy w' (Exts.cutR l a) (Runs.minusR (Exts.blocksR l) (Exts.blocksR (Exts.cutR l a))) 0 e) := hid (by
    intro wy hb
    exact echange_any v (.slice none 0 0) l [] (min a 2048) 2048 wy HR.out (fun y hy => by cases hy) (H.out.below (B := 0) hb) (.inl ⟨rfl, rfl⟩) (by omega) (by simp) (by omega) (by omega) (by omega) (by omega) hrow.out)
   clear h hok e0 hrow
   go_enter Tryz.func106, Tryz.ntmps106
   go_wp2_with fail
   refine q.out.mono ?_
   rintro e w1 ⟨rfl, b1⟩
   have B1 := hid b1
   clear b1
   go_wp2_with fail
   refine (hch.out w1 B1.out).mono ?_
   rintro e w2 hA
   have F := hid (Ans.from B1.out hA)
   obtain ⟨v2, f2, _, rfl, _⟩ := hA
   go_wp2_with fail
   exact bodyPost_ret (v := .tuple #[v2, f2, .int .i64 0]) (by simp [results, Tryz.results106, go_sem]) rfl F.out
  ·have e0 : Exts.cuts l a = false := by unfold Exts.cuts; rw [hok, decide_eq_false hp]; rfl
   rw [e0]
   have hp' : a < 0 := by omega
   clear h hok e0
   go_enter Tryz.func106, Tryz.ntmps106
   go_wp2_with fail
   refine q.out.mono ?_
   rintro e w1 ⟨rfl, b1⟩
   have B1 := hid b1
   clear b1
   go_wp2_with fail
   exact bodyPost_ret (v := .tuple #[.slice none 0 0, .slice none 0 0, .int .i64 2]) (by simp [results, Tryz.results106, go_sem]) rfl (Ans.none 2 B1.out)
end Go.Proofs.YtgjmeeiejcbjfaaGreat
namespace Go.Proofs.YtgjmeeiejcbjfaaGreat
open Go.Lib (hid)
open Go Go.RowKit
theorem OwnExts.form2 {B : Nat} {w : World} {v : Value} {l : EL} (h : OwnExts B w v l) : (v = .slice none 0 0 ∧ l.length = 0) ∨ ∃ g co, v = .slice (some ⟨g, 0, none⟩) l.length co ∧ l.length ≤ co := by
 rcases h.2 with ⟨rfl, hn⟩ | ⟨g, cap, cur, rfl, hg, hh, h1, h2, h3, h4⟩
 ·exact .inl ⟨rfl, hn⟩
 ·exact .inr ⟨g, cap, rfl, h1⟩
theorem ExtsAt.form3 {w : World} {v : Value} {l : EL} (h : ExtsAt w v l) : ∃ ad cap, v = .slice ad l.length cap := by
 rcases h with ⟨rfl, rfl⟩ | ⟨b, off, cap, rfl, _⟩
 ·exact ⟨_, _, rfl⟩
 ·exact ⟨_, _, rfl⟩
theorem egrow_any (n : Nat) (w : World) (hn : n ≤ 1000000000) : Calls Tryz.prog 139 #[.slice none 0 0, .int .i64 (n : Int)] w fun e w' => ∃ v', e = .returned v' ∧ OwnExts w.heap.size w' v' [] ∧ Below w.heap.size w w' := by
 by_cases h0 : n = 0
 ·subst h0
  refine (Any8.slices_Grow_room Tryz.growRun none 0 0 0 w (Nat.le_refl _) (by omega) (by omega) (by omega)).mono ?_
  rintro e w' ⟨rfl, rfl⟩
  exact ⟨_, rfl, World.ownsRow_nil _ _ _ _, Below.refl _ _⟩
 ·obtain ⟨i0', hi0, hz0, hz1, hz2⟩ := info_parts info_ext
  refine (Any8.slices_Grow_grow Tryz.growRun i0' _ hi0 hz0 (by omega) none 0 0 n [] w (Nat.le_refl _) (by omega) (by rw [hz2]; omega) (by omega) (by simp) (fun _ => rfl) (by simp)).mono ?_
  rintro e w' ⟨rfl, rfl⟩
  have h1 := grownCap_le_maxLen w (0 + n) 0 (Tryz.growRun_ren.t 25) (by unfold maxLen; omega)
  have h2 := grownCap_ge w (0 + n) 0 (Tryz.growRun_ren.t 25)
  generalize grownCap w (0 + n) 0 (Tryz.growRun_ren.t 25) = c at *
  refine ⟨_, rfl, ⟨by simp [ecells], .inr ⟨w.heap.size, c, _, rfl, Nat.le_refl _, heap_alloc_new w.drew _, Nat.zero_le _, h1, ?_, by simp [ecells]⟩⟩, (below_dr (n := 1) (Below.refl _ _)).alloc (Nat.le_refl _) _⟩
  simp [Builtin.zeroCells, Value.cells]
  omega
set_option maxRecDepth 100000 in
set_option maxHeartbeats 8000000 in
theorem econcat_any (p k : Nat) (va vb vc : Value) (a b c : EL) (w : World) (c0 : w.cell? ⟨p, 0, none⟩ = some va) (c1 : w.cell? ⟨p, 1, none⟩ = some vb) (c2 : w.cell? ⟨p, 2, none⟩ = some vc) (h1 : ExtsAt w va a) (h2 : ExtsAt w vb b) (h3 : ExtsAt w vc c) (hla : a.length ≤ 100000000) (hlb : b.length ≤ 100000000) (hlc : c.length ≤ 100000000) :
  Calls Tryz.prog 108 #[.slice (some ⟨p, 0, none⟩) 3 3] w fun e w' => ∃ v', e = .returned v' ∧ OwnExts w.heap.size w' v' (a ++ b ++ c) ∧ Below w.heap.size w w' := by
 obtain ⟨ad, ac, rfl⟩ := h1.form3
 obtain ⟨bd, bc, rfl⟩ := h2.form3
 obtain ⟨cd, cc, rfl⟩ := h3.form3
 have H1 := hid h1
 have H2 := hid h2
 have H3 := hid h3
 clear h1 h2 h3
 go_enter Tryz.func108, Tryz.ntmps108
 go_wp2_with fail
 go_loopw [3, 11] (fun s q wr => ((q = .int .i64 0 ∧ s = .int .i64 0) ∨ (q = .int .i64 1 ∧ s = .int .i64 (a.length : Int)) ∨ (q = .int .i64 2 ∧ s = .int .i64 (a.length + b.length : Nat)) ∨ (q = .int .i64 3 ∧ s = .int .i64 (a.length + b.length + c.length : Nat))) ∧ w = wr) (fun _ q _ => 3 - (intOf q).toNat)
 case atStart => exact ⟨.inl ⟨rfl, rfl⟩, rfl⟩
 case round =>
  obtain ⟨⟨rfl, rfl⟩ | ⟨rfl, rfl⟩ | ⟨rfl, rfl⟩ | ⟨rfl, rfl⟩, rfl⟩ := hrel
  ·go_wp2_with fail
   go_roundw
   case rel => exact ⟨.inr (.inl ⟨rfl, rfl⟩), by first | rfl | trivial⟩
   case measure => simp [intOf]
  ·go_wp2_with fail
   go_roundw
   case rel => exact ⟨.inr (.inr (.inl ⟨rfl, by simp⟩)), by first | rfl | trivial⟩
   case measure => simp [intOf]
  ·go_wp2_with fail
   go_roundw
   case rel => exact ⟨.inr (.inr (.inr ⟨rfl, by simp⟩)), by first | rfl | trivial⟩
   case measure => simp [intOf]
  ·skip
   have hsum : (0 : Int) ≤ ((a.length + b.length + c.length : Nat) : Int) := by omega
   go_wp2_with fail
   refine (egrow_any (a.length + b.length + c.length) _ (by omega)).mono ?_
   rintro e w1 ⟨v1, rfl, o1, b1⟩
   have O1 := hid o1
   have B1 := hid b1
   have z1 := b1.size
   obtain ⟨i0', hi0, hz0, hz1, hz2⟩ := info_parts info_ext
   clear o1 b1
   go_wp2_with fail
   go_loopw [6, 27] (fun p q wr => ∃ (u : Value) (R : EL), u = p ∧ ((q = .int .i64 0 ∧ R = []) ∨ (q = .int .i64 1 ∧ R = a) ∨ (q = .int .i64 2 ∧ R = a ++ b) ∨ (q = .int .i64 3 ∧ R = a ++ b ++ c)) ∧ R.length ≤ 300000000 ∧ Hid (OwnExts w.heap.size wr u R) ∧ Hid (Below w.heap.size w wr) ∧ w.heap.size ≤ wr.heap.size) (fun _ q _ => 3 - (intOf q).toNat)
   case atStart => exact ⟨_, [], rfl, .inl ⟨rfl, rfl⟩, by simp, O1, B1, z1⟩
   case round =>
    obtain ⟨u, R, rfl, hq, hR, ho, hb, hsz⟩ := hrel
    have d0 := (hb.out.cell (p := ⟨p, 0, none⟩) (World.block_lt_of_cell? _ _ c0)).trans c0
    have d1 := (hb.out.cell (p := ⟨p, 1, none⟩) (World.block_lt_of_cell? _ _ c1)).trans c1
    have d2 := (hb.out.cell (p := ⟨p, 2, none⟩) (World.block_lt_of_cell? _ _ c2)).trans c2
    rcases hq with ⟨rfl, hRe'⟩ | ⟨rfl, hRe'⟩ | ⟨rfl, hRe'⟩ | ⟨rfl, hRe'⟩
    ·have hRe := hid hRe'
     clear hRe'
     have HB' := (H1.out.below (B := 0) hb.out)
     rcases HB' with ⟨e1, rfl⟩ | ⟨gx, ox, cx, e1, hcx⟩
     ·cases e1
      rcases ho.out.form2 with ⟨rfl, hR0⟩ | ⟨gr, co, rfl, hco⟩
      ·go_wp2_with fail
       go_roundw
       case rel => exact ⟨_, _, rfl, .inr (.inl ⟨rfl, by simp [hRe.out]⟩), by first | (rw [hRe.out]; simp; omega) | (have := congrArg List.length hRe.out; simp at this ⊢; omega), ho, hb, hsz⟩
       case measure => simp [intOf]
      ·go_wp2_with fail
       go_roundw
       case rel => exact ⟨_, _, rfl, .inr (.inl ⟨rfl, by simp [hRe.out]⟩), by first | (rw [hRe.out]; simp; omega) | (have := congrArg List.length hRe.out; simp at this ⊢; omega), ho, hb, hsz⟩
       case measure => simp [intOf]
     ·cases e1
      have hne : ∀ j u, (ecells a)[j]? = some u → wr.cell? ((⟨gx, ox, none⟩ : Addr).add j) = some u := fun j u hu => by
       have e1 : (⟨gx, ox, none⟩ : Addr).add j = ⟨gx, ox + j, none⟩ := by unfold Addr.add; split <;> simp_all
       rw [e1]
       exact hcx j u hu
      have hone := ecells_one a
      have hrl := ecells_length a
      clear hcx
      go_wp2_with (first
       | (at_builtin; go_must (refine wpList_append_own _ rfl _ _ 42 rfl w.heap.size 53 i0' (.agg #[.int .i64 0, .int .i64 0, .int .i64 0]) 3 24 Tryz.underlying42 hi0 hz0 hz1 hz2 rfl (by decide) _ R.length _ rfl ho.out ⟨gx, ox, none⟩ a.length _ (ecells a) rfl hrl hne hone (by unfold maxLen; omega) (by omega) hsz ?_)))
      intro v' w5 hown hgrow _
      have B5 : Hid (Below w.heap.size w w5) := hid (hb.out.grown hgrow hsz (fun k hk => (ho.out.lt k hk).1))
      have O5 : Hid (OwnExts w.heap.size w5 v' (R ++ a)) := hid (by
       unfold OwnExts
       rw [List.length_append, ecells_append]
       exact hown)
      have z5 := B5.out.size
      clear hown hgrow
      go_wp2_with fail
      go_roundw
      case rel => exact ⟨v', _, rfl, .inr (.inl ⟨rfl, by simp [hRe.out]⟩), by first | (rw [hRe.out]; simp; omega) | (have := congrArg List.length hRe.out; simp at this ⊢; omega), O5, B5, z5⟩
      case measure => simp [intOf]
    ·have hRe := hid hRe'
     clear hRe'
     have HB' := (H2.out.below (B := 0) hb.out)
     rcases HB' with ⟨e1, rfl⟩ | ⟨gx, ox, cx, e1, hcx⟩
     ·cases e1
      rcases ho.out.form2 with ⟨rfl, hR0⟩ | ⟨gr, co, rfl, hco⟩
      ·go_wp2_with fail
       go_roundw
       case rel => exact ⟨_, _, rfl, .inr (.inr (.inl ⟨rfl, by simp [hRe.out]⟩)), by first | (rw [hRe.out]; simp; omega) | (have := congrArg List.length hRe.out; simp at this ⊢; omega), ho, hb, hsz⟩
       case measure => simp [intOf]
      ·go_wp2_with fail
       go_roundw
       case rel => exact ⟨_, _, rfl, .inr (.inr (.inl ⟨rfl, by simp [hRe.out]⟩)), by first | (rw [hRe.out]; simp; omega) | (have := congrArg List.length hRe.out; simp at this ⊢; omega), ho, hb, hsz⟩
       case measure => simp [intOf]
     ·cases e1
      have hne : ∀ j u, (ecells b)[j]? = some u → wr.cell? ((⟨gx, ox, none⟩ : Addr).add j) = some u := fun j u hu => by
       have e1 : (⟨gx, ox, none⟩ : Addr).add j = ⟨gx, ox + j, none⟩ := by unfold Addr.add; split <;> simp_all
       rw [e1]
       exact hcx j u hu
      have hone := ecells_one b
      have hrl := ecells_length b
      clear hcx
      go_wp2_with (first
       | (at_builtin; go_must (refine wpList_append_own _ rfl _ _ 42 rfl w.heap.size 53 i0' (.agg #[.int .i64 0, .int .i64 0, .int .i64 0]) 3 24 Tryz.underlying42 hi0 hz0 hz1 hz2 rfl (by decide) _ R.length _ rfl ho.out ⟨gx, ox, none⟩ b.length _ (ecells b) rfl hrl hne hone (by unfold maxLen; omega) (by omega) hsz ?_)))
      intro v' w5 hown hgrow _
      have B5 : Hid (Below w.heap.size w w5) := hid (hb.out.grown hgrow hsz (fun k hk => (ho.out.lt k hk).1))
      have O5 : Hid (OwnExts w.heap.size w5 v' (R ++ b)) := hid (by
       unfold OwnExts
       rw [List.length_append, ecells_append]
       exact hown)
      have z5 := B5.out.size
      clear hown hgrow
      go_wp2_with fail
      go_roundw
      case rel => exact ⟨v', _, rfl, .inr (.inr (.inl ⟨rfl, by simp [hRe.out]⟩)), by first | (rw [hRe.out]; simp; omega) | (have := congrArg List.length hRe.out; simp at this ⊢; omega), O5, B5, z5⟩
      case measure => simp [intOf]
    ·have hRe := hid hRe'
     clear hRe'
     have HB' := (H3.out.below (B := 0) hb.out)
     rcases HB' with ⟨e1, rfl⟩ | ⟨gx, ox, cx, e1, hcx⟩
     ·cases e1
      rcases ho.out.form2 with ⟨rfl, hR0⟩ | ⟨gr, co, rfl, hco⟩
      ·go_wp2_with fail
       go_roundw
       case rel => exact ⟨_, _, rfl, .inr (.inr (.inr (⟨rfl, by simp [hRe.out]⟩))), by first | (rw [hRe.out]; simp; omega) | (have := congrArg List.length hRe.out; simp at this ⊢; omega), ho, hb, hsz⟩
       case measure => simp [intOf]
      ·go_wp2_with fail
       go_roundw
       case rel => exact ⟨_, _, rfl, .inr (.inr (.inr (⟨rfl, by simp [hRe.out]⟩))), by first | (rw [hRe.out]; simp; omega) | (have := congrArg List.length hRe.out; simp at this ⊢; omega), ho, hb, hsz⟩
       case measure => simp [intOf]
     ·cases e1
      have hne : ∀ j u, (ecells c)[j]? = some u → wr.cell? ((⟨gx, ox, none⟩ : Addr).add j) = some u := fun j u hu => by
       have e1 : (⟨gx, ox, none⟩ : Addr).add j = ⟨gx, ox + j, none⟩ := by unfold Addr.add; split <;> simp_all
       rw [e1]
       exact hcx j u hu
      have hone := ecells_one c
      have hrl := ecells_length c
      clear hcx
      go_wp2_with (first
       | (at_builtin; go_must (refine wpList_append_own _ rfl _ _ 42 rfl w.heap.size 53 i0' (.agg #[.int .i64 0, .int .i64 0, .int .i64 0]) 3 24 Tryz.underlying42 hi0 hz0 hz1 hz2 rfl (by decide) _ R.length _ rfl ho.out ⟨gx, ox, none⟩ c.length _ (ecells c) rfl hrl hne hone (by unfold maxLen; omega) (by omega) hsz ?_)))
      intro v' w5 hown hgrow _
      have B5 : Hid (Below w.heap.size w w5) := hid (hb.out.grown hgrow hsz (fun k hk => (ho.out.lt k hk).1))
      have O5 : Hid (OwnExts w.heap.size w5 v' (R ++ c)) := hid (by
       unfold OwnExts
       rw [List.length_append, ecells_append]
       exact hown)
      have z5 := B5.out.size
      clear hown hgrow
      go_wp2_with fail
      go_roundw
      case rel => exact ⟨v', _, rfl, .inr (.inr (.inr (⟨rfl, by simp [hRe.out]⟩))), by first | (rw [hRe.out]; simp; omega) | (have := congrArg List.length hRe.out; simp at this ⊢; omega), O5, B5, z5⟩
      case measure => simp [intOf]
    ·have hRe := hid hRe'
     clear hRe'
     have O9 : Hid (OwnExts w.heap.size wr u (a ++ b ++ c)) := hid (by rw [← hRe.out]; exact ho.out)
     go_wp2_with fail
     go_ret
     exact ⟨_, rfl, O9.out, hb.out⟩
end Go.Proofs.YtgjmeeiejcbjfaaGreat
namespace Go.Proofs.YtgjmeeiejcbjfaaGreat
open Go.Lib (hid)
open Go Go.RowKit
variable {w : World}
theorem info_nodes : (Tryz.prog.info? 128).map (fun i => (i.zero, i.size, i.bytes)) = some (some (.slice none 0 0), 1, 24) := by kernel_rfl
theorem info_str : (Tryz.prog.info? 9).map (fun i => (i.zero, i.size, i.bytes)) = some (some (.string ⟨#[]⟩), 1, 16) := by kernel_rfl
theorem texts_nil : Forks.texts [] = List.replicate 4096 ⟨#[]⟩ := by
 unfold Forks.texts
 have : Forks.textOf [] = fun _ => (⟨#[]⟩ : ByteArray) := by funext b; rfl
 rw [this, List.map_const', List.length_range]
theorem wraw_new (w wc : World) (rdv : Value) (d X Lb Tb : Nat) (hX : wc.heap[X]? = some (.cells #[rdv, .slice (some ⟨Lb, 0, none⟩) d d, .slice none 0 0, .slice (some ⟨Tb, 0, none⟩) 4096 4096] 109 (0, 0))
  ) (hL : Row wc Lb 128 (List.replicate d (.slice none 0 0))) (hT : Row wc Tb 9 (List.replicate 4096 (.string ⟨#[]⟩))) (h1 : w.heap.size ≤ X) (h2 : w.heap.size ≤ Lb) (h3 : w.heap.size ≤ Tb) :
  WRaw w.heap.size X Lb Tb wc rdv (List.replicate d (.slice none 0 0)) (.slice none 0 0) (Forks.texts []) (Forks.lvl []) [] := by
 refine ⟨by rw [List.length_replicate]; exact hX, hL, ?_, fun i u hu => ?_, World.ownsRow_nil _ _ _ _, fun i j u u' hu hu' _ k hk => ?_, h1, h2, h3⟩
 ·rw [texts_nil, List.map_replicate]; exact hT
 ·have := List.eq_of_mem_replicate (List.mem_of_getElem? hu)
  subst this
  exact OwnNodes.nil _ _
 ·have := List.eq_of_mem_replicate (List.mem_of_getElem? hu)
  subst this
  cases hk
def WalkOut (w : World) (rdv : Value) (d : Nat) (r : Except Int (Forks.V × EL)) (e : Ending) (w' : World) : Prop :=
 Below w.heap.size w w' ∧ match r with
  | .error k => e = .returned (.tuple #[.pointer none, .int .i64 k]) ∧ k ≠ 0
  | .ok x => ∃ X, e = .returned (.tuple #[.pointer (some ⟨X, 0, none⟩), .int .i64 0]) ∧ WAtR w.heap.size X w' rdv d x.1 x.2 ∧ Forks.Good x.1
theorem WalkOut.err {w' : World} {rdv : Value} {d : Nat} {r : Except Int (Forks.V × EL)} {k : Int} (hr : r = .error k) (hk : k ≠ 0) (hb : Below w.heap.size w w') : WalkOut w rdv d r (.returned (.tuple #[.pointer none, .int .i64 k])) w' := by
 subst hr; exact ⟨hb, rfl, hk⟩
theorem WalkOut.ok {w' : World} {rdv : Value} {d X : Nat} {r : Except Int (Forks.V × EL)} {x : Forks.V × EL} (hr : r = .ok x) (hb : Below w.heap.size w w') (hw : WAtR w.heap.size X w' rdv d x.1 x.2) (hg : Forks.Good x.1) : WalkOut w rdv d r (.returned (.tuple #[.pointer (some ⟨X, 0, none⟩), .int .i64 0])) w' := by
 subst hr; exact ⟨hb, X, rfl, hw, hg⟩
abbrev RDV (pl pb : Nat) : Value := .func (.func 49) #[] #[.pointer (some ⟨pl, 0, none⟩), .pointer (some ⟨pb, 0, none⟩)]
set_option maxRecDepth 100000 in
set_option maxHeartbeats 4000000 in
theorem walk_bad (rdv : Value) (D : Forks.Disk) (depth : Int) (rv : Value) (root : EL) (hs : SmallsE root) (h : ExtsAt w rv root) (hl : root.length ≤ 1000000000) (hd : -9223372036854775808 ≤ depth ∧ depth ≤ 9223372036854775807) (hbad : ¬ Forks.RootOk depth root) :
  Calls Tryz.prog 47 #[.agg #[.int .i64 depth, rv], rdv] w (WalkOut w rdv depth.toNat (Forks.walkT D depth root)) := by
 have hr : Hid (Forks.walkT D depth root = .error 80) := hid (by unfold Forks.walkT; rw [if_pos hbad])
 have bA : Below w.heap.size w (w.alloc (.cells #[.int .i64 depth, rv] 35)) := (Below.refl _ _).alloc (Nat.le_refl _) _
 have q := hid (fun leaf => xcheck_any leaf rv root _ hs (h.below (B := 0) bA) hl)
 have BA := hid bA
 obtain ⟨ad, cap, rfl⟩ := h.form
 clear h bA
 generalize Forks.walkT D depth root = R at *
 by_cases c1 : depth < 0
 ·clear hbad
  go_enter Tryz.func47, Tryz.ntmps47
  go_wp2_with fail
  go_ret2
  exact WalkOut.err hr.out (by decide) BA.out
 by_cases c2 : 4 < depth
 ·clear hbad
  go_enter Tryz.func47, Tryz.ntmps47
  go_wp2_with fail
  go_ret2
  exact WalkOut.err hr.out (by decide) BA.out
 by_cases c3 : root.length ≤ 4
 case neg =>
  have c3' : (4 : Int) < (root.length : Int) := by omega
  clear hbad
  go_enter Tryz.func47, Tryz.ntmps47
  go_wp2_with fail
  go_ret2
  exact WalkOut.err hr.out (by decide) BA.out
 have c3' : ¬ (4 : Int) < (root.length : Int) := by omega
 by_cases c4 : 0 < depth ∧ root.length = 0
 ·obtain ⟨c4, c5⟩ := c4
  have c5' : ((root.length : Int) == 0) = true := by rw [beq_iff_eq]; omega
  clear hbad
  generalize root.length = n at *
  have C5 := hid c5
  clear c5
  go_enter Tryz.func47, Tryz.ntmps47
  go_wp2_with fail
  go_ret2
  exact WalkOut.err hr.out (by decide) BA.out
 have hrow : Ents.okTo (depth == 0) root root.length = false := by
  cases h : Ents.okTo (depth == 0) root root.length
  ·rfl
  ·exact absurd ⟨by omega, by omega, c3, fun h => by omega, h⟩ hbad
 clear hbad
 by_cases c6 : depth = 0
 ·have q2 := hid (q.out (depth == 0))
  rw [hrow] at q2
  subst c6
  clear c4 hrow q
  go_enter Tryz.func47, Tryz.ntmps47
  go_wp2_with fail
  refine q2.out.mono ?_
  rintro e w1 ⟨rfl, b1⟩
  have B1 := hid (BA.out.trans (b1.mono (by simp)))
  clear b1
  go_wp2_with fail
  go_ret2
  exact WalkOut.err hr.out (by decide) B1.out
 ·have c7 : (depth == 0) = false := by rw [beq_eq_false_iff_ne]; exact c6
  have q2 := hid (q.out (depth == 0))
  rw [hrow, c7] at q2
  have c8 : 0 < depth := by omega
  have c5' : ((root.length : Int) == 0) = false := by rw [beq_eq_false_iff_ne]; omega
  clear c4 hrow q c6
  go_enter Tryz.func47, Tryz.ntmps47
  go_wp2_with fail
  refine q2.out.mono ?_
  rintro e w1 ⟨rfl, b1⟩
  have B1 := hid (BA.out.trans (b1.mono (by simp)))
  clear b1
  go_wp2_with fail
  go_ret2
  exact WalkOut.err hr.out (by decide) B1.out
theorem new_at1 (w : World) (a b c : Obj) : (((w.alloc a).alloc b).alloc c).heap[w.heap.size + 2]? = some c := by
 have := heap_alloc_new ((w.alloc a).alloc b) c
 simpa using this
theorem asz (w : World) (o : Obj) : (w.alloc o).heap.size = w.heap.size + 1 := by simp
theorem row_keep {w : World} {b : Nat} {E : TypeId} {cs : List Value} (h : Row w b E cs) (o o' : Obj) : Row ((w.alloc o).alloc o') b E cs := (h.alloc o).alloc o'
theorem made_one (w w1 : World) (rdv : Value) (d : Nat) (ls ts : Array Value) (hls : ls = (List.replicate d (.slice none 0 0 : Value)).toArray) (hts : ts = (List.replicate 4096 (.string ⟨#[]⟩ : Value)).toArray) (hB : w.heap.size ≤ w1.heap.size) :
  WRaw w.heap.size (w1.heap.size + 1 + 1) w1.heap.size (w1.heap.size + 1) ((((w1.alloc (.cells ls 128)).alloc (.cells ts 9)).alloc (.cells #[rdv, .slice (some ⟨w1.heap.size, 0, none⟩) d d, .slice none 0 0, .slice (some ⟨w1.heap.size + 1, 0, none⟩) 4096 4096] 109)).drew) rdv (List.replicate d (.slice none 0 0)) (.slice none 0 0) (Forks.texts []) (Forks.lvl []) [] ∧
   Below w1.heap.size w1 ((((w1.alloc (.cells ls 128)).alloc (.cells ts 9)).alloc (.cells #[rdv, .slice (some ⟨w1.heap.size, 0, none⟩) d d, .slice none 0 0, .slice (some ⟨w1.heap.size + 1, 0, none⟩) 4096 4096] 109)).drew) := by
 have h1 : Row (w1.alloc (.cells ls 128)) w1.heap.size 128 (List.replicate d (.slice none 0 0)) := by rw [hls]; exact Row.new w1 _ _ rfl
 have h2 : Row ((w1.alloc (.cells ls 128)).alloc (.cells ts 9)) (w1.heap.size + 1) 9 (List.replicate 4096 (.string ⟨#[]⟩)) := by rw [hts]; exact Row.new _ _ _ (asz _ _).symm
 clear hls hts
 refine ⟨wraw_new w _ rdv d _ _ _ (new_at1 w1 _ _ _) ?_ ?_ (by omega) hB (by omega), ?_⟩
 ·exact row_keep h1 _ _
 ·exact h2.alloc _
 ·exact ((((Below.refl _ _).alloc (Nat.le_refl _) _).alloc (by simp) _).alloc (by simp; omega) _).drew
theorem made_two (w w1 : World) (rdv : Value) (d : Nat) (ls ts : Array Value) (hls : ls = (List.replicate d (.slice none 0 0 : Value)).toArray) (hts : ts = (List.replicate 4096 (.string ⟨#[]⟩ : Value)).toArray) (hB : w.heap.size ≤ w1.heap.size) :
  WRaw w.heap.size (w1.heap.size + 1 + 1) (w1.heap.size + 1) w1.heap.size ((((w1.alloc (.cells ts 9)).alloc (.cells ls 128)).alloc (.cells #[rdv, .slice (some ⟨w1.heap.size + 1, 0, none⟩) d d, .slice none 0 0, .slice (some ⟨w1.heap.size, 0, none⟩) 4096 4096] 109)).drew) rdv (List.replicate d (.slice none 0 0)) (.slice none 0 0) (Forks.texts []) (Forks.lvl []) [] ∧
   Below w1.heap.size w1 ((((w1.alloc (.cells ts 9)).alloc (.cells ls 128)).alloc (.cells #[rdv, .slice (some ⟨w1.heap.size + 1, 0, none⟩) d d, .slice none 0 0, .slice (some ⟨w1.heap.size, 0, none⟩) 4096 4096] 109)).drew) := by
 have h1 : Row (w1.alloc (.cells ts 9)) w1.heap.size 9 (List.replicate 4096 (.string ⟨#[]⟩)) := by rw [hts]; exact Row.new w1 _ _ rfl
 have h2 : Row ((w1.alloc (.cells ts 9)).alloc (.cells ls 128)) (w1.heap.size + 1) 128 (List.replicate d (.slice none 0 0)) := by rw [hls]; exact Row.new _ _ _ (asz _ _).symm
 clear hls hts
 refine ⟨wraw_new w _ rdv d _ _ _ (new_at1 w1 _ _ _) ?_ ?_ (by omega) (by omega) hB, ?_⟩
 ·exact h2.alloc _
 ·exact row_keep h1 _ _
 ·exact ((((Below.refl _ _).alloc (Nat.le_refl _) _).alloc (by simp) _).alloc (by simp; omega) _).drew
theorem walkT_pos (dk : Forks.Disk) (d : Nat) (root : EL) (hok : Forks.RootOk d root) (hd : d ≠ 0) : Forks.walkT dk d root = match Forks.allW dk d root [] with
  | .error k => .error k
  | .ok v => if Ents.Row true (Forks.rowV v) ∧ Forks.meets v (Forks.rowV v) = false then .ok (v, Forks.rowV v) else .error 80 := by
 have h0 : ¬ (d : Int) = 0 := by omega
 unfold Forks.walkT
 rw [if_neg (fun h => h hok), if_neg h0, Int.toNat_natCast]
 cases Forks.allW dk d root [] with
 | error k => rfl
 | ok v => simp only [if_neg h0]
theorem walkT_zero (dk : Forks.Disk) (root : EL) (hok : Forks.RootOk 0 root) : Forks.walkT dk 0 root = if Ents.Row true root ∧ Forks.meets [] root = false then .ok ([], root) else .error 80 := by
 unfold Forks.walkT
 rw [if_neg (fun h => h hok)]
 rfl
theorem rowV_smalls {v : Forks.V} (hg : Forks.Good v) : SmallsE (Forks.rowV v) := by
 intro x hx
 unfold Forks.rowV at hx
 obtain ⟨y, hy, hx⟩ := List.mem_flatMap.1 hx
 have h1 := hg.enc y (List.mem_filter.1 hy).1
 obtain ⟨⟨f1, f2⟩, ⟨f3, f4⟩, f5, f6⟩ := Ents.may_fits (h1.2.2.may x hx)
 unfold SmallE; omega
set_option maxRecDepth 100000 in
set_option maxHeartbeats 8000000 in
theorem walk_ok (pl pb d : Nat) (dk : Forks.Disk) (rv : Value) (root : EL) (h : ExtsAt w rv root) (hok : Forks.RootOk d root) (hdk : DiskAt w.heap.size w (RDV pl pb) dk) (hds : ∀ b s, dk.rd b = some s → s.size ≤ 140737488351232) :
  Calls Tryz.prog 47 #[.agg #[.int .i64 (d : Int), rv], RDV pl pb] w (WalkOut w (RDV pl pb) d (Forks.walkT dk d root)) := by
 obtain ⟨il, hil, hzl, hsl, hbl⟩ := info_parts info_nodes
 obtain ⟨is, his, hzs, hss, hbs⟩ := info_parts info_str
 have HOK := hid hok
 obtain ⟨h1, h2, h3, h4, h5⟩ := hok
 have hrow := h5
 unfold Ents.Row at h5
 have hs : SmallsE root := fun x hx => by
  have := hrow.may x hx
  obtain ⟨⟨f1, f2⟩, ⟨f3, f4⟩, f5, f6⟩ := Ents.may_fits this
  unfold SmallE; omega
 have bA : Below w.heap.size w (w.alloc (.cells #[.int .i64 (d : Int), rv] 35)) := (Below.refl _ _).alloc (Nat.le_refl _) _
 have q := hid (xcheck_any ((d : Int) == 0) rv root _ hs (h.below (B := 0) bA) (by omega))
 rw [h5] at q
 have HROW := hid hrow
 have HS2 := hid hs
 have HB := hid bA
 have H := hid h
 have HD := hid hdk
 obtain ⟨ad, cap, rfl⟩ := h.form
 have y0 : (w.alloc (.cells #[.int .i64 (d : Int), .slice ad root.length cap] 35)).cell? ⟨w.heap.size, 0, none⟩ = some (.int .i64 (d : Int)) := box_cell _ _ _ _
 have y1 : (w.alloc (.cells #[.int .i64 (d : Int), .slice ad root.length cap] 35)).cell? ⟨w.heap.size, 1, none⟩ = some (.slice ad root.length cap) := box_cell _ _ _ _
 have zY : w.heap.size < (w.alloc (.cells #[.int .i64 (d : Int), .slice ad root.length cap] 35)).heap.size := by simp
 have c2 : ¬ (4 : Int) < (d : Int) := by omega
 have c3 : ¬ (4 : Int) < (root.length : Int) := by omega
 have c5 : 0 < d → ((root.length : Int) == 0) = false := fun hd => by rw [beq_eq_false_iff_ne]; have := h4 (by omega); omega
 obtain ⟨ls, hls⟩ : ∃ ls : Array Value, ls = (List.replicate d (.slice none 0 0 : Value)).toArray := ⟨_, rfl⟩
 obtain ⟨ts, hts⟩ : ∃ ts : Array Value, ts = (List.replicate 4096 (.string ⟨#[]⟩ : Value)).toArray := ⟨_, rfl⟩
 have HLS := hid hls
 have HTS := hid hts
 have hmL : ∀ wx : World, (Instr.makeSlice 107 (.int .i64 (d : Int)) (.int .i64 (d : Int))).run Tryz.prog wx = .ok (.slice (some ⟨wx.heap.size, 0, none⟩) d d) (wx.alloc (.cells ls 128)) := fun wx => by
  have hr := run_make (P := Tryz.prog) wx 107 128 il (.slice none 0 0) Tryz.underlying107 hil hzl .i64 .i64 d d (by omega) (by omega) (by rw [hbl]; omega) (by omega)
  rw [hls]
  simpa only [hsl, Value.cells, madeCells_one, Int.toNat_natCast, Nat.mul_one] using hr
 have hmT : ∀ wx : World, (Instr.makeSlice 40 (.int .i64 4096) (.int .i64 4096)).run Tryz.prog wx = .ok (.slice (some ⟨wx.heap.size, 0, none⟩) 4096 4096) (wx.alloc (.cells ts 9)) := fun wx => by
  have hr := run_make (P := Tryz.prog) wx 40 9 is (.string ⟨#[]⟩) Tryz.underlying40 his hzs .i64 .i64 4096 4096 (by omega) (by omega) (by rw [hbs]; omega) (by omega)
  rw [hts]
  have e : (4096 : Int).toNat = 4096 := rfl
  rw [e] at hr
  simpa only [hss, Value.cells, madeCells_one, Nat.mul_one] using hr
 clear hls hts h1 h2 h5 hrow hs hdk h bA
 generalize hR : Forks.walkT dk d root = R at *
 have HR := hid hR
 have c1 : ¬ (d : Int) < 0 := by omega
 clear hR h4
 by_cases hd : d = 0
 ·have c8 : ¬ (0 : Int) < (d : Int) := by omega
  have c9 : ((d : Int) == 0) = true := by rw [beq_iff_eq]; omega
  have HD0 := hid hd
  rw [c9] at q
  clear c5 hd
  go_enter Tryz.func47, Tryz.ntmps47
  go_wp2_with fail
  refine q.out.mono ?_
  rintro e w1 ⟨rfl, b1⟩
  have Y0 := (b1.cell (p := ⟨w.heap.size, 0, none⟩) zY).trans y0
  have Y1 := (b1.cell (p := ⟨w.heap.size, 1, none⟩) zY).trans y1
  have zY1 : w.heap.size < w1.heap.size := Nat.lt_of_lt_of_le zY b1.size
  have B1 := hid (HB.out.trans (b1.mono (by simp)))
  clear b1 y0 y1 zY
  have HW1 := hid (made_one w w1 (RDV pl pb) d ls ts HLS.out HTS.out B1.out.size)
  have HW2 := hid (made_two w w1 (RDV pl pb) d ls ts HLS.out HTS.out B1.out.size)
  go_upto_region 3 with fail
  go_cut [6] from 42 to 48 (fun p wc => ∃ X Lb Tb : Nat, p = .pointer (some ⟨X, 0, none⟩) ∧ Hid (WRaw w.heap.size X Lb Tb wc (RDV pl pb) (List.replicate d (.slice none 0 0)) (.slice none 0 0) (Forks.texts []) (Forks.lvl []) [] ∧ Below w1.heap.size w1 wc))
  case first =>
   go_region
   all_goals first | (go_meet; exact ⟨_, _, _, rfl, HW1⟩) | (go_meet; exact ⟨_, _, _, rfl, HW2⟩) | (go_step; go_meet; exact ⟨_, _, _, rfl, HW1⟩) | (go_step; go_meet; exact ⟨_, _, _, rfl, HW2⟩) | (go_step; go_step; go_meet; exact ⟨_, _, _, rfl, HW1⟩) | (go_step; go_step; go_meet; exact ⟨_, _, _, rfl, HW2⟩)
  obtain ⟨X, Lb, Tb, rfl, HW⟩ := hcut
  have Z0 := (HW.out.2.cell (p := ⟨w.heap.size, 0, none⟩) zY1).trans Y0
  have Z1 := (HW.out.2.cell (p := ⟨w.heap.size, 1, none⟩) zY1).trans Y1
  have B2 := hid (B1.out.trans (HW.out.2.mono B1.out.size))
  have zYc : w.heap.size < wc.heap.size := Nat.lt_of_lt_of_le zY1 HW.out.2.size
  clear Y0 Y1 HW1 HW2
  have hadd := hid (add_any HW.out.1 (.slice ad root.length cap) root (fun wz hz _ => (H.out.below (B := 0) (B2.out.trans hz))) (by simp; omega) B2.out.size)
  go_wp2_with fail
  refine hadd.out.mono ?_
  rintro e w3 ⟨rfl, ⟨rv3, hw3⟩, hb3, -⟩
  rw [List.nil_append] at hw3
  have HWR : Hid (WAtR w.heap.size X w3 (RDV pl pb) d [] root) := hid ⟨Lb, Tb, _, _, List.length_replicate, hw3⟩
  have HGG := hid Forks.Good.nil
  have HSM := hid (HS2.out)
  have HLR := hid (show root.length ≤ 1000000 by omega)
  have BT := hid (B2.out.trans hb3)
  have hw2 : Hid (Forks.walkT dk d root = if Ents.Row true root ∧ Forks.meets [] root = false then .ok ([], root) else .error 80) := hid (by
   have h1 : (d : Int) = 0 := by have := HD0.out; omega
   have h2 := HOK.out
   rw [h1] at h2 ⊢
   exact walkT_zero dk root h2)
  have HFN := hid (fun (hk : Exts.okTo root root.length = false) => (HR.out.symm.trans (hw2.out.trans (if_neg (fun h => by have := h.1; unfold Ents.Row at this; rw [Ents.okTo_leaf, hk] at this; cases this))) : R = .error 80))
  have HFM := hid (fun (hm : Forks.meets [] root = true) => (HR.out.symm.trans (hw2.out.trans (if_neg (fun h => by have := h.2; rw [hm] at this; cases this))) : R = .error 80))
  have HFO := hid (fun (hrw : Exts.Row root) (hm : Forks.meets [] root = false) => (HR.out.symm.trans (hw2.out.trans (if_pos ⟨Ents.row_leaf.2 hrw, hm⟩)) : R = .ok ([], root)))
  clear hb3 hw3 hw2
  obtain ⟨Lb2, Tb2, lv2, rvv, hld2, hraw⟩ := HWR.out
  obtain ⟨-, -, cR, -⟩ := hraw.cellX
  have hER : Hid (ExtsAt w3 rvv root) := hid hraw.row.at
  obtain ⟨adR, capR, rfl⟩ := hER.out.form
  have hck := hid (echeck_any _ root w3 HSM.out hER.out (by have := HLR.out; omega))
  have zX := hraw.lt
  clear hraw hld2
  cases hk : Exts.okTo root root.length
  case false =>
   rw [hk] at hck
   have F := hid (HFN.out hk)
   clear hk
   go_wp2_with fail
   refine hck.out.mono ?_
   rintro e w6 ⟨rfl, b6⟩
   have B6 := hid (BT.out.trans (b6.mono BT.out.size))
   clear b6
   go_wp2_with fail
   go_ret2
   exact WalkOut.err F.out (by decide) B6.out
  case true =>
   rw [hk] at hck
   have hRow := hid (Exts.check_row.1 hk)
   cases hm : Forks.meets [] root
   case true =>
    have F := hid (HFM.out hm)
    have hmc := hid (fun w6 (b6 : Below w3.heap.size w3 w6) => meets_any (HWR.out.below b6) HGG.out _ root hRow.out (hER.out.below (B := 0) b6) (by have := HLR.out; omega) true hm)
    clear hk hm
    go_wp2_with fail
    refine hck.out.mono ?_
    rintro e w6 ⟨rfl, b6⟩
    have q6 := hid (hmc.out w6 b6)
    have cR6 := (b6.cell (p := ⟨X, 2, none⟩) zX).trans cR
    have B6 := hid (BT.out.trans (b6.mono BT.out.size))
    clear b6 cR
    go_wp2_with fail
    refine q6.out.mono ?_
    rintro e w7 ⟨rfl, b7⟩
    have B7 := hid (B6.out.trans (b7.mono B6.out.size))
    clear b7
    go_wp2_with fail
    go_ret2
    exact WalkOut.err F.out (by decide) B7.out
   case false =>
    have F := hid (HFO.out hRow.out hm)
    have hmc := hid (fun w6 (b6 : Below w3.heap.size w3 w6) => meets_any (HWR.out.below b6) HGG.out _ root hRow.out (hER.out.below (B := 0) b6) (by have := HLR.out; omega) false hm)
    clear hk hm
    go_wp2_with fail
    refine hck.out.mono ?_
    rintro e w6 ⟨rfl, b6⟩
    have q6 := hid (hmc.out w6 b6)
    have cR6 := (b6.cell (p := ⟨X, 2, none⟩) zX).trans cR
    have B6 := hid (BT.out.trans (b6.mono BT.out.size))
    have W6 := hid (HWR.out.below b6)
    clear b6 cR
    go_wp2_with fail
    refine q6.out.mono ?_
    rintro e w7 ⟨rfl, b7⟩
    have B7 := hid (B6.out.trans (b7.mono B6.out.size))
    have W7 := hid (W6.out.below b7)
    clear b7
    go_wp2_with fail
    go_ret2
    exact WalkOut.ok F.out B7.out W7.out HGG.out
 ·have c5 := c5 (by omega)
  have c8 : (0 : Int) < (d : Int) := by omega
  have c9 : ((d : Int) == 0) = false := by rw [beq_eq_false_iff_ne]; omega
  rw [c9] at q
  go_enter Tryz.func47, Tryz.ntmps47
  go_wp2_with fail
  refine q.out.mono ?_
  rintro e w1 ⟨rfl, b1⟩
  have Y0 := (b1.cell (p := ⟨w.heap.size, 0, none⟩) zY).trans y0
  have Y1 := (b1.cell (p := ⟨w.heap.size, 1, none⟩) zY).trans y1
  have zY1 : w.heap.size < w1.heap.size := Nat.lt_of_lt_of_le zY b1.size
  have B1 := hid (HB.out.trans (b1.mono (by simp)))
  clear b1 y0 y1 zY
  have HW1 := hid (made_one w w1 (RDV pl pb) d ls ts HLS.out HTS.out B1.out.size)
  have HW2 := hid (made_two w w1 (RDV pl pb) d ls ts HLS.out HTS.out B1.out.size)
  go_upto_region 3 with fail
  go_cut [6] from 42 to 48 (fun p wc => ∃ X Lb Tb : Nat, p = .pointer (some ⟨X, 0, none⟩) ∧ Hid (WRaw w.heap.size X Lb Tb wc (RDV pl pb) (List.replicate d (.slice none 0 0)) (.slice none 0 0) (Forks.texts []) (Forks.lvl []) [] ∧ Below w1.heap.size w1 wc))
  case first =>
   go_region
   all_goals first | (go_meet; exact ⟨_, _, _, rfl, HW1⟩) | (go_meet; exact ⟨_, _, _, rfl, HW2⟩) | (go_step; go_meet; exact ⟨_, _, _, rfl, HW1⟩) | (go_step; go_meet; exact ⟨_, _, _, rfl, HW2⟩) | (go_step; go_step; go_meet; exact ⟨_, _, _, rfl, HW1⟩) | (go_step; go_step; go_meet; exact ⟨_, _, _, rfl, HW2⟩)
  obtain ⟨X, Lb, Tb, rfl, HW⟩ := hcut
  have Z0 := (HW.out.2.cell (p := ⟨w.heap.size, 0, none⟩) zY1).trans Y0
  have Z1 := (HW.out.2.cell (p := ⟨w.heap.size, 1, none⟩) zY1).trans Y1
  have B2 := hid (B1.out.trans (HW.out.2.mono B1.out.size))
  have zYc : w.heap.size < wc.heap.size := Nat.lt_of_lt_of_le zY1 HW.out.2.size
  clear Y0 Y1 HW1 HW2
  have hall := hid (all_any (X := X) (dk := dk) (d := d) pl pb (by omega) hds (d - 1) wc [] (.slice ad root.length cap) root (by omega) (show WAt w.heap.size X wc (RDV pl pb) d [] from ⟨Lb, Tb, _, _, List.length_replicate, HW.out.1⟩) Forks.Good.nil (HD.out.below B2.out) B2.out.size (fun wz hz _ => (H.out.below (B := 0) (B2.out.trans hz))) (fun x hx => by have := HROW.out.may x hx; rwa [c9] at this) (by omega))
  rw [show d - 1 + 1 = d by omega, show (((d - 1 : Nat) : Int) + 1) = (d : Int) by omega] at hall
  go_wp2_with fail
  refine hall.out.mono ?_
  rintro e w3 h3
  have hw2 : Hid (Forks.walkT dk d root = match Forks.allW dk d root [] with
    | .error k => .error k
    | .ok v => if Ents.Row true (Forks.rowV v) ∧ Forks.meets v (Forks.rowV v) = false then .ok (v, Forks.rowV v) else .error 80) := hid (walkT_pos dk d root HOK.out (by omega))
  cases hr3 : Forks.allW dk d root [] with
  | error k =>
   rw [hr3] at h3 hw2
   obtain ⟨hb3, -, rfl, hk3⟩ := h3
   have F := hid (HR.out.symm.trans hw2.out)
   have hkb : (k != 0) = true := by rw [bne_iff_ne]; exact hk3
   have B3 := hid (B2.out.trans hb3)
   have HK3 := hid hk3
   clear hb3 hr3 hk3
   go_wp2_with fail
   go_ret2
   exact WalkOut.err F.out HK3.out B3.out
  | ok v =>
   rw [hr3] at h3 hw2
   obtain ⟨hb3, -, rfl, hw3, hg3⟩ := h3
   have HWR := hid hw3.r
   have HGG := hid hg3
   have HSM := hid (rowV_smalls hg3)
   have HLR := hid (show (Forks.rowV v).length ≤ 1000000 by have := hg3.row_len; omega)
   have BT := hid (B2.out.trans hb3)
   have HFN := hid (fun (hk : Exts.okTo (Forks.rowV v) (Forks.rowV v).length = false) => (HR.out.symm.trans (hw2.out.trans (if_neg (fun h => by have := h.1; unfold Ents.Row at this; rw [Ents.okTo_leaf, hk] at this; cases this))) : R = .error 80))
   have HFM := hid (fun (hm : Forks.meets v (Forks.rowV v) = true) => (HR.out.symm.trans (hw2.out.trans (if_neg (fun h => by have := h.2; rw [hm] at this; cases this))) : R = .error 80))
   have HFO := hid (fun (hrw : Exts.Row (Forks.rowV v)) (hm : Forks.meets v (Forks.rowV v) = false) => (HR.out.symm.trans (hw2.out.trans (if_pos ⟨Ents.row_leaf.2 hrw, hm⟩)) : R = .ok (v, Forks.rowV v)))
   clear hb3 hw3 hg3 hw2 hr3
   obtain ⟨Lb2, Tb2, lv2, rvv, hld2, hraw⟩ := HWR.out
   obtain ⟨-, -, cR, -⟩ := hraw.cellX
   have hER : Hid (ExtsAt w3 rvv (Forks.rowV v)) := hid hraw.row.at
   obtain ⟨adR, capR, rfl⟩ := hER.out.form
   have hck := hid (echeck_any _ (Forks.rowV v) w3 HSM.out hER.out (by have := HLR.out; omega))
   have zX := hraw.lt
   clear hraw hld2
   cases hk : Exts.okTo (Forks.rowV v) (Forks.rowV v).length
   case false =>
    rw [hk] at hck
    have F := hid (HFN.out hk)
    clear hk
    go_wp2_with fail
    refine hck.out.mono ?_
    rintro e w6 ⟨rfl, b6⟩
    have B6 := hid (BT.out.trans (b6.mono BT.out.size))
    clear b6
    go_wp2_with fail
    go_ret2
    exact WalkOut.err F.out (by decide) B6.out
   case true =>
    rw [hk] at hck
    have hRow := hid (Exts.check_row.1 hk)
    cases hm : Forks.meets v (Forks.rowV v)
    case true =>
     have F := hid (HFM.out hm)
     have hmc := hid (fun w6 (b6 : Below w3.heap.size w3 w6) => meets_any (HWR.out.below b6) HGG.out _ (Forks.rowV v) hRow.out (hER.out.below (B := 0) b6) (by have := HLR.out; omega) true hm)
     clear hk hm
     go_wp2_with fail
     refine hck.out.mono ?_
     rintro e w6 ⟨rfl, b6⟩
     have q6 := hid (hmc.out w6 b6)
     have cR6 := (b6.cell (p := ⟨X, 2, none⟩) zX).trans cR
     have B6 := hid (BT.out.trans (b6.mono BT.out.size))
     clear b6 cR
     go_wp2_with fail
     refine q6.out.mono ?_
     rintro e w7 ⟨rfl, b7⟩
     have B7 := hid (B6.out.trans (b7.mono B6.out.size))
     clear b7
     go_wp2_with fail
     go_ret2
     exact WalkOut.err F.out (by decide) B7.out
    case false =>
     have F := hid (HFO.out hRow.out hm)
     have hmc := hid (fun w6 (b6 : Below w3.heap.size w3 w6) => meets_any (HWR.out.below b6) HGG.out _ (Forks.rowV v) hRow.out (hER.out.below (B := 0) b6) (by have := HLR.out; omega) false hm)
     clear hk hm
     go_wp2_with fail
     refine hck.out.mono ?_
     rintro e w6 ⟨rfl, b6⟩
     have q6 := hid (hmc.out w6 b6)
     have cR6 := (b6.cell (p := ⟨X, 2, none⟩) zX).trans cR
     have B6 := hid (BT.out.trans (b6.mono BT.out.size))
     have W6 := hid (HWR.out.below b6)
     clear b6 cR
     go_wp2_with fail
     refine q6.out.mono ?_
     rintro e w7 ⟨rfl, b7⟩
     have B7 := hid (B6.out.trans (b7.mono B6.out.size))
     have W7 := hid (W6.out.below b7)
     clear b7
     go_wp2_with fail
     go_ret2
     exact WalkOut.ok F.out B7.out W7.out HGG.out
end Go.Proofs.YtgjmeeiejcbjfaaGreat
namespace Go.Proofs.YtgjmeeiejcbjfaaGreat
open Go.Lib (hid)
open Go Go.RowKit
variable {w : World}
theorem walk_any (pl pb : Nat) (dk : Forks.Disk) (depth : Int) (rv : Value) (root : EL) (hs : SmallsE root) (h : ExtsAt w rv root) (hl : root.length ≤ 1000000000) (hd : -9223372036854775808 ≤ depth ∧ depth ≤ 9223372036854775807) (hdk : DiskAt w.heap.size w (RDV pl pb) dk) (hds : ∀ b s, dk.rd b = some s → s.size ≤ 140737488351232) :
  Calls Tryz.prog 47 #[.agg #[.int .i64 depth, rv], RDV pl pb] w (WalkOut w (RDV pl pb) depth.toNat (Forks.walkT dk depth root)) := by
 by_cases hok : Forks.RootOk depth root
 ·obtain ⟨d, rfl⟩ : ∃ d : Nat, depth = (d : Int) := ⟨depth.toNat, by have := hok.1; omega⟩
  rw [Int.toNat_natCast]
  exact walk_ok pl pb d dk rv root h hok hdk hds
 ·exact walk_bad (RDV pl pb) dk depth rv root hs h hl hd hok
def WalkTold (w : World) (r : Except Int (Forks.V × EL)) (e : Ending) (w' : World) : Prop :=
 Below w.heap.size w w' ∧ match r with
  | .error k => e = .returned (.tuple #[.slice none 0 0, .slice none 0 0, .int .i64 k]) ∧ k ≠ 0
  | .ok x => ∃ a b, e = .returned (.tuple #[a, b, .int .i64 0]) ∧ OwnExts w.heap.size w' a x.2 ∧ OwnInts w.heap.size w' b (natI (Forks.nodes x.1)) ∧ Forks.Good x.1
set_option maxRecDepth 100000 in
set_option maxHeartbeats 4000000 in
theorem Walk_any (pl pb : Nat) (dk : Forks.Disk) (depth : Int) (rv : Value) (root : EL) (hs : SmallsE root) (h : ExtsAt w rv root) (hl : root.length ≤ 1000000000) (hd : -9223372036854775808 ≤ depth ∧ depth ≤ 9223372036854775807) (hdk : DiskAt w.heap.size w (RDV pl pb) dk) (hds : ∀ b s, dk.rd b = some s → s.size ≤ 140737488351232) :
  Calls Tryz.prog 19 #[.agg #[.int .i64 depth, rv], RDV pl pb] w (WalkTold w (Forks.walkT dk depth root)) := by
 have bA : Below w.heap.size w (w.alloc (.cells #[.int .i64 depth, rv] 35)) := (Below.refl _ _).alloc (Nat.le_refl _) _
 have q := hid (walk_any pl pb dk depth rv root hs (h.below (B := 0) bA) hl hd ((hdk.below bA).mono (by simp)) hds)
 have BA := hid bA
 obtain ⟨ad, cap, rfl⟩ := h.form
 clear h bA hdk
 cases hR : Forks.walkT dk depth root with
 | error k =>
  rw [hR] at q
  have F : Hid (∀ w', Below w.heap.size w w' → k ≠ 0 → WalkTold w (.error k) (.returned (.tuple #[.slice none 0 0, .slice none 0 0, .int .i64 k])) w') := hid (fun w' hb hk => ⟨hb, rfl, hk⟩)
  clear hR
  go_enter Tryz.func19, Tryz.ntmps19
  go_wp2_with fail
  refine q.out.mono ?_
  rintro e w1 ⟨hb, rfl, hk⟩
  have hkb : (k != 0) = true := by rw [bne_iff_ne]; exact hk
  have G := hid (F.out w1 (BA.out.trans (hb.mono (by simp))) hk)
  clear hb hk
  go_wp2_with fail
  refine bodyPost_ret (v := .tuple #[.slice none 0 0, .slice none 0 0, .int .i64 k]) (by simp [results, Tryz.results19, go_sem]) rfl G.out
 | ok x =>
  obtain ⟨v, R⟩ := x
  rw [hR] at q
  clear hR
  go_enter Tryz.func19, Tryz.ntmps19
  go_wp2_with fail
  refine q.out.mono ?_
  rintro e w1 ⟨hb, X, rfl, hw, hg⟩
  have B1 := hid (BA.out.trans (hb.mono (by simp)))
  have HW := hid hw
  have HG := hid hg
  obtain ⟨Lb, Tb, lv, rvv, hld, hraw⟩ := hw
  obtain ⟨-, -, cR, -⟩ := hraw.cellX
  have zX := hraw.lt
  have hO := hid (hraw.row.mono (show w.heap.size ≤ _ by simp))
  have qn := hid (fun w2 (b2 : Below w1.heap.size w1 w2) => nodes_any (HW.out.below b2) HG.out)
  obtain ⟨adR, capR, rfl⟩ := hO.out.slice
  clear hb hg hraw hld
  go_upto_region 4 with fail
  go_cut [4, 5, 6] from 17 to 22 (fun p q r wc => ∃ u : Value, p = .slice adR R.length capR ∧ u = q ∧ r = .int .i64 0 ∧ Hid (OwnInts w1.heap.size wc u (natI (Forks.nodes v)) ∧ Below w1.heap.size w1 wc))
  case first =>
   go_region_held3 (fun w' => w'.cell? ⟨X, 2, none⟩ = some (.slice adR R.length capR)) (first | exact cR | exact (s4.cell (p := ⟨X, 2, none⟩) zX).trans cR) ((go_at_call 48; refine (qn.out _ (Below.refl _ _).drew).mono ?_; rintro e w4 ⟨⟨u, rfl, o4⟩, b4⟩; have s4 : Below w1.heap.size w1 w4 := ⟨b4.os, b4.tape, b4.output, b4.size, b4.block⟩; have O4 := hid (And.intro o4 s4)))
   all_goals first | (go_meet; exact ⟨_, rfl, rfl, rfl, O4⟩) | (go_step; go_meet; exact ⟨_, rfl, rfl, rfl, O4⟩) | (go_step; go_step; go_meet; exact ⟨_, rfl, rfl, rfl, O4⟩)
  obtain ⟨u, rfl, rfl, rfl, O4⟩ := hcut
  have hsz := B1.out.size
  have G : Hid (WalkTold w (.ok (v, R)) (.returned (.tuple #[.slice adR R.length capR, u, .int .i64 0])) wc) := hid ⟨B1.out.trans (O4.out.2.mono hsz), _, _, rfl, hO.out.below O4.out.2, O4.out.1.mono hsz, HG.out⟩
  obtain ⟨adU, capU, rfl⟩ := O4.out.1.slice
  go_wp2_with fail
  refine bodyPost_ret (v := .tuple #[.slice adR R.length capR, .slice adU _ capU, .int .i64 0]) (by simp [results, Tryz.results19, go_sem]) rfl G.out
end Go.Proofs.YtgjmeeiejcbjfaaGreat
namespace Go.Proofs.YtgjmeeiejcbjfaaGreat
open Go.Lib (hid)
open Go Go.RowKit
namespace Forks
open Go.Lib (hid)
def fitsT (a b : Int) (l : EL) : Bool := decide (0 ≤ a) && decide (a ≤ b) && decide (b ≤ 2048) && Exts.okTo l l.length && (l.length == 0 || (decide (a ≤ (l.getD 0 (0, 0, 0)).1) && decide (Exts.endR l ≤ b)))
def replT (row : EL) (a b : Int) (l : EL) : EL := if a = b then row else Exts.cutR row a ++ l ++ Exts.punchR row 0 b
end Forks
variable {w : World}
set_option maxRecDepth 100000 in
set_option maxHeartbeats 4000000 in
theorem fits_any (v : Value) (l : EL) (a b : Int) (hs : SmallsE l) (h : ExtsAt w v l) (hl : l.length ≤ 1000000) (ha : -9223372036854775808 ≤ a ∧ a ≤ 9223372036854775807) (hb : -9223372036854775808 ≤ b ∧ b ≤ 9223372036854775807) :
  Calls Tryz.prog 73 #[.int .i64 a, .int .i64 b, v] w fun e w' => e = .returned (.bool (Forks.fitsT a b l)) ∧ Below w.heap.size w w' := by
 have q := hid (echeck_any v l w hs h (by omega))
 have H := hid h
 have HS := hid hs
 obtain ⟨ad, cap, rfl⟩ := h.form3
 clear h hs
 unfold Forks.fitsT
 by_cases c1 : 0 ≤ a
 case neg =>
  rw [decide_eq_false c1]
  go_enter Tryz.func73, Tryz.ntmps73
  go_wp2_with fail
  go_ret
  exact ⟨rfl, Below.refl _ _⟩
 by_cases c2 : a ≤ b
 case neg =>
  rw [decide_eq_true c1, decide_eq_false c2]
  go_enter Tryz.func73, Tryz.ntmps73
  go_wp2_with fail
  go_ret
  exact ⟨rfl, Below.refl _ _⟩
 by_cases c3 : b ≤ 2048
 case neg =>
  rw [decide_eq_true c1, decide_eq_true c2, decide_eq_false c3]
  go_enter Tryz.func73, Tryz.ntmps73
  go_wp2_with fail
  go_ret
  exact ⟨rfl, Below.refl _ _⟩
 rw [decide_eq_true c1, decide_eq_true c2, decide_eq_true c3]
 simp only [Bool.true_and]
 cases hk : Exts.okTo l l.length
 case false =>
  rw [hk] at q
  clear hk
  go_enter Tryz.func73, Tryz.ntmps73
  go_wp2_with fail
  refine q.out.mono ?_
  rintro e w1 ⟨rfl, b1⟩
  have B1 := hid b1
  clear b1
  go_wp2_with fail
  go_ret
  exact ⟨rfl, B1.out⟩
 rw [hk] at q
 have HR := hid (Exts.check_row.1 hk)
 clear hk
 simp only [Bool.true_and]
 by_cases c4 : l.length = 0
 ·have hz : ((l.length : Int) == 0) = true := by rw [beq_iff_eq]; omega
  rw [show (l.length == 0) = true by simpa using c4, Bool.true_or]
  generalize l.length = n at *
  have C4 := hid c4
  clear c4
  go_enter Tryz.func73, Tryz.ntmps73
  go_wp2_with fail
  refine q.out.mono ?_
  rintro e w1 ⟨rfl, b1⟩
  have B1 := hid b1
  clear b1
  go_wp2_with fail
  go_ret
  exact ⟨rfl, B1.out⟩
 have hz : ((l.length : Int) == 0) = false := by rw [beq_eq_false_iff_ne]; omega
 have hp : (0 : Int) < (l.length : Int) := by omega
 rw [show (l.length == 0) = false by simpa using c4, Bool.false_or]
 have hend := hid (fun w1 (b1 : Below w.heap.size w w1) => eEnd_any _ l w1 HS.out (H.out.below (B := 0) b1) (by omega))
 generalize Exts.endR l = en at *
 obtain ⟨_, g, off, rfl, d0, _, _⟩ := H.out.cells 0 (by omega)
 have zg : g < w.heap.size := World.block_lt_of_cell? _ _ d0
 rw [Nat.zero_mul, Nat.add_zero] at d0
 generalize (l.getD 0 (0, 0, 0)).1 = f0 at *
 by_cases c5 : a ≤ f0
 case neg =>
  rw [decide_eq_false c5, Bool.false_and]
  go_enter Tryz.func73, Tryz.ntmps73
  go_wp2_with fail
  refine q.out.mono ?_
  rintro e w1 ⟨rfl, b1⟩
  have B1 := hid b1
  have d1 := (b1.cell (p := ⟨g, off, none⟩) zg).trans d0
  clear b1
  go_wp2_with fail
  go_ret
  exact ⟨rfl, B1.out⟩
 rw [decide_eq_true c5, Bool.true_and]
 go_enter Tryz.func73, Tryz.ntmps73
 go_wp2_with fail
 refine q.out.mono ?_
 rintro e w1 ⟨rfl, b1⟩
 have B1 := hid b1
 have d1 := (b1.cell (p := ⟨g, off, none⟩) zg).trans d0
 have q1 := hid (hend.out w1 b1)
 clear b1
 go_wp2_with fail
 refine q1.out.mono ?_
 rintro e w2 ⟨rfl, b2⟩
 have B2 := hid (B1.out.trans (b2.mono B1.out.size))
 clear b2
 go_wp2_with fail
 go_ret
 exact ⟨rfl, B2.out⟩
theorem cutOut_ok {row : EL} {a : Int} (hr : Exts.Row row) (ha : 0 ≤ a) : Exts.cutOut row a = Exts.cutR row a ∧ Exts.cutE row a = 0 := by
 have : Exts.cuts row a = true := by unfold Exts.cuts; rw [Exts.check_row.2 hr, decide_eq_true ha]; rfl
 unfold Exts.cutOut Exts.cutE
 rw [if_pos this, if_pos this]
 exact ⟨rfl, rfl⟩
theorem punchOut_ok {row : EL} {b : Int} (hr : Exts.Row row) (hb : 0 ≤ b) (hb2 : b ≤ 2048) : Exts.punchOut row 0 b = Exts.punchR row 0 b ∧ Exts.punchE row 0 b = 0 := by
 have : Exts.punches row 0 b = true := by unfold Exts.punches; rw [Exts.check_row.2 hr, decide_eq_true (by omega)]; rfl
 unfold Exts.punchOut Exts.punchE
 rw [if_pos this, if_pos this]
 exact ⟨rfl, rfl⟩
theorem cutR_len (row : EL) (a : Int) : (Exts.cutR row a).length ≤ 2 * row.length := by
 have := change_len row (min a 2048) 2048 []
 unfold Exts.cutR
 simpa using this
theorem punchR_len (row : EL) (a b : Int) : (Exts.punchR row a b).length ≤ 2 * row.length := by
 unfold Exts.punchR
 split
 ·omega
 ·have := change_len row a (a + b) []
  simpa using this
def ReplOut (w : World) (v : Value) (row R : EL) (e : Ending) (w' : World) : Prop := ∃ x, e = .returned (.tuple #[x, .int .i64 0]) ∧ ExtsAt w' x R ∧ Below w.heap.size w w' ∧ ((x = v ∧ R = row) ∨ OwnExts w.heap.size w' x R)
set_option maxRecDepth 100000 in
set_option maxHeartbeats 4000000 in
theorem replaced_any (v u : Value) (row l : EL) (a b : Int) (hr : Exts.Row row) (hv : ExtsAt w v row) (hu : ExtsAt w u l) (hlr : row.length ≤ 100000) (hll : l.length ≤ 100000) (ha : 0 ≤ a) (hab : a ≤ b) (hb : b ≤ 2048) :
  Calls Tryz.prog 74 #[v, .int .i64 a, .int .i64 b, u] w (ReplOut w v row (Forks.replT row a b l)) := by
 have HV := hid hv
 have HU := hid hu
 obtain ⟨ad, c, rfl⟩ := hv.form3
 obtain ⟨ud, uc, rfl⟩ := hu.form3
 by_cases hc : a = b
 ·have hR : Hid (Forks.replT row a b l = row) := hid (if_pos hc)
  have hc' : (a == b) = true := by rw [beq_iff_eq]; exact hc
  have F : Hid (ReplOut w (.slice ad row.length c) row (Forks.replT row a b l) (.returned (.tuple #[.slice ad row.length c, .int .i64 0])) w) := hid (by rw [hR.out]; exact ⟨_, rfl, HV.out, Below.refl _ _, .inl ⟨rfl, rfl⟩⟩)
  clear hc hv hu hab
  go_enter Tryz.func74, Tryz.ntmps74
  go_wp2_with fail
  go_ret2
  exact F.out
 ·have hR : Hid (Forks.replT row a b l = Exts.cutR row a ++ l ++ Exts.punchR row 0 b) := hid (if_neg hc)
  have hc' : (a == b) = false := by rw [beq_eq_false_iff_ne]; exact hc
  have q1 := hid (eCut_any _ row a w (SmallsE.row hr) HV.out (by omega) (by omega))
  have q2 := hid (fun w1 (b1 : Below w.heap.size w w1) => ePunch_any _ row 0 b w1 (SmallsE.row hr) (HV.out.below (B := 0) b1) (by omega) (by omega) (by omega))
  rw [(cutOut_ok hr ha).1, (cutOut_ok hr ha).2] at q1
  rw [(punchOut_ok hr (by omega) hb).1, (punchOut_ok hr (by omega) hb).2] at q2
  have hl1 := cutR_len row a
  have hl2 := punchR_len row 0 b
  clear hc hv hu
  generalize Forks.replT row a b l = RR at *
  generalize Exts.cutR row a = R1 at *
  generalize Exts.punchR row 0 b = R2 at *
  generalize Exts.cutFr row a = f1 at *
  generalize Exts.punchFr row 0 b = f2 at *
  go_enter Tryz.func74, Tryz.ntmps74
  go_wp2_with fail
  refine q1.out.mono ?_
  rintro e w1 ⟨v1, g1, k1, rfl, o1, -, -, r1, b1⟩
  have O1 := hid o1
  have B1 := hid b1
  have q3 := hid (q2.out w1 b1)
  obtain ⟨ad1, c1, rfl⟩ := o1.at.form3
  obtain ⟨fa, fn, fc, rfl⟩ := own_slice r1
  clear o1 b1 r1
  go_wp2_with fail
  refine q3.out.mono ?_
  rintro e w2 ⟨v2, g2, k2, rfl, o2, -, -, r2, b2⟩
  have O2 := hid o2
  have B2 := hid b2
  obtain ⟨ad2, c2, rfl⟩ := o2.at.form3
  obtain ⟨fa2, fn2, fc2, rfl⟩ := own_slice r2
  clear o2 b2 r2
  have bA : Below w2.heap.size w2 (w2.alloc (.cells #[.slice ad1 R1.length c1, .slice ud l.length uc, .slice ad2 R2.length c2] 42)) := (Below.refl _ _).alloc (Nat.le_refl _) _
  have q4 := hid (econcat_any w2.heap.size 3 _ _ _ R1 l R2 (w2.alloc (.cells #[.slice ad1 R1.length c1, .slice ud l.length uc, .slice ad2 R2.length c2] 42)) (box_cell _ _ _ _) (box_cell _ _ _ _) (box_cell _ _ _ _) ((O1.out.at.below (B := 0) B2.out).below (B := 0) bA) (((HU.out.below (B := 0) B1.out).below (B := 0) B2.out).below (B := 0) bA) (O2.out.at.below (B := 0) bA) (by omega) (by omega) (by omega))
  have B3 := hid ((B1.out.trans (B2.out.mono B1.out.size)).trans (bA.mono (by have := B1.out.size; have := B2.out.size; omega)))
  clear bA
  go_wp2_with fail
  refine q4.out.mono ?_
  rintro e w3 ⟨v3, rfl, o3, b3⟩
  have F : Hid (ReplOut w (.slice ad row.length c) row RR (.returned (.tuple #[v3, .int .i64 0])) w3) := hid (by rw [hR.out]; exact ⟨_, rfl, o3.at, B3.out.trans (b3.mono B3.out.size), .inr (World.ownsRow.mono o3 B3.out.size)⟩)
  obtain ⟨ad3, c3, rfl⟩ := o3.at.form3
  clear o3 b3
  generalize (R1 ++ l ++ R2).length = nn at *
  go_wp2_with fail
  go_ret2
  exact F.out
end Go.Proofs.YtgjmeeiejcbjfaaGreat
