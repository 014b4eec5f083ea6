/- Lists of numbers in memory; whether two are the same. -/
import Derived.Test.YtgjmeeiejcbjfaaGreatH03
import Derived.Test.YtgjmeeiejcbjfaaGreatProg
import Derived.StillTailTactics
import Derived.BigQuiet
import Derived.Deep.QuietTactic
import Derived.Deep.Onto
set_option linter.unusedSimpArgs false
set_option linter.unusedVariables false
namespace Go.Proofs.YtgjmeeiejcbjfaaGreat
open Go.Lib (hid)
open Go Go.RowKit
abbrev IL := List Int
def icells (l : IL) : List Value := l.map (Value.int .i64)
theorem icells_length (l : IL) : (icells l).length = l.length := by simp [icells]
theorem icells_append (a b : IL) : icells (a ++ b) = icells a ++ icells b := by simp [icells]
theorem icells_at (l : IL) (i : Nat) (h : i < l.length) : (icells l)[i]? = some (.int .i64 (l.getD i 0)) := by simp [icells, List.getD, h]
def IntsAt (w : World) (v : Value) (l : IL) : Prop :=
 (v = .slice none 0 0 ∧ l = []) ∨ ∃ b off cap, v = .slice (some ⟨b, off, none⟩) l.length cap ∧ ∀ j u, (icells l)[j]? = some u → w.cell? ⟨b, off + j, none⟩ = some u
theorem IntsAt.below {w w' : World} {v : Value} {l : IL} (h : IntsAt w v l) (hb : Below w.heap.size w w') : IntsAt w' v l := by
 rcases h with h | ⟨b, off, cap, rfl, hc⟩
 ·exact .inl h
 ·exact .inr ⟨b, off, cap, rfl, fun j u hu => (hb.cell (p := ⟨b, off + j, none⟩) (World.block_lt_of_cell? w _ (hc j u hu))).trans (hc j u hu)⟩
theorem IntsAt.form {w : World} {v : Value} {l : IL} (h : IntsAt w v l) : ∃ ad cap, v = .slice ad l.length cap := by
 rcases h with ⟨rfl, rfl⟩ | ⟨b, off, cap, rfl, _⟩
 ·exact ⟨_, _, rfl⟩
 ·exact ⟨_, _, rfl⟩
theorem IntsAt.cells {w : World} {ad : Option Addr} {n cap : Nat} {l : IL} (h : IntsAt w (.slice ad n cap) l) (i : Nat) (hi : i < l.length) : ∃ g off, ad = some ⟨g, off, none⟩ ∧ w.cell? ⟨g, off + i, none⟩ = some (.int .i64 (l.getD i 0)) := by
 rcases h with ⟨h, rfl⟩ | ⟨b, off, c, h, hc⟩
 ·simp at hi
 ·cases h
  exact ⟨b, off, rfl, hc i _ (icells_at l i hi)⟩
def OwnInts (B : Nat) (w : World) (v : Value) (l : IL) : Prop := w.ownsRow B 3 1 v l.length (icells l)
theorem OwnInts.at {B : Nat} {w : World} {v : Value} {l : IL} (h : OwnInts B w v l) : IntsAt w v l := by
 rcases h.2 with ⟨rfl, hn⟩ | ⟨g, cap, cur, rfl, hg, hh, h1, h2, h3, h4⟩
 ·exact .inl ⟨rfl, List.eq_nil_of_length_eq_zero hn⟩
 ·refine .inr ⟨g, 0, cap, rfl, fun j u hu => ?_⟩
  have hj : j < l.length * 1 := by
   have := (List.getElem?_eq_some_iff.1 hu).1
   rw [icells_length] at this
   omega
  rw [Nat.zero_add]
  have e : (cur.toList.take (l.length * 1))[j]? = some u := by rw [h4]; exact hu
  rw [List.getElem?_take, if_pos hj, Array.getElem?_toList] at e
  simp [World.cell?, hh, e]
theorem OwnInts.below {B : Nat} {w w' : World} {v : Value} {l : IL} (h : OwnInts B w v l) (hb : Below w.heap.size w w') : OwnInts B w' v l :=
 ⟨h.1, h.2.imp id (fun ⟨g, cap, cur, hv, hg, hh, r⟩ => ⟨g, cap, cur, hv, hg, by rw [hb.block g (lt_of_block hh)]; exact hh, r⟩)⟩
theorem OwnInts.mono {B B' : Nat} {w : World} {v : Value} {l : IL} (h : OwnInts B w v l) (hb : B' ≤ B) : OwnInts B' w v l := World.ownsRow.mono h hb
theorem OwnInts.slice {B : Nat} {w : World} {v : Value} {l : IL} (h : OwnInts B w v l) : ∃ ad c, v = .slice ad l.length c := h.at.form
theorem infoInt : (Tryz.prog.info? 3).map (fun i => (i.zero, i.size, i.bytes)) = some (some (.int .i64 0), 1, 8) := by kernel_rfl
theorem isame_no (a1 a2 : Option Addr) (n1 n2 c1 c2 : Nat) (h : n1 ≠ n2) (h1 : n1 ≤ 9223372036854775807) (h2 : n2 ≤ 9223372036854775807) (w : World) :
  Calls Tryz.prog 23 #[.slice a1 n1 c1, .slice a2 n2 c2] w fun e w' => e = .returned (.bool false) ∧ ∃ n, w' = w.drewN n := by
 have hb : ((n1 : Int) != (n2 : Int)) = true := by rw [bne_iff_ne]; omega
 go_enter Tryz.func23, Tryz.ntmps23
 go_wp2_with fail
 go_ret
 exact ⟨rfl, 0, rfl⟩
theorem isame_zero (a1 a2 : Option Addr) (c1 c2 : Nat) (w : World) :
  Calls Tryz.prog 23 #[.slice a1 0 c1, .slice a2 0 c2] w fun e w' => e = .returned (.bool true) ∧ ∃ n, w' = w.drewN n := by
 go_enter Tryz.func23, Tryz.ntmps23
 go_wp2_with fail
 refine wp_loop_rounds 1 ?_
 rw [rounds_succ]
 go_wp2_with fail
 go_ret
 exact ⟨rfl, 0, rfl⟩
set_option maxHeartbeats 1000000 in
theorem isame_some (w : World) (b1 o1 c1 b2 o2 c2 : Nat) (l1 l2 : IL) (hn : l2.length = l1.length) (hb : l1.length ≤ 9223372036854775807)
  (h1 : ∀ j u, (icells l1)[j]? = some u → w.cell? ⟨b1, o1 + j, none⟩ = some u) (h2 : ∀ j u, (icells l2)[j]? = some u → w.cell? ⟨b2, o2 + j, none⟩ = some u) :
  Calls Tryz.prog 23 #[.slice (some ⟨b1, o1, none⟩) l1.length c1, .slice (some ⟨b2, o2, none⟩) l1.length c2] w fun e w' => e = .returned (.bool (l1 == l2)) ∧ ∃ n, w' = w.drewN n := by
 have H1 := hid h1
 have H2 := hid h2
 have HN := hid hn
 clear h1 h2 hn
 go_enter Tryz.func23, Tryz.ntmps23
 go_wp2_with fail
 go_loopw [5] (fun q wr => ∃ i : Nat, i ≤ l1.length ∧ q = .int .i64 i ∧ Hid (l1.take i = l2.take i) ∧ Hid (∃ n, wr = w.drewN n)) (fun q _ => l1.length - (intOf q).toNat)
 case atStart => exact ⟨0, by omega, rfl, hid (by simp), hid ⟨0, rfl⟩⟩
 case round =>
  obtain ⟨i, hi, rfl, hp, hw⟩ := hrel
  by_cases hlt : i < l1.length
  ·have hlt2 : i < l2.length := by rw [HN.out]; exact hlt
   obtain ⟨m, hm⟩ := hw.out
   have c1a := H1.out i _ (icells_at l1 i hlt)
   have c2a := H2.out i _ (icells_at l2 i hlt2)
   generalize hx : l1.getD i 0 = x at c1a
   generalize hy : l2.getD i 0 = y at c2a
   have HX := hid hx
   have HY := hid hy
   have e1 : wr.cell? = w.cell? := by rw [hm]; rfl
   rw [← e1] at c1a c2a
   clear hx hy hm e1
   have i0 : (0 : Int) ≤ (i : Int) := by omega
   have i1 : (i : Int) < l1.length := by omega
   by_cases he : x = y
   ·subst he
    go_wp2_with fail
    go_quiet (fail)
    go_wp2_with fail
    go_roundw
    case rel =>
     refine ⟨i + 1, by omega, by go_num, ?_, ?_⟩
     ·refine hid ?_
      rw [List.take_succ_eq_append_getElem hlt, List.take_succ_eq_append_getElem hlt2, hp.out]
      have := HX.out; have h2 := HY.out
      simp only [List.getD, List.getElem?_eq_getElem hlt, List.getElem?_eq_getElem hlt2, Option.getD_some] at this h2
      rw [this, h2]
     ·obtain ⟨m, rfl⟩ := hw.out
      exact hid ⟨m + nq, World.drewN_drewN _ _ _⟩
    case measure => simp [intOf]; omega
   ·have hne : Hid ((l1 == l2) = false) := by
     refine hid ?_
     rw [beq_eq_false_iff_ne]
     intro h
     rw [h] at HX
     exact he (HX.out.symm.trans HY.out)
    have hb : (x != y) = true := by rw [bne_iff_ne]; exact he
    have hb2 : (x == y) = false := by rw [beq_eq_false_iff_ne]; exact he
    clear he
    go_wp2_with fail
    go_quiet (fail)
    go_wp2_with fail
    go_ret
    refine ⟨by rw [hne.out]; rfl, ?_⟩
    obtain ⟨m, rfl⟩ := hw.out
    exact ⟨m + nq, World.drewN_drewN _ _ _⟩
  ·have heq : Hid ((l1 == l2) = true) := by
    refine hid ?_
    rw [beq_iff_eq]
    have := hp.out
    rwa [List.take_of_length_le (by omega), List.take_of_length_le (by rw [HN.out]; omega)] at this
   go_wp2_with fail
   go_ret
   exact ⟨by rw [heq.out]; rfl, hw.out⟩
end Go.Proofs.YtgjmeeiejcbjfaaGreat
