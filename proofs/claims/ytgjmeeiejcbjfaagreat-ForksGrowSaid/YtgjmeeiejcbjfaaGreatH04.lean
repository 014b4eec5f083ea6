/- Lists of runs in memory; whether two are the same. -/
import Derived.Test.YtgjmeeiejcbjfaaGreatProg
import Derived.Test.YtgjmeeiejcbjfaaGreatH03
import Derived.StillTailTactics
import Derived.BigQuiet
import Derived.Deep.QuietTactic
import Derived.Test.YtgjmeeiejcbjfaaGreatH02
import Derived.Lib.SliceRun
set_option linter.unusedSimpArgs false
set_option linter.unusedVariables false
namespace Go.Proofs.YtgjmeeiejcbjfaaGreat
open Go.Lib (hid)
open Go Go.RowKit
abbrev RL := List (Int × Int)
def rcells (l : RL) : List Value := l.flatMap fun r => [.int .i64 r.1, .int .i64 r.2]
theorem rcells_length (l : RL) : (rcells l).length = l.length * 2 := by
 induction l with
 | nil => rfl
 | cons r l ih => simp only [rcells, List.flatMap_cons, List.length_append, List.length_cons, List.length_nil] at ih ⊢; omega
theorem rcells_append (a b : RL) : rcells (a ++ b) = rcells a ++ rcells b := by simp [rcells]
theorem rcells_at (l : RL) : ∀ i, i < l.length → (rcells l)[i * 2]? = some (.int .i64 (l.getD i (0, 0)).1) ∧ (rcells l)[i * 2 + 1]? = some (.int .i64 (l.getD i (0, 0)).2) := by
 induction l with
 | nil => intro i h; simp at h
 | cons r l ih =>
  intro i h
  cases i with
  | zero => simp [rcells, List.getD]
  | succ i =>
   have hi := ih i (by simpa using h)
   have e : rcells (r :: l) = .int .i64 r.1 :: .int .i64 r.2 :: rcells l := by simp [rcells]
   rw [e, show (i + 1) * 2 = i * 2 + 1 + 1 by omega]
   simpa [List.getD] using hi
def RunsAt (w : World) (v : Value) (l : RL) : Prop :=
 (v = .slice none 0 0 ∧ l = []) ∨ ∃ b off cap, v = .slice (some ⟨b, off, none⟩) l.length cap ∧ ∀ j u, (rcells l)[j]? = some u → w.cell? ⟨b, off + j, none⟩ = some u
theorem RunsAt.below {w w' : World} {v : Value} {l : RL} {B : Nat} (h : RunsAt w v l) (hb : Below w.heap.size w w') : RunsAt w' v l := by
 rcases h with h | ⟨b, off, cap, rfl, hc⟩
 ·exact .inl h
 ·exact .inr ⟨b, off, cap, rfl, fun j u hu => (hb.cell (p := ⟨b, off + j, none⟩) (World.block_lt_of_cell? w _ (hc j u hu))).trans (hc j u hu)⟩
theorem RunsAt.own {w : World} {v : Value} {l : RL} {B E : Nat} (h : w.ownsRow B E 2 v l.length (rcells l)) : RunsAt w v l := by
 rcases h.2 with ⟨rfl, hn⟩ | ⟨g, cap, cur, rfl, hg, hh, h1, h2, h3, h4⟩
 ·exact .inl ⟨rfl, List.eq_nil_of_length_eq_zero hn⟩
 ·refine .inr ⟨g, 0, cap, rfl, fun j u hu => ?_⟩
  rw [cell_of_row w g (0 + j) _ _ _ hh, Nat.zero_add]
  have hj : j < (rcells l).length := (List.getElem?_eq_some_iff.1 hu).1
  rw [← h4] at hu
  rw [List.getElem?_take_of_lt (by rw [rcells_length] at hj; exact hj)] at hu
  simpa using hu
def Small (x : Int × Int) : Prop := (-9223372036854775808 ≤ x.1 ∧ x.1 ≤ 9223372036854775807) ∧ (-9223372036854775808 ≤ x.2 ∧ x.2 ≤ 9223372036854775807)
theorem may_any (x : Int × Int) (hx : Small x) (w : World) : Calls Tryz.prog 143 #[.agg #[.int .i64 x.1, .int .i64 x.2]] w fun e w' => e = .returned (.bool (decide (Runs.may x))) ∧ w' = w.alloc (.cells #[.int .i64 x.1, .int .i64 x.2] 223) := by
 obtain ⟨a, c⟩ := x
 obtain ⟨⟨h1, h2⟩, h3, h4⟩ := hx
 dsimp only at *
 by_cases k1 : 0 ≤ a
 ·by_cases k2 : 1 ≤ c
  ·by_cases k3 : c ≤ 9223372036854775807 - a
   ·have e : decide (Runs.may (a, c)) = true := decide_eq_true ⟨k1, k2, k3⟩
    rw [e]
    go_enter Tryz.func143, Tryz.ntmps143
    go_wp2_with fail
    go_ret
    exact ⟨rfl, rfl⟩
   ·have e : decide (Runs.may (a, c)) = false := decide_eq_false (fun h => k3 h.2.2)
    rw [e]
    go_enter Tryz.func143, Tryz.ntmps143
    go_wp2_with fail
    go_ret
    exact ⟨rfl, rfl⟩
  ·have e : decide (Runs.may (a, c)) = false := decide_eq_false (fun h => k2 h.2.1)
   rw [e]
   go_enter Tryz.func143, Tryz.ntmps143
   go_wp2_with fail
   go_ret
   exact ⟨rfl, rfl⟩
 ·have e : decide (Runs.may (a, c)) = false := decide_eq_false (fun h => k1 h.1)
  rw [e]
  go_enter Tryz.func143, Tryz.ntmps143
  go_wp2_with fail
  go_ret
  exact ⟨rfl, rfl⟩
theorem end_any (x : Int × Int) (h : -9223372036854775808 ≤ Runs.fin x ∧ Runs.fin x ≤ 9223372036854775807) (w : World) : Calls Tryz.prog 144 #[.agg #[.int .i64 x.1, .int .i64 x.2]] w fun e w' => e = .returned (.int .i64 (Runs.fin x)) ∧ w' = w.alloc (.cells #[.int .i64 x.1, .int .i64 x.2] 223) := by
 obtain ⟨a, c⟩ := x
 unfold Runs.fin at *
 dsimp only at *
 go_enter Tryz.func144, Tryz.ntmps144
 go_wp2_with fail
 go_ret
 exact ⟨rfl, rfl⟩
theorem normal1_any (x : Int × Int) (hx : Small x) (w : World) : Calls Tryz.prog 162 #[.agg #[.int .i64 x.1, .int .i64 x.2]] w fun e w' => e = .returned (.bool (!decide (Runs.may x))) ∧ Below w.heap.size w w' := by
 have hm := hid (fun w => may_any x hx w)
 clear hx
 obtain ⟨a, c⟩ := x
 generalize decide (Runs.may (a, c)) = r at *
 dsimp only at *
 go_enter Tryz.func162, Tryz.ntmps162
 go_wp2_with fail
 refine (hm.out _).mono ?_
 rintro e w' ⟨rfl, rfl⟩
 go_wp2_with fail
 go_ret
 exact ⟨rfl, ((Below.refl _ _).alloc (Nat.le_refl _) _).alloc (by simp) _⟩
def Smalls (l : RL) : Prop := ∀ x ∈ l, Small x
theorem Smalls.at {l : RL} (h : Smalls l) (i : Nat) (hi : i < l.length) : Small (l.getD i (0, 0)) := by
 have e : l.getD i (0, 0) = l[i] := by simp [List.getD, hi]
 rw [e]; exact h _ (List.getElem_mem hi)
theorem Smalls.row {l : RL} (h : Runs.Row l) : Smalls l := fun x hx => by
 have := h.may x hx
 unfold Runs.may Runs.top at this
 unfold Small; omega
theorem RunsAt.cells {w : World} {ad : Option Addr} {n cap : Nat} {l : RL} (h : RunsAt w (.slice ad n cap) l) (i : Nat) (hi : i < l.length) : n = l.length ∧ ∃ g off, ad = some ⟨g, off, none⟩ ∧
  w.cell? ⟨g, off + i * 2, none⟩ = some (.int .i64 (l.getD i (0, 0)).1) ∧ w.cell? ⟨g, off + i * 2 + 1, none⟩ = some (.int .i64 (l.getD i (0, 0)).2) := by
 rcases h with ⟨h, rfl⟩ | ⟨b, off, c, h, hc⟩
 ·simp at hi
 ·cases h
  refine ⟨rfl, b, off, rfl, ?_, ?_⟩
  ·have := hc (i * 2) _ (rcells_at l i hi).1
   exact this
  ·have := hc (i * 2 + 1) _ (rcells_at l i hi).2
   rw [← Nat.add_assoc] at this
   exact this
def okTo (l : RL) : Nat → Bool
 | 0 => true
 | i + 1 => okTo l i && decide (Runs.may (l.getD i (0, 0))) && (i == 0 || decide (Runs.fin (l.getD (i - 1) (0, 0)) < (l.getD i (0, 0)).1))
theorem info_run : (Tryz.prog.info? 223).map (fun i => (i.zero, i.size, i.bytes)) = some (some (.agg #[.int .i64 0, .int .i64 0]), 2, 16) := by kernel_rfl
theorem rcells_one (l : RL) : ∀ u ∈ rcells l, u.oneCell' = true := by
 intro u hu
 simp only [rcells, List.mem_flatMap] at hu
 obtain ⟨x, _, hx⟩ := hu
 simp at hx
 rcases hx with rfl | rfl <;> rfl
def OwnRuns (B : Nat) (w : World) (v : Value) (l : RL) : Prop := w.ownsRow B 223 2 v l.length (rcells l)
theorem OwnRuns.at {B : Nat} {w : World} {v : Value} {l : RL} (h : OwnRuns B w v l) : RunsAt w v l := RunsAt.own h
set_option maxHeartbeats 1000000 in
theorem clone_any (v : Value) (l : RL) (w : World) (h : RunsAt w v l) (hl : l.length ≤ 1000000000) : Calls Tryz.prog 161 #[v] w fun e w' => ∃ v', e = .returned v' ∧ OwnRuns w.heap.size w' v' l ∧ Below w.heap.size w w' := by
 obtain ⟨i0, hi0, hz0, hz1, hz2⟩ := info_parts info_run
 rcases h with ⟨rfl, rfl⟩ | ⟨b, off, cap, rfl, hc⟩
 ·have hnil : ∀ w : World, (binOp .eql 187 (.slice none 0 0) (.slice none 0 0)).run Tryz.prog w = .ok (.bool true) w := fun w => Lib.run_eql_slice_nil (P := Tryz.prog) w 187 223 none 0 0 0 0 Tryz.underlying187
  go_enter Tryz.func161, Tryz.ntmps161
  go_wp2_with fail
  go_ret
  exact ⟨_, rfl, World.ownsRow_nil _ _ _ _, Below.refl _ _⟩
 ·have hnil : ∀ w : World, (binOp .eql 187 (.slice (some ⟨b, off, none⟩) l.length cap) (.slice none 0 0)).run Tryz.prog w = .ok (.bool false) w := fun w => Lib.run_eql_slice_nil (P := Tryz.prog) w 187 223 (some ⟨b, off, none⟩) l.length cap 0 0 Tryz.underlying187
  have hnews : ∀ j u, (rcells l)[j]? = some u → (w.alloc (.cells #[] 223)).cell? ((⟨b, off, none⟩ : Addr).add j) = some u := fun j u hu => by
   have e1 : (⟨b, off, none⟩ : Addr).add j = ⟨b, off + j, none⟩ := by unfold Addr.add; split <;> simp_all
   rw [e1]
   have := hc j u hu
   exact Lib.cell?_alloc_some _ this
  have hown : (w.alloc (.cells #[] 223)).ownsRow w.heap.size 223 2 (.slice (some ⟨w.heap.size, 0, none⟩) 0 0) 0 [] := World.ownsRow_lit w #[] 0 (Nat.le_refl _) (Nat.zero_le _) rfl
  have hone := rcells_one l
  have hrl := rcells_length l
  have HH := hid hl
  clear hc
  go_enter Tryz.func161, Tryz.ntmps161
  go_wp2_with (first
   | (at_builtin; refine wpList_append_own _ rfl _ _ 187 rfl w.heap.size 223 i0 (.agg #[.int .i64 0, .int .i64 0]) 2 16 Tryz.underlying187 hi0 hz0 hz1 hz2 rfl (by decide) _ 0 _ rfl hown ⟨b, off, none⟩ l.length cap (rcells l) rfl hrl hnews hone (by have := HH.out; unfold maxLen; omega) (by have := HH.out; omega) (by simp) ?_))
  intro v' w1 hown1 hgrow _
  have hW : Hid (Below w.heap.size w w1) := hid (((Below.refl _ _).alloc (Nat.le_refl _) (.cells #[] 223)).grown hgrow (by simp) (fun k hk => by have := (hown.lt k hk).1; exact this))
  have hG : Hid (OwnRuns w.heap.size w1 v' l) := hid (by
   exact hown1)
  clear hown1 hgrow hown hnews
  go_wp2_with fail
  go_ret
  exact ⟨_, rfl, hG.out, hW.out⟩
theorem run_clear_runs {P : Program} (w : World) (t e ty : TypeId) (ht : P.underlying t = some (.slice e)) (hv : ∀ w, (zeroValue e).run P w = .ok (.agg #[.int .i64 0, .int .i64 0]) w) (b o n c : Nat) (hn : 0 < n)
  (hc : ∀ j, j < n * 2 → (w.cell? ⟨b, o + j, none⟩).isSome = true) (hf : ∀ j, j < n * 2 → w.frozen? ⟨b, o + j, none⟩ = false) :
  (Builtin.clear_ #[t] ty #[.slice (some ⟨b, o, none⟩) n c]).run P w = .ok (.tuple #[]) (w.setCells b o (List.replicate (n * 2) (.int .i64 0))) := by
 have hzc : (Builtin.zeroCells (Value.agg #[.int .i64 0, .int .i64 0]).cells n).toList = List.replicate (n * 2) (.int .i64 0) := by
  show (Builtin.zeroCells #[.int .i64 0, .int .i64 0] n).toList = _
  simp [Builtin.zeroCells]
  apply List.ext_getElem
  ·simp
  ·intro i h1 h2
   rcases Nat.mod_two_eq_zero_or_one i with h | h <;> simp [h]
 have hst := run_storeCells_cells (P := P) b o (List.replicate (n * 2) (.int .i64 0)) 0 w (by simpa using hc) (by simpa using hf) (by intro v hv'; rw [List.eq_of_mem_replicate hv']; rfl)
 simp only [Nat.add_zero] at hst
 obtain ⟨m, rfl⟩ : ∃ m, n = m + 1 := ⟨n - 1, by omega⟩
 simp [Builtin.clear_, run_underlying ht, hv, hzc, hst]
theorem rcells_set (l : RL) (i : Nat) (x : Int × Int) (h : i < l.length) : ((rcells l).set (i * 2) (.int .i64 x.1)).set (i * 2 + 1) (.int .i64 x.2) = rcells (l.set i x) := by
 induction l generalizing i with
 | nil => simp at h
 | cons r l ih =>
  have e : ∀ (r : Int × Int) (l : RL), rcells (r :: l) = .int .i64 r.1 :: .int .i64 r.2 :: rcells l := fun r l => by simp [rcells]
  cases i with
  | zero => rw [e]; simp [e]
  | succ i =>
   rw [e, show (i + 1) * 2 = i * 2 + 1 + 1 by omega]
   simp only [List.set_cons_succ]
   rw [ih i (by simpa using h), ← e]
structure Del (p : Int × Int → Bool) (l R : RL) (i j : Nat) : Prop where
 len : R.length = l.length
 head : R.take i = (l.take j).filter p
 tail : R.drop j = l.drop j
 le : i ≤ j
theorem Del.skip {p : Int × Int → Bool} {l R : RL} {i j : Nat} (h : Del p l R i j) (hj : j < l.length) (hp : p (l.getD j (0, 0)) = false) : Del p l R i (j + 1) := by
 have e : l.getD j (0, 0) = l[j] := by simp [List.getD, hj]
 rw [e] at hp
 refine ⟨h.len, ?_, ?_, by have := h.le; omega⟩
 ·rw [h.head, List.take_succ_eq_append_getElem hj, List.filter_append]
  simp [hp]
 ·have := congrArg (List.drop 1) h.tail
  simpa [List.drop_drop] using this
theorem Del.keep {p : Int × Int → Bool} {l R : RL} {i j : Nat} (h : Del p l R i j) (hj : j < l.length) (hp : p (l.getD j (0, 0)) = true) : Del p l (R.set i (l.getD j (0, 0))) (i + 1) (j + 1) := by
 have e : l.getD j (0, 0) = l[j] := by simp [List.getD, hj]
 rw [e] at hp ⊢
 have hiR : i < R.length := by rw [h.len]; have := h.le; omega
 refine ⟨by rw [List.length_set]; exact h.len, ?_, ?_, by have := h.le; omega⟩
 ·rw [List.take_succ_eq_append_getElem (by simpa using hiR), List.take_set_of_le (Nat.le_refl _), h.head, List.take_succ_eq_append_getElem hj, List.filter_append]
  simp [hp]
 ·rw [List.drop_set_of_lt (by have := h.le; omega)]
  have := congrArg (List.drop 1) h.tail
  simpa [List.drop_drop] using this
theorem Del.at {p : Int × Int → Bool} {l R : RL} {i j : Nat} (h : Del p l R i j) (hj : j < l.length) : R.getD j (0, 0) = l.getD j (0, 0) := by
 have := congrArg (fun (x : RL) => x[0]?) h.tail
 simp only [List.getElem?_drop, Nat.add_zero] at this
 simp only [List.getD, this]
def mayB (x : Int × Int) : Bool := decide (Runs.may x)
def firstBad (l : RL) (i : Nat) : Prop := i < l.length ∧ mayB (l.getD i (0, 0)) = false ∧ ∀ k, k < i → mayB (l.getD k (0, 0)) = true
set_option maxHeartbeats 1000000 in
theorem indexBad_any (g off cap : Nat) (l : RL) (w : World) (hs : Smalls l) (h : RunsAt w (.slice (some ⟨g, off, none⟩) l.length cap) l) (hl : l.length ≤ 1000000000) :
  Calls Tryz.prog 166 #[.slice (some ⟨g, off, none⟩) l.length cap, .func (.func 162) #[] #[]] w fun e w' => ∃ r : Int, e = .returned (.int .i64 r) ∧ ((r = -1 ∧ ∀ k, k < l.length → mayB (l.getD k (0, 0)) = true) ∨ ∃ i : Nat, r = i ∧ firstBad l i) ∧ Below w.heap.size w w' := by
 have H := hid h
 have hcl := hid (fun x (hx : Small x) w => normal1_any x hx w)
 have HS := hid hs
 clear h hs
 go_enter Tryz.func166, Tryz.ntmps166
 go_wp2_with fail
 go_loopw [8] (fun q wr => ∃ j : Nat, j ≤ l.length ∧ q = .int .i64 j ∧ Hid (∀ k, k < j → mayB (l.getD k (0, 0)) = true) ∧ Hid (Below w.heap.size w wr)) (fun q _ => l.length - (intOf q).toNat)
 case atStart => exact ⟨0, by omega, rfl, hid (fun k hk => absurd hk (Nat.not_lt_zero _)), hid (Below.refl _ _)⟩
 case round =>
  obtain ⟨j, hj, rfl, ha, hb⟩ := hrel
  by_cases hlt : j < l.length
  ·have i0 : (0 : Int) ≤ (j : Int) := by omega
   have i1 : (j : Int) < (l.length : Int) := by omega
   obtain ⟨_, g', off', e', c0, c1⟩ := (H.out.below (B := 0) hb.out).cells j hlt
   cases e'
   have hc := hid (fun w => hcl.out _ (HS.out.at j hlt) w)
   cases hm : mayB (l.getD j (0, 0))
   ·have hfb : Hid (firstBad l j) := hid ⟨hlt, hm, ha.out⟩
    have hm' : decide (Runs.may (l.getD j (0, 0))) = false := hm
    rw [hm'] at hc
    generalize l.getD j (0, 0) = x at *
    obtain ⟨xa, xb⟩ := x
    dsimp only at *
    clear hm hm'
    go_wp2_with fail
    refine (hc.out _).mono ?_
    rintro e w' ⟨rfl, hb'⟩
    have B2 := hid (hb.out.trans (hb'.mono hb.out.size))
    clear hb'
    go_wp2_with fail
    go_ret
    exact ⟨_, rfl, .inr ⟨j, rfl, hfb.out⟩, B2.out⟩
   ·have hm' : decide (Runs.may (l.getD j (0, 0))) = true := hm
    rw [hm'] at hc
    have ha' : Hid (∀ k, k < j + 1 → mayB (l.getD k (0, 0)) = true) := hid (fun k hk => by
     rcases Nat.lt_or_ge k j with h | h
     ·exact ha.out k h
     ·obtain rfl : k = j := by omega
      exact hm)
    generalize l.getD j (0, 0) = x at *
    obtain ⟨xa, xb⟩ := x
    dsimp only at *
    clear hm hm'
    go_wp2_with fail
    refine (hc.out _).mono ?_
    rintro e w' ⟨rfl, hb'⟩
    have B2 := hid (hb.out.trans (hb'.mono hb.out.size))
    clear hb'
    go_wp2_with fail
    go_roundw
    case rel => exact ⟨j + 1, by omega, by go_num, ha', B2⟩
    case measure => simp [intOf]; omega
  ·obtain rfl : j = l.length := by omega
   go_wp2_with fail
   go_ret
   exact ⟨_, rfl, .inl ⟨rfl, ha.out⟩, hb.out⟩
theorem indexNone_any (ad : Option Addr) (cap : Nat) (f : Value) (w : World) :
  Calls Tryz.prog 166 #[.slice ad 0 cap, f] w fun e w' => e = .returned (.int .i64 (-1)) ∧ w = w' := by
 go_enter Tryz.func166, Tryz.ntmps166
 go_wp2_with fail
 go_loopw [8] (fun q wr => q = .int .i64 0 ∧ w = wr) (fun _ _ => 0)
 case atStart => exact ⟨rfl, rfl⟩
 case round =>
  obtain ⟨rfl, rfl⟩ := hrel
  go_wp2_with fail
  go_ret
  exact ⟨rfl, rfl⟩
theorem filter_all (l : RL) (h : ∀ k, k < l.length → mayB (l.getD k (0, 0)) = true) : l.filter mayB = l := by
 rw [List.filter_eq_self]
 intro x hx
 obtain ⟨k, hk, rfl⟩ := List.getElem_of_mem hx
 have := h k hk
 simpa [List.getD, hk] using this
theorem Del.first (l : RL) (i : Nat) (h : firstBad l i) : Del mayB l l i (i + 1) := by
 have hi := h.1
 refine ⟨rfl, ?_, rfl, by omega⟩
 rw [List.take_succ_eq_append_getElem h.1, List.filter_append]
 have h1 : (l.take i).filter mayB = l.take i := by
  rw [List.filter_eq_self]
  intro x hx
  obtain ⟨k, hk, rfl⟩ := List.getElem_of_mem hx
  have hk' : k < i := by simp at hk; omega
  have := h.2.2 k hk'
  have h2 : k < l.length := by have := h.1; omega
  simpa [List.getD, h2] using this
 have h2 : mayB l[i] = false := by have := h.2.1; simpa [List.getD, h.1] using this
 rw [h1]
 simp [h2]
theorem own_cellAt2 {B n g cap : Nat} {T : TypeId} {w : World} {xs : List Value} (h : w.ownsRow B T 2 (.slice (some ⟨g, 0, none⟩) n cap) n xs) {j : Nat} {u : Value} (hu : xs[j]? = some u) : w.cell? ⟨g, j, none⟩ = some u := by
 have := h.cells rfl j u hu
 have hadd : (⟨g, 0, none⟩ : Addr).add j = ⟨g, j, none⟩ := by unfold Addr.add; split <;> simp_all
 rwa [hadd] at this
theorem own_free2 {B n g cap : Nat} {T : TypeId} {w : World} {xs : List Value} (h : w.ownsRow B T 2 (.slice (some ⟨g, 0, none⟩) n cap) n xs) (k : Nat) : w.frozen? ⟨g, k, none⟩ = false := by
 rcases h.2 with ⟨hv, _⟩ | ⟨g', cap', cur, hv, hb, hg, _⟩
 ·cases hv
 ·cases hv
  simp [World.frozen?, hg]
theorem own_set2 {B n g cap : Nat} {T : TypeId} {w : World} {xs : List Value} (h : w.ownsRow B T 2 (.slice (some ⟨g, 0, none⟩) n cap) n xs) (k : Nat) (u : Value) :
  (w.setCell ⟨g, k, none⟩ u).ownsRow B T 2 (.slice (some ⟨g, 0, none⟩) n cap) n (xs.set k u) := by
 obtain ⟨h1, h2⟩ := h
 refine ⟨by simpa using h1, ?_⟩
 rcases h2 with ⟨hv, _⟩ | ⟨g', cap', cur, hv, hb, hg, hc1, hc2, hsz, htk⟩
 ·cases hv
 ·cases hv
  refine .inr ⟨g, cap, cur.set! k u, rfl, hb, ?_, hc1, hc2, by simpa using hsz, ?_⟩
  ·have hlt := lt_of_block hg
   have h' : w.heap[g] = .cells cur T (0, 0) := by simpa [Array.getElem?_eq_getElem hlt] using hg
   show (w.heap.modify g _)[g]? = _
   rw [Array.getElem?_eq_getElem (by simpa using hlt), Array.getElem_modify_self, h']
   simp
  ·rw [← htk]
   simp [List.take_set]
theorem own_head2 {B n m g cap : Nat} {T : TypeId} {w : World} {l : RL} (h : w.ownsRow B T 2 (.slice (some ⟨g, 0, none⟩) n cap) n (rcells l)) (hm : m ≤ l.length) : w.ownsRow B T 2 (.slice (some ⟨g, 0, none⟩) m cap) m (rcells (l.take m)) := by
 have hln : l.length = n := by have := h.1; rw [rcells_length] at this; omega
 obtain ⟨h1, h2⟩ := h
 refine ⟨by rw [rcells_length, List.length_take]; omega, ?_⟩
 rcases h2 with ⟨hv, _⟩ | ⟨g', cap', cur, hv, hb, hg, hc1, hc2, hsz, htk⟩
 ·cases hv
 ·cases hv
  refine .inr ⟨g, cap, cur, rfl, hb, hg, by omega, hc2, hsz, ?_⟩
  have e : (cur.toList.take (n * 2)).take (m * 2) = (rcells l).take (m * 2) := by rw [htk]
  rw [List.take_take, Nat.min_eq_left (by omega)] at e
  rw [e]
  have hsp : rcells l = rcells (l.take m) ++ rcells (l.drop m) := by rw [← rcells_append, List.take_append_drop]
  rw [hsp, List.take_left' (by rw [rcells_length, List.length_take]; omega)]
theorem setCells_own2 {B g cap : Nat} {T : TypeId} : ∀ (vs : List Value) (o : Nat) (w : World) (m : Nat) (l : RL), m * 2 ≤ o → w.ownsRow B T 2 (.slice (some ⟨g, 0, none⟩) m cap) m (rcells l) → (w.setCells g o vs).ownsRow B T 2 (.slice (some ⟨g, 0, none⟩) m cap) m (rcells l)
 | [], _, _, _, _, _, h => h
 | v :: vs, o, w, m, l, ho, h => by
  have h2 := own_set2 h o v
  have hl : (rcells l).length = m * 2 := h.1
  rw [List.set_eq_of_length_le (by omega)] at h2
  exact setCells_own2 vs (o + 1) _ m l (by omega) h2
theorem setCells_below {B g : Nat} (hg : B ≤ g) {w0 : World} : ∀ (vs : List Value) (o : Nat) (w : World), Below B w0 w → Below B w0 (w.setCells g o vs)
 | [], _, _, h => h
 | v :: vs, o, w, h => setCells_below hg vs (o + 1) _ (h.setCell (by dsimp only; omega) v)
theorem own_keep2 {B n g cap : Nat} {T : TypeId} {w w' : World} {xs : List Value} (h : w.ownsRow B T 2 (.slice (some ⟨g, 0, none⟩) n cap) n xs) (he : g < w.heap.size → w'.heap[g]? = w.heap[g]?) : w'.ownsRow B T 2 (.slice (some ⟨g, 0, none⟩) n cap) n xs := by
 refine ⟨h.1, ?_⟩
 rcases h.2 with ⟨hv, _⟩ | ⟨g', cap', cur, hv, hg', hh, r⟩
 ·cases hv
 ·cases hv
  exact .inr ⟨g, cap, cur, rfl, hg', by rw [he (lt_of_block hh)]; exact hh, r⟩
theorem below_cell {B : Nat} {w w' : World} (h : Below B w w') (a : Addr) (ha : a.block < B) : w'.cell? a = w.cell? a := by
 unfold World.cell?
 rw [h.block a.block ha]
theorem own_belowR {B n z : Nat} {T : TypeId} {v : Value} {xs : List Value} {w w' : World} (h : w.ownsRow B T z v n xs) (hb : Below w.heap.size w w') : w'.ownsRow B T z v n xs :=
 ⟨h.1, h.2.imp id (fun ⟨g, cap, cur, hv, hg, hh, r⟩ => ⟨g, cap, cur, hv, hg, by rw [hb.block g (lt_of_block hh)]; exact hh, r⟩)⟩
theorem below_dr {B n : Nat} {w w' : World} (h : Below B w w') : Below B w (w'.drewN n) := ⟨h.os, h.tape, h.output, h.size, h.block⟩
theorem box_cell (w : World) (c : Array Value) (T : TypeId) (k : Nat) : (w.alloc (.cells c T)).cell? ⟨w.heap.size, k, none⟩ = c[k]? := World.cell?_alloc_at c T _ k rfl
theorem after_box {B g cap n : Nat} {w wr w3 : World} {R : RL} {o : Obj} (hb : Below B w wr) (ho : OwnRuns B wr (.slice (some ⟨g, 0, none⟩) n cap) R) (h3 : Below (wr.alloc o).heap.size (wr.alloc o) w3) (hB : B ≤ w.heap.size) (hsz : w.heap.size ≤ wr.heap.size) :
  OwnRuns B w3 (.slice (some ⟨g, 0, none⟩) n cap) R ∧ Below B w w3 ∧ w.heap.size ≤ w3.heap.size := by
 have ha : Below wr.heap.size wr (wr.alloc o) := (Below.refl _ _).alloc (Nat.le_refl _) o
 have hs : (wr.alloc o).heap.size = wr.heap.size + 1 := by simp
 have h4 : Below wr.heap.size wr w3 := ha.trans (h3.mono (by omega))
 refine ⟨?_, hb.trans (h4.mono (by omega)), Nat.le_trans hsz h4.size⟩
 have hn : n = R.length := by
  rcases ho.2 with ⟨hv, _⟩ | ⟨g', cap', cur, hv, _⟩
  ·cases hv
  ·cases hv; rfl
 subst hn
 exact own_keep2 ho (fun hlt => h4.block _ hlt)
set_option maxRecDepth 100000 in
set_option maxHeartbeats 2000000 in
theorem deleteBad_any (B : Nat) (v : Value) (l : RL) (w : World) (hs : Smalls l) (h : OwnRuns B w v l) (hl : l.length ≤ 1000000000) (hB : B ≤ w.heap.size) :
  Calls Tryz.prog 160 #[v, .func (.func 162) #[] #[]] w fun e w' => ∃ v', e = .returned v' ∧ OwnRuns B w' v' (l.filter mayB) ∧ Below B w w' := by
 by_cases h0 : l.length = 0
 ·obtain rfl := List.eq_nil_of_length_eq_zero h0
  obtain ⟨ad, cap, rfl, _⟩ : ∃ ad cap, v = .slice ad 0 cap ∧ True := by
   rcases h.2 with ⟨rfl, _⟩ | ⟨g, cap, cur, rfl, _⟩
   ·exact ⟨_, _, rfl, trivial⟩
   ·exact ⟨_, _, rfl, trivial⟩
  have hi := hid (fun f w => indexNone_any ad cap f w)
  have H := hid h
  clear h
  go_enter Tryz.func160, Tryz.ntmps160
  go_wp2_with fail
  refine (hi.out _ _).mono ?_
  rintro e w' ⟨rfl, rfl⟩
  go_wp2_with fail
  go_ret
  exact ⟨_, rfl, H.out, Below.refl _ _⟩
 obtain ⟨g, cap, rfl, hgB, hgl⟩ : ∃ g cap, v = .slice (some ⟨g, 0, none⟩) l.length cap ∧ B ≤ g ∧ g < w.heap.size := World.ownsRow.form h (by omega)
 have hi := hid (indexBad_any g 0 cap l w hs h.at hl)
 have hcl := hid (fun x (hx : Small x) w => normal1_any x hx w)
 have HS := hid hs
 have H := hid h
 have hcap : l.length ≤ cap ∧ cap ≤ 9223372036854775807 := by
  rcases h.2 with ⟨hv, _⟩ | ⟨g', cap', cur, hv, _, _, h1, h2, _⟩
  ·cases hv
  ·cases hv; exact ⟨h1, h2⟩
 clear h hs
 go_enter Tryz.func160, Tryz.ntmps160
 go_wp2_with fail
 refine hi.out.mono ?_
 rintro e w1 ⟨r, rfl, hr, b1⟩
 have B1 := hid (b1.mono hB)
 have O1 : Hid (OwnRuns B w1 (.slice (some ⟨g, 0, none⟩) l.length cap) l) := hid (by
  have := H.out
  exact ⟨this.1, by
   rcases this.2 with h2 | ⟨g', cap', cur, hv, hg', hh, r⟩
   ·exact .inl h2
   ·exact .inr ⟨g', cap', cur, hv, hg', by rw [b1.block g' (lt_of_block hh)]; exact hh, r⟩⟩)
 have hs1 := b1.size
 clear b1 hi
 rcases hr with ⟨rfl, hall⟩ | ⟨i, rfl, hfb⟩
 ·have hf : Hid (l.filter mayB = l) := hid (filter_all l hall)
  go_wp2_with fail
  go_ret
  exact ⟨_, rfl, by rw [hf.out]; exact O1.out, B1.out⟩
 ·have hd0 : Hid (Del mayB l l i (i + 1)) := hid (Del.first l i hfb)
  have hil := hfb.1
  have hne : ((i : Int) == -1) = false := by simp
  clear hfb
  go_wp2_with fail
  go_loopw [5, 6] (fun p q wr => ∃ (i j : Nat) (R : RL), i < j ∧ j ≤ l.length ∧ p = .int .i64 i ∧ q = .int .i64 j ∧ Hid (Del mayB l R i j) ∧ Hid (OwnRuns B wr (.slice (some ⟨g, 0, none⟩) l.length cap) R) ∧ Hid (Below B w wr) ∧ w.heap.size ≤ wr.heap.size) (fun _ q _ => l.length - (intOf q).toNat)
  case atStart => exact ⟨i, i + 1, l, by omega, by omega, rfl, rfl, hd0, O1, B1, hs1⟩
  case round =>
   obtain ⟨i, j, R, hij, hj, rfl, rfl, hd, ho, hb, hsz⟩ := hrel
   have hRl := hd.out.len
   by_cases hlt : j < l.length
   ·have i0 : (0 : Int) ≤ (j : Int) := by omega
    have i1 : (j : Int) < (l.length : Int) := by omega
    have hat := hd.out.at hlt
    obtain ⟨hll, g', off', e', c0, c1⟩ := (ho.out.at).cells j (by omega)
    clear hll
    cases e'
    rw [Nat.zero_add] at c0 c1
    rw [hat] at c0 c1
    have hgl' := Nat.lt_of_lt_of_le hgl hsz
    have hc := hid (hcl.out _ (HS.out.at j hlt))
    have hk := hid (fun h => hd.out.keep hlt h)
    have hsk := hid (fun h => hd.out.skip hlt h)
    clear hat hd
    cases hm : mayB (l.getD j (0, 0))
    ·have hsk' := hid (hsk.out hm)
     have hm' : decide (Runs.may (l.getD j (0, 0))) = false := hm
     rw [hm'] at hc
     clear hsk hk hm hm'
     generalize l.getD j (0, 0) = x at *
     obtain ⟨xa, xb⟩ := x
     dsimp only at *
     go_wp2_with fail
     refine (hc.out _).mono ?_
     rintro e w3 ⟨rfl, hb3⟩
     have F3 := after_box hb.out ho.out hb3 hB hsz
     clear hb3
     obtain ⟨O3, B3, z3⟩ := F3
     have O3 := hid O3
     have B3 := hid B3
     go_wp2_with fail
     go_roundw
     case rel => exact ⟨i, j + 1, R, by omega, by omega, rfl, by go_num, hsk', O3, B3, z3⟩
     case measure => simp [intOf]; omega
    ·have hk' := hid (hk.out hm)
     have hm' : decide (Runs.may (l.getD j (0, 0))) = true := hm
     rw [hm'] at hc
     clear hsk hk hm hm'
     generalize l.getD j (0, 0) = x at *
     obtain ⟨xa, xb⟩ := x
     dsimp only at *
     go_wp2_with fail
     refine (hc.out _).mono ?_
     rintro e w3 ⟨rfl, hb3⟩
     have F3 := after_box hb.out ho.out hb3 hB hsz
     have bx0 : w3.cell? ⟨wr.heap.size, 0, none⟩ = some (.int .i64 xa) := by
      rw [below_cell hb3 _ (by simp), box_cell]
      rfl
     have bx1 : w3.cell? ⟨wr.heap.size, 1, none⟩ = some (.int .i64 xb) := by
      rw [below_cell hb3 _ (by simp), box_cell]
      rfl
     clear hb3
     obtain ⟨O3, B3, z3⟩ := F3
     have o3 : w3.ownsRow B 223 2 (.slice (some ⟨g, 0, none⟩) l.length cap) l.length (rcells R) := by have := O3; unfold OwnRuns at this; rwa [hRl] at this
     obtain ⟨y0, e0⟩ : ∃ y, (rcells R)[i * 2]? = some y := ⟨_, List.getElem?_eq_getElem (by rw [rcells_length]; omega)⟩
     obtain ⟨y1, e1⟩ : ∃ y, (rcells R)[i * 2 + 1]? = some y := ⟨_, List.getElem?_eq_getElem (by rw [rcells_length]; omega)⟩
     have d0 := own_cellAt2 o3 e0
     have d1 := own_cellAt2 o3 e1
     have f0 := own_free2 o3 (i * 2)
     have f1 := own_free2 o3 (i * 2 + 1)
     have O4 : Hid (OwnRuns B ((w3.setCell ⟨g, i * 2, none⟩ (.int .i64 xa)).setCell ⟨g, i * 2 + 1, none⟩ (.int .i64 xb)) (.slice (some ⟨g, 0, none⟩) l.length cap) (R.set i (xa, xb))) := hid (by
      have := own_set2 (own_set2 o3 (i * 2) (.int .i64 xa)) (i * 2 + 1) (.int .i64 xb)
      rw [rcells_set R i (xa, xb) (by omega)] at this
      show World.ownsRow _ B _ 2 _ (R.set i (xa, xb)).length _
      rw [List.length_set, hRl]
      exact this)
     have B4 : Hid (Below B w ((w3.setCell ⟨g, i * 2, none⟩ (.int .i64 xa)).setCell ⟨g, i * 2 + 1, none⟩ (.int .i64 xb))) := hid ((B3.setCell hgB _).setCell hgB _)
     clear O3 B3 o3 e0 e1
     have i2 : (0 : Int) ≤ (i : Int) := by omega
     have i3 : (i : Int) < (l.length : Int) := by omega
     go_wp2_with fail
     go_roundw
     case rel => exact ⟨i + 1, j + 1, R.set i (xa, xb), by omega, by omega, by go_num, by go_num, hk', O4, B4, by simpa using z3⟩
     case measure => simp [intOf]; omega
   ·obtain rfl : j = l.length := by omega
    have ho' : wr.ownsRow B 223 2 (.slice (some ⟨g, 0, none⟩) l.length cap) l.length (rcells R) := by have := ho.out; unfold OwnRuns at this; rwa [hRl] at this
    have hclr : (Builtin.clear_ #[187] 0 #[Value.slice (some ⟨g, i * 2, none⟩) (l.length - i) (cap - i)]).run Tryz.prog wr = .ok (.tuple #[]) (wr.setCells g (i * 2) (List.replicate ((l.length - i) * 2) (.int .i64 0))) := by
     refine run_clear_runs wr _ 223 _ Tryz.underlying187 (fun _ => rfl) g (i * 2) (l.length - i) (cap - i) (by omega) (fun j hj => ?_) (fun j _ => own_free2 ho' _)
     have hjR : i * 2 + j < (rcells R).length := by rw [rcells_length]; omega
     rw [own_cellAt2 ho' (List.getElem?_eq_getElem hjR)]
     rfl
    have hfin : Hid (OwnRuns B (wr.setCells g (i * 2) (List.replicate ((l.length - i) * 2) (.int .i64 0))) (.slice (some ⟨g, 0, none⟩) i cap) (l.filter mayB)) := hid (by
     have e1 : R.take i = l.filter mayB := by have := hd.out.head; rwa [List.take_length] at this
     have h1 : wr.ownsRow B 223 2 (.slice (some ⟨g, 0, none⟩) i cap) i (rcells (R.take i)) := own_head2 (l := R) ho' (by omega)
     rw [e1] at h1
     have e2 : (l.filter mayB).length = i := by rw [← e1, List.length_take]; omega
     have h2 := setCells_own2 (List.replicate ((l.length - i) * 2) (.int .i64 0)) (i * 2) wr i (l.filter mayB) (Nat.le_refl _) h1
     show World.ownsRow _ B _ 2 _ (l.filter mayB).length _
     rw [e2]
     exact h2)
    have hfb : Hid (Below B w (wr.setCells g (i * 2) (List.replicate ((l.length - i) * 2) (.int .i64 0)))) := hid (setCells_below hgB _ _ _ hb.out)
    go_wp2_with fail
    go_ret
    exact ⟨_, rfl, hfin.out, hfb.out⟩
theorem put_len (l : RL) (s : Runs.Put) : (l.foldl Runs.pstep s).ahead.length + (l.foldl Runs.pstep s).behind.length ≤ s.ahead.length + s.behind.length + l.length := by
 induction l generalizing s with
 | nil => simp
 | cons y l ih =>
  have h1 : (Runs.pstep s y).ahead.length + (Runs.pstep s y).behind.length ≤ s.ahead.length + s.behind.length + 1 := by
   unfold Runs.pstep
   split
   ·simp only [List.length_append, List.length_cons, List.length_nil]; omega
   ·split
    ·simp only [List.length_append, List.length_cons, List.length_nil]; omega
    ·dsimp only; omega
  have := ih (Runs.pstep s y)
  simp only [List.foldl_cons, List.length_cons]
  omega
theorem putR_len (l : RL) (x : Int × Int) : (Runs.putR l x).length ≤ l.length + 1 := by
 have := put_len l ⟨[], x, []⟩
 unfold Runs.putR
 simp only [List.length_append, List.length_cons, List.length_nil] at this ⊢
 omega
theorem norm_len_from (l out : RL) : (l.foldl (fun out x => if Runs.may x then Runs.putR out x else out) out).length ≤ out.length + l.length := by
 induction l generalizing out with
 | nil => simp
 | cons x l ih =>
  simp only [List.foldl_cons, List.length_cons]
  refine Nat.le_trans (ih _) ?_
  split
  ·have := putR_len out x
   omega
  ·omega
theorem norm_len (l : RL) : (Runs.normR l).length ≤ l.length := by simpa [Runs.normR] using norm_len_from l []
end Go.Proofs.YtgjmeeiejcbjfaaGreat
