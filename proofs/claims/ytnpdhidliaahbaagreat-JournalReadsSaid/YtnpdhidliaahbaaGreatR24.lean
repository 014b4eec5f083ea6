/- Laws of the journal: lists of changes and of transactions that are the same. -/
import Derived.Test.YtnpdhidliaahbaaGreatR07
import Derived.Test.YtnpdhidliaahbaaGreatR23
import Derived.BigQuiet
set_option linter.unusedSimpArgs false
set_option linter.unusedVariables false
namespace Go.Proofs.YtnpdhidliaahbaaGreat
open Go.Lib (hid)
open Go Go.RowKit
theorem same_drewN (w : World) (n m : Nat) : (w.drewN n).drewN m = w.drewN (n + m) := by
 induction m with
 | zero => rfl
 | succ m ih => show ((w.drewN n).drewN m).drew = _; rw [ih]; rfl
theorem chg_ne (a : Int) (s : ByteArray) (w : World) : (binOp .neq 68 (.agg #[.int .i64 a, .string s]) (.agg #[.int .i64 a, .string s])).run Tryz.prog w = .ok (.bool false) w := by
 have u3 := Tryz.underlying3
 have a3 := Tryz.isAgg3
 have z3 := Tryz.sizeOf3
 have u9 := Tryz.underlying9
 have a9 := Tryz.isAgg9
 have z9 := Tryz.sizeOf9
 have hS : Tryz.prog.underlying 68 = some (.struct (Tryz.prog.fieldsOf 68)) := by kernel_rfl
 have hp : Tryz.prog.stoodInHeld 68 = false := by kernel_rfl
 rw [run_neq_struct, show (10000 : Nat) = 9999 + 1 from rfl, run_equalIn_agg w 9999 68 _ _ hS hp]
 simp only [Program.fieldsOf, Tryz.underlying68]
 go_simp
theorem ints_same (w : World) (v1 v2 : Value) (l : List Int) (h1 : IntsAt w v1 l) (h2 : IntsAt w v2 l) (hl : l.length ≤ 1000000000) :
  Calls Tryz.prog 35 #[v1, v2] w fun e w' => e = .returned (.bool true) ∧ ∃ n, w' = w.drewN n := by
 have H1 := hid h1
 have H2 := hid h2
 obtain ⟨a1, c1, rfl⟩ := h1.form
 obtain ⟨a2, c2, rfl⟩ := h2.form
 clear h1 h2
 go_enter Tryz.func35, Tryz.ntmps35
 go_wp2_with fail
 go_loopw [5] (fun q wr => ∃ (j : Nat), j ≤ l.length ∧ q = .int .i64 j ∧ Hid (∃ n, wr = w.drewN n)) (fun q _ => l.length - (intOf q).toNat)
 case atStart => exact ⟨0, by omega, rfl, hid ⟨0, rfl⟩⟩
 case round =>
  obtain ⟨j, hj, rfl, hn⟩ := hrel
  by_cases hlt : j < l.length
  ·have i1 : (j : Int) < (l.length : Int) := by omega
   have i0 : (0 : Int) ≤ (j : Int) := by omega
   have hb : Below w.heap.size w wr := by obtain ⟨n, rfl⟩ := hn.out; exact below_drewN (Below.refl _ _) n
   obtain ⟨u, hu⟩ : ∃ u, (icells l)[j]? = some u ∧ u = .int .i64 l[j] := ⟨_, by unfold icells; rw [List.getElem?_map, List.getElem?_eq_getElem hlt]; rfl, rfl⟩
   obtain ⟨hu, rfl⟩ := hu
   have H1' := H1.out.below hb
   have H2' := H2.out.below hb
   rcases H1' with ⟨e1, e2⟩ | ⟨g, off, k1, e1, q1⟩
   ·rw [e2] at hlt; exact absurd hlt (Nat.not_lt_zero _)
   rcases H2' with ⟨e3, e4⟩ | ⟨g2, off2, k2, e3, q2⟩
   ·rw [e4] at hlt; exact absurd hlt (Nat.not_lt_zero _)
   have d1 := q1 j _ hu
   have d2 := q2 j _ hu
   cases e1
   cases e3
   generalize l[j] = X at *
   have HNX := hid (fun m => show ∃ n, wr.drewN m = w.drewN n from by obtain ⟨n, rfl⟩ := hn.out; exact ⟨_, same_drewN w n m⟩)
   clear q1 q2 hu
   go_wp2_with fail
   go_quiet (fail)
   go_wp2_with fail
   go_roundw
   case rel => exact ⟨j + 1, by omega, by go_num, hid (HNX.out _)⟩
   case measure => simp [intOf]; omega
  ·obtain rfl : j = l.length := by omega
   go_wp2_with fail
   go_ret
   exact ⟨rfl, hn.out⟩
theorem chgs_same (w : World) (v1 v2 : Value) (l : List Jr.Chg) (h1 : ChgsAt w v1 l) (h2 : ChgsAt w v2 l) (hl : l.length ≤ 1000000000) :
  Calls Tryz.prog 78 #[v1, v2] w fun e w' => e = .returned (.bool true) ∧ ∃ n, w' = w.drewN n := by
 have H1 := hid h1
 have H2 := hid h2
 obtain ⟨a1, c1, rfl⟩ := h1.form
 obtain ⟨a2, c2, rfl⟩ := h2.form
 clear h1 h2
 have hne := fun a s w => chg_ne a s w
 go_enter Tryz.func78, Tryz.ntmps78
 go_wp2_with fail
 go_loopw [5] (fun q wr => ∃ (j : Nat), j ≤ l.length ∧ q = .int .i64 j ∧ Hid (∃ n, wr = w.drewN n)) (fun q _ => l.length - (intOf q).toNat)
 case atStart => exact ⟨0, by omega, rfl, hid ⟨0, rfl⟩⟩
 case round =>
  obtain ⟨j, hj, rfl, hn⟩ := hrel
  by_cases hlt : j < l.length
  ·have i1 : (j : Int) < (l.length : Int) := by omega
   have i0 : (0 : Int) ≤ (j : Int) := by omega
   have hb : Below w.heap.size w wr := by obtain ⟨n, rfl⟩ := hn.out; exact below_drewN (Below.refl _ _) n
   obtain ⟨c, hc⟩ : ∃ c, l[j]? = some c := ⟨_, List.getElem?_eq_getElem hlt⟩
   obtain ⟨g, off, e1, d1, d2⟩ := (H1.out.below hb).cells hc
   obtain ⟨g2, off2, e2, d3, d4⟩ := (H2.out.below hb).cells hc
   cases e1
   cases e2
   obtain ⟨X, Y⟩ := c
   dsimp only at *
   have HNX := hid (fun m => show ∃ n, wr.drewN m = w.drewN n from by obtain ⟨n, rfl⟩ := hn.out; exact ⟨_, same_drewN w n m⟩)
   clear hc
   go_wp2_with fail
   go_quiet (fail)
   go_wp2_with fail
   go_roundw
   case rel => exact ⟨j + 1, by omega, by go_num, hid (HNX.out _)⟩
   case measure => simp [intOf]; omega
  ·obtain rfl : j = l.length := by omega
   go_wp2_with fail
   go_ret
   exact ⟨rfl, hn.out⟩
theorem txns_same (w : World) (v1 v2 : Value) (l : List Jr.Txn) (h1 : TxnsAt w v1 l) (h2 : TxnsAt w v2 l) (hl : l.length ≤ 1000000000) (hll : ∀ t ∈ l, t.ch.length ≤ 1000000000 ∧ t.rv.length ≤ 1000000000) :
  Calls Tryz.prog 26 #[v1, v2] w fun e w' => e = .returned (.bool true) ∧ ∃ n, w' = w.drewN n := by
 have H1 := hid h1
 have H2 := hid h2
 have HLL := hid hll
 obtain ⟨a1, c1, rfl⟩ := h1.form
 obtain ⟨a2, c2, rfl⟩ := h2.form
 clear h1 h2 hll
 go_enter Tryz.func26, Tryz.ntmps26
 go_wp2_with fail
 go_loopw [5] (fun q wr => ∃ (j : Nat), j ≤ l.length ∧ q = .int .i64 j ∧ Hid (∃ n, wr = w.drewN n)) (fun q _ => l.length - (intOf q).toNat)
 case atStart => exact ⟨0, by omega, rfl, hid ⟨0, rfl⟩⟩
 case round =>
  obtain ⟨j, hj, rfl, hn⟩ := hrel
  by_cases hlt : j < l.length
  ·have i1 : (j : Int) < (l.length : Int) := by omega
   have i0 : (0 : Int) ≤ (j : Int) := by omega
   have hb : Below w.heap.size w wr := by obtain ⟨n, rfl⟩ := hn.out; exact below_drewN (Below.refl _ _) n
   obtain ⟨t, ht⟩ : ∃ t, l[j]? = some t := ⟨_, List.getElem?_eq_getElem hlt⟩
   obtain ⟨g, off, vc, vr, e1, d1, d2, k1, k2⟩ := (H1.out.below hb).cells ht
   obtain ⟨g2, off2, vc2, vr2, e2, d3, d4, k3, k4⟩ := (H2.out.below hb).cells ht
   cases e1
   cases e2
   have hL := HLL.out t (List.mem_of_getElem? ht)
   have qC := hid (fun m => chgs_same (wr.drewN m) vc vc2 t.ch (k1.below (below_drewN (Below.refl _ _) m)) (k3.below (below_drewN (Below.refl _ _) m)) hL.1)
   have qI := hid (fun m => ints_same (wr.drewN m) vr vr2 t.rv (k2.below (below_drewN (Below.refl _ _) m)) (k4.below (below_drewN (Below.refl _ _) m)) hL.2)
   have HNX := hid (fun m => show ∃ n, wr.drewN m = w.drewN n from by obtain ⟨n, rfl⟩ := hn.out; exact ⟨_, same_drewN w n m⟩)
   obtain ⟨ac1, cc1, rfl⟩ := k1.form
   obtain ⟨ac2, cc2, rfl⟩ := k2.form
   obtain ⟨ac3, cc3, rfl⟩ := k3.form
   obtain ⟨ac4, cc4, rfl⟩ := k4.form
   clear k1 k2 k3 k4 ht hL
   go_wp2_with fail
   go_quiet ((first | (go_at_call 78; exact Calls.quiet_of (qC.out _)) | (go_at_call 35; exact Calls.quiet_of (qI.out _))))
   go_wp2_with fail
   go_roundw
   case rel => exact ⟨j + 1, by omega, by go_num, hid (HNX.out _)⟩
   case measure => simp [intOf]; omega
  ·obtain rfl : j = l.length := by omega
   go_wp2_with fail
   go_ret
   exact ⟨rfl, hn.out⟩
theorem fill_any (x : UInt8) (w : World) : Calls Tryz.prog 45 #[bval x] w fun e w' => e = .returned (.string (blk x)) ∧ Below w.heap.size w w' := by
 have q := hid (blk_any x w)
 unfold bval at *
 go_enter Tryz.func45, Tryz.ntmps45
 go_wp2_with fail
 refine q.out.mono ?_
 rintro e w1 ⟨rfl, hb⟩
 go_wp2_with fail
 go_ret
 exact ⟨rfl, hb⟩
def LogTold (Bd db lb : Nat) (y : Lay) (g : Geo.G) (E : Int) (D' : Dev) (V' : LogV) (w : World) (e : Ending) (w' : World) : Prop := e = .returned (.int .i64 E) ∧ DevAt Bd w' db y D' ∧ LogAt lb db g V' w' ∧ Only (lb :: devB db y) w w'
theorem DevAt.log {Bd db : Nat} {w : World} {y : Lay} {D : Dev} (h : DevAt Bd w db y D) (lb k : Nat) (u : Value) (hlb : lb ∉ devB db y) : DevAt Bd (w.setCell ⟨lb, k, none⟩ u) db y D := by
 unfold devB at hlb
 simp only [List.mem_cons, List.not_mem_nil, or_false, not_or] at hlb
 obtain ⟨h1, h2, h3, h4⟩ := hlb
 exact ⟨h.own, h.cells.other (a := ⟨lb, k, none⟩) h1 _, ownsRow_setCell_other h.kept (by simp [Value.ownBlock]; exact Ne.symm h2) _, ownsRow_setCell_other h.now (by simp [Value.ownBlock]; exact Ne.symm h3) _, ownsRow_setCell_other h.pend (by simp [Value.ownBlock]; exact Ne.symm h4) _, h.ne, h.pos, h.left, h.acts⟩
end Go.Proofs.YtnpdhidliaahbaaGreat
