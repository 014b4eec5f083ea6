/- Forks: the blocks that an asker was told. -/
import Derived.Test.YtgjmeeiejcbjfaaGreatH17
import Derived.Test.YtgjmeeiejcbjfaaGreatH18
import Derived.Test.YtgjmeeiejcbjfaaGreatH12
set_option linter.unusedSimpArgs false
set_option linter.unusedVariables false
namespace Go.Proofs.YtgjmeeiejcbjfaaGreat
open Go.Lib (hid)
open Go Go.RowKit
def Forks.blockT (T : IL) (b : Int) : Int := if b < 0 then T.getD (-b).toNat 0 else b
def Forks.knownT (T : IL) (leaf : Bool) (l : EL) : EL := if leaf then l else l.map fun x => (x.1, Forks.blockT T x.2.1, x.2.2)
theorem ablock_any (A : Nat) (T : IL) (tv : Value) (b : Int) (w : World) (hA : w.cell? ⟨A, 3, none⟩ = some tv) (hT : IntsAt w tv T) (h1 : -1000000 ≤ b) (h1' : b ≤ 1000000000000) (h2 : b < 0 → (-b).toNat < T.length) :
  Calls Tryz.prog 116 #[.pointer (some ⟨A, 0, none⟩), .int .i64 b] w fun e w' => e = .returned (.int .i64 (Forks.blockT T b)) ∧ w' = w := by
 by_cases hb : b < 0
 ·obtain ⟨k, rfl⟩ : ∃ k : Nat, b = -(k : Int) := ⟨(-b).toNat, by omega⟩
  have h3 := h2 hb
  have e : (-(-(k : Int))).toNat = k := by omega
  rw [e] at h3
  obtain ⟨ad, cap, rfl⟩ := hT.form
  obtain ⟨g, off, rfl, c0⟩ := hT.cells k h3
  have HR : Hid (Forks.blockT T (-(k : Int)) = T.getD k 0) := hid (by rw [Forks.blockT, if_pos hb, e])
  have i0 : (0 : Int) ≤ (k : Int) := by omega
  have i1 : (k : Int) < (T.length : Int) := by omega
  have hneg : IntKind.i64.wrap (-(-(k : Int))) = k := by simp [IntKind.wrap_i64]; omega
  generalize T.getD k 0 = y at *
  clear h2 e hT
  go_enter Tryz.func116, Tryz.ntmps116
  go_wp2_with fail
  go_ret
  exact ⟨by rw [HR.out]; rfl, rfl⟩
 ·have HR : Hid (Forks.blockT T b = b) := hid (by rw [Forks.blockT, if_neg hb])
  have hb' : 0 ≤ b := by omega
  clear h2
  go_enter Tryz.func116, Tryz.ntmps116
  go_wp2_with fail
  go_ret
  exact ⟨by rw [HR.out]; rfl, rfl⟩
end Go.Proofs.YtgjmeeiejcbjfaaGreat
namespace Go.Proofs.YtgjmeeiejcbjfaaGreat
open Go.Lib (hid)
open Go Go.RowKit
theorem own_cellK {B n g cap z : Nat} {T : TypeId} {w : World} {xs : List Value} (h : w.ownsRow B T z (.slice (some ⟨g, 0, none⟩) n cap) n xs) {j : Nat} {u : Value} (hu : xs[j]? = some u) : w.cell? ⟨g, j, none⟩ = some u := by
 have := h.cells rfl j u hu
 have hadd : (⟨g, 0, none⟩ : Addr).add j = ⟨g, j, none⟩ := by unfold Addr.add; split <;> simp_all
 rwa [hadd] at this
theorem own_freeK {B n g cap z : Nat} {T : TypeId} {w : World} {xs : List Value} (h : w.ownsRow B T z (.slice (some ⟨g, 0, none⟩) n cap) n xs) (k : Nat) : w.frozen? ⟨g, k, none⟩ = false := by
 rcases h.2 with ⟨hv, _⟩ | ⟨g', cap', cur, hv, hb, hg, _⟩
 ·cases hv
 ·cases hv
  simp [World.frozen?, hg]
theorem own_setK {B n g cap z : Nat} {T : TypeId} {w : World} {xs : List Value} (h : w.ownsRow B T z (.slice (some ⟨g, 0, none⟩) n cap) n xs) (k : Nat) (u : Value) :
  (w.setCell ⟨g, k, none⟩ u).ownsRow B T z (.slice (some ⟨g, 0, none⟩) n cap) n (xs.set k u) := by
 obtain ⟨h1, h2⟩ := h
 refine ⟨by simpa using h1, ?_⟩
 rcases h2 with ⟨hv, _⟩ | ⟨g', cap', cur, hv, hb, hg, hc1, hc2, hsz, htk⟩
 ·cases hv
 ·cases hv
  refine .inr ⟨g, cap, cur.set! k u, rfl, hb, ?_, hc1, hc2, by simpa using hsz, ?_⟩
  ·have hlt := lt_of_block hg
   have h' : w.heap[g] = .cells cur T (0, 0) := by simpa [Array.getElem?_eq_getElem hlt] using hg
   show (w.heap.modify g _)[g]? = _
   rw [Array.getElem?_eq_getElem (by simpa using hlt), Array.getElem_modify_self, h']
   simp
  ·rw [← htk]
   simp [List.take_set]
theorem ecells_setP : ∀ (l : EL) (i : Nat) (v : Int), i < l.length → (ecells l).set (i * 3 + 1) (.int .i64 v) = ecells (l.set i ((l.getD i (0, 0, 0)).1, v, (l.getD i (0, 0, 0)).2.2))
 | [], i, x, h => by simp at h
 | y :: l, 0, x, _ => by simp [ecells]
 | y :: l, i + 1, x, h => by
  have e : ∀ (y : Exts.E) (l : EL), ecells (y :: l) = .int .i64 y.1 :: .int .i64 y.2.1 :: .int .i64 y.2.2 :: ecells l := fun y l => by simp [ecells]
  have ih := ecells_setP l i x (by simpa using h)
  rw [e, show (i + 1) * 3 + 1 = i * 3 + 1 + 1 + 1 + 1 by omega]
  simp only [List.set_cons_succ, List.getD_cons_succ]
  rw [ih, ← e]
namespace Forks
open Go.Lib (hid)
def kf (T : IL) (x : Exts.E) : Exts.E := (x.1, blockT T x.2.1, x.2.2)
def kn (T : IL) (l : EL) (j : Nat) : EL := (l.take j).map (kf T) ++ l.drop j
theorem kn_len (T : IL) (l : EL) (j : Nat) (h : j ≤ l.length) : (kn T l j).length = l.length := by simp [kn]; omega
theorem kn_get (T : IL) (l : EL) (j : Nat) (h : j < l.length) : (kn T l j).getD j (0, 0, 0) = l.getD j (0, 0, 0) := by
 have e : ((l.take j).map (kf T)).length = j := by simp; omega
 simp only [kn, List.getD]
 rw [List.getElem?_append_right (by omega), e, Nat.sub_self, List.getElem?_drop, Nat.add_zero]
theorem kn_set (T : IL) (l : EL) (j : Nat) (h : j < l.length) : (kn T l j).set j (kf T (l.getD j (0, 0, 0))) = kn T l (j + 1) := by
 have e : ((l.take j).map (kf T)).length = j := by simp; omega
 simp only [kn]
 rw [List.set_append_right _ _ (by omega), e, Nat.sub_self, List.take_succ_eq_append_getElem h, List.map_append, List.append_assoc]
 congr 1
 rw [List.drop_eq_getElem_cons h, List.set_cons_zero]
 simp [List.getD, h]
theorem kn_zero (T : IL) (l : EL) : kn T l 0 = l := by simp [kn]
theorem kn_all (T : IL) (l : EL) : kn T l l.length = knownT T false l := by
 show (l.take l.length).map (kf T) ++ l.drop l.length = l.map (kf T)
 simp
end Forks
def AskOk (T : IL) (b : Int) : Prop := -1000000 ≤ b ∧ b ≤ 1000000000000 ∧ (b < 0 → (-b).toNat < T.length)
set_option maxRecDepth 100000 in
set_option maxHeartbeats 4000000 in
theorem known_any (A : Nat) (T : IL) (tv v : Value) (l : EL) (leaf : Bool) (w : World) (hA : w.cell? ⟨A, 3, none⟩ = some tv) (hT : IntsAt w tv T) (h : EntsAt w v l) (hl : l.length ≤ 1000000) (hb : leaf = false → ∀ x ∈ l, AskOk T x.2.1) :
  Calls Tryz.prog 115 #[.pointer (some ⟨A, 0, none⟩), v, .bool leaf] w fun e w' => ∃ v', e = .returned v' ∧ OwnEnts w.heap.size w' v' (Forks.knownT T leaf l) ∧ Below w.heap.size w w' := by
 have q := hid (nclone_any v l w h.ext (by omega))
 have hAlt : A < w.heap.size := World.block_lt_of_cell? _ _ hA
 have HA := hid hA
 have HT := hid hT
 clear hA hT h
 cases leaf
 ·have HB := hid (hb rfl)
  clear hb
  go_enter Tryz.func115, Tryz.ntmps115
  go_wp2_with fail
  refine q.out.mono ?_
  rintro e w1 ⟨u, rfl, ho1, hb1⟩
  obtain ⟨au, cu, rfl⟩ := ho1.slice
  have HO1 := hid ho1
  have HB1 := hid hb1
  clear ho1 hb1 q
  go_wp2_with fail
  go_loopw [12] (fun q wr => ∃ j : Nat, q = .int .i64 j ∧ j ≤ l.length ∧ Hid (wr.ownsRow w.heap.size 31 3 (.slice au l.length cu) l.length (ecells (Forks.kn T l j))) ∧ Hid (Below w.heap.size w wr)) (fun q _ => l.length - (intOf q).toNat)
  case atStart => exact ⟨0, rfl, by omega, hid (by rw [Forks.kn_zero]; exact HO1.out), HB1⟩
  case round =>
   obtain ⟨j, rfl, hj, ho, hb⟩ := hrel
   by_cases hlt : j < l.length
   ·have i0 : (0 : Int) ≤ (j : Int) := by omega
    have i1 : (j : Int) < (l.length : Int) := by omega
    obtain ⟨g, rfl, hgB⟩ : ∃ g, au = some ⟨g, 0, none⟩ ∧ w.heap.size ≤ g := by
     rcases ho.out.2 with ⟨hv, hn⟩ | ⟨g', cap', cur, hv, hb, hg, _⟩
     ·omega
     ·cases hv; exact ⟨g', rfl, hb⟩
    have hx := HB.out (l.getD j (0, 0, 0)) (by rw [List.getD, List.getElem?_eq_getElem hlt]; exact List.getElem_mem _)
    have c1 : wr.cell? ⟨g, j * 3 + 1, none⟩ = some (.int .i64 (l.getD j (0, 0, 0)).2.1) := own_cellK ho.out (by
     have := (ecells_at (Forks.kn T l j) j (by rw [Forks.kn_len _ _ _ hj]; exact hlt)).2.1
     rwa [Forks.kn_get _ _ _ hlt] at this)
    have f1 : wr.frozen? ⟨g, j * 3 + 1, none⟩ = false := own_freeK ho.out _
    have HO2 := hid (show (wr.setCell ⟨g, j * 3 + 1, none⟩ (.int .i64 (Forks.blockT T (l.getD j (0, 0, 0)).2.1))).ownsRow w.heap.size 31 3 (.slice (some ⟨g, 0, none⟩) l.length cu) l.length (ecells (Forks.kn T l (j + 1))) from by
     have h1 := own_setK ho.out (j * 3 + 1) (.int .i64 (Forks.blockT T (l.getD j (0, 0, 0)).2.1))
     rw [ecells_setP _ _ _ (by rw [Forks.kn_len _ _ _ hj]; exact hlt), Forks.kn_get _ _ _ hlt] at h1
     have h2 := Forks.kn_set T l j hlt
     unfold Forks.kf at h2
     rw [h2] at h1
     exact h1)
    have HB2 := hid (show Below w.heap.size w (wr.setCell ⟨g, j * 3 + 1, none⟩ (.int .i64 (Forks.blockT T (l.getD j (0, 0, 0)).2.1))) from hb.out.setCell hgB _)
    have q2 := hid (ablock_any A T tv (l.getD j (0, 0, 0)).2.1 wr ((hb.out.cell (p := ⟨A, 3, none⟩) hAlt).trans HA.out) (HT.out.below hb.out) hx.1 hx.2.1 hx.2.2)
    generalize (l.getD j (0, 0, 0)).2.1 = y at *
    generalize Forks.blockT T y = z at *
    clear hx ho hb
    go_wp2_with fail
    refine q2.out.mono ?_
    rintro e w2 ⟨rfl, rfl⟩
    go_wp2_with fail
    go_roundw
    case rel => exact ⟨j + 1, by go_num, by omega, HO2, HB2⟩
    case measure => simp [intOf]; omega
   ·obtain rfl : j = l.length := by omega
    have hK : Hid (OwnEnts w.heap.size wr (.slice au l.length cu) (Forks.knownT T false l)) := hid (by
     have := ho.out
     rw [Forks.kn_all] at this
     unfold OwnEnts
     have e : (Forks.knownT T false l).length = l.length := by simp [Forks.knownT]
     rw [e]; exact this)
    clear ho
    go_wp2_with fail
    go_ret
    exact ⟨_, rfl, hK.out, hb.out⟩
 ·clear hb
  go_enter Tryz.func115, Tryz.ntmps115
  go_wp2_with fail
  refine q.out.mono ?_
  rintro e w1 ⟨u, rfl, ho1, hb1⟩
  obtain ⟨au, cu, rfl⟩ := ho1.slice
  have HO1 := hid ho1
  have HB1 := hid hb1
  clear ho1 hb1 q
  go_wp2_with fail
  go_loopw [12] (fun q wr => ∃ j : Nat, q = .int .i64 j ∧ j ≤ l.length ∧ Hid (OwnEnts w.heap.size wr (.slice au l.length cu) l) ∧ Hid (Below w.heap.size w wr)) (fun q _ => l.length - (intOf q).toNat)
  case atStart => exact ⟨0, rfl, by omega, HO1, HB1⟩
  case round =>
   obtain ⟨j, rfl, hj, ho, hb⟩ := hrel
   by_cases hlt : j < l.length
   ·have i0 : (0 : Int) ≤ (j : Int) := by omega
    have i1 : (j : Int) < (l.length : Int) := by omega
    go_wp2_with fail
    go_roundw
    case rel => exact ⟨j + 1, by go_num, by omega, ho, hb⟩
    case measure => simp [intOf]; omega
   ·obtain rfl : j = l.length := by omega
    go_wp2_with fail
    go_ret
    exact ⟨_, rfl, ho.out, hb.out⟩
end Go.Proofs.YtgjmeeiejcbjfaaGreat
