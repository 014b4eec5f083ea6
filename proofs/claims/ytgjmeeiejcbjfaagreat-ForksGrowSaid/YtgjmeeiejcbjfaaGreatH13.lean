/- The walker: node. (Printed by wip/gen/fnode.py.) -/
import Derived.Test.YtgjmeeiejcbjfaaGreatH12
set_option linter.unusedSimpArgs false
set_option linter.unusedVariables false
namespace Go.Proofs.YtgjmeeiejcbjfaaGreat
open Go.Lib (hid)
open Go Go.RowKit
def WOut (B X : Nat) (w : World) (rdv : Value) (d : Nat) (r : Except Int Forks.V) (e : Ending) (w' : World) : Prop :=
 Below B w w' ∧ KeepE w w' ∧ match r with
  | .error k => e = .returned (.int .i64 k) ∧ k ≠ 0
  | .ok v => e = .returned (.int .i64 0) ∧ WAt B X w' rdv d v ∧ Forks.Good v
theorem WOut.err {B X : Nat} {w w' : World} {rdv : Value} {d : Nat} {r : Except Int Forks.V} {k : Int} (hr : r = .error k) (hk : k ≠ 0) (hb : Below B w w' ∧ KeepE w w') : WOut B X w rdv d r (.returned (.int .i64 k)) w' := by
 subst hr; exact ⟨hb.1, hb.2, rfl, hk⟩
theorem WOut.ok {B X : Nat} {w w' : World} {rdv : Value} {d : Nat} {r : Except Int Forks.V} {v : Forks.V} (hr : r = .ok v) (hb : Below B w w' ∧ KeepE w w') (hw : WAt B X w' rdv d v) (hg : Forks.Good v) : WOut B X w rdv d r (.returned (.int .i64 0)) w' := by
 subst hr; exact ⟨hb.1, hb.2, rfl, hw, hg⟩
theorem WOut.trans {B X : Nat} {w w1 w' : World} {rdv : Value} {d : Nat} {r : Except Int Forks.V} {e : Ending} (hb : Below B w w1 ∧ KeepE w w1) (h : WOut B X w1 rdv d r e w') : WOut B X w rdv d r e w' :=
 ⟨hb.1.trans h.1, hb.2.trans h.2.1, h.2.2⟩
theorem run_equalIn_func_nil {P : Program} (w : World) (d : Nat) (t : TypeId) (f : Fn) (x y : Array Value) (ps rs : Array TypeId) (vd : Bool) (h : P.underlying t = some (.func ps rs vd)) : (Op.equalIn (d + 1) t (.func f x y) .nilFunc).run P w = .ok false w := by
 simp [Op.equalIn, run_underlying h]
theorem run_equal_func_nil {P : Program} (w : World) (t : TypeId) (f : Fn) (x y : Array Value) (ps rs : Array TypeId) (vd : Bool) (h : P.underlying t = some (.func ps rs vd)) : (Op.equal t (.func f x y) .nilFunc).run P w = .ok false w := run_equalIn_func_nil w 9999 t f x y ps rs vd h
theorem run_read_nil (pl pb : Nat) (w : World) : (binOp .eql 103 (.func (.func 49) #[] #[.pointer (some ⟨pl, 0, none⟩), .pointer (some ⟨pb, 0, none⟩)]) .nilFunc).run Tryz.prog w = .ok (.bool false) w := by
 simp [binOp, run_equal_func_nil w _ _ _ _ _ _ _ Tryz.underlying103]
structure NSt (B X Lb Tb Y : Nat) (w : World) (rdv : Value) (dk : Forks.Disk) (lv : List Value) (rv : Value) (TX : List ByteArray) (LV : Nat → List Node) (R : EL) (xa : Int) (b : Nat) (wz : World) : Prop where
 raw : WRaw B X Lb Tb wz rdv lv rv TX LV R
 bel : Below B w wz ∧ KeepE w wz
 box : wz.heap[Y]? = some (.cells #[.int .i64 xa, .int .i64 b, .int .i64 0] 31 (0, 0))
 dk : DiskAt B wz rdv dk
variable {B X Lb Tb Y : Nat} {w wz wy : World} {rdv rv : Value} {dk : Forks.Disk} {lv : List Value} {TX : List ByteArray} {LV : Nat → List Node} {R : EL} {xa : Int} {b : Nat}
theorem NSt.below (h : NSt B X Lb Tb Y w rdv dk lv rv TX LV R xa b wz) (hB : B ≤ w.heap.size) (hb : Below wz.heap.size wz wy) : NSt B X Lb Tb Y w rdv dk lv rv TX LV R xa b wy :=
 have h1 := h.bel.1.size
 ⟨h.raw.below hb, ⟨h.bel.1.trans (hb.mono (by omega)), h.bel.2.trans (.of_below hb)⟩, KeepE.of_below hb _ _ _ h.box, h.dk.below (hb.mono (by omega))⟩
theorem NSt.drewN (h : NSt B X Lb Tb Y w rdv dk lv rv TX LV R xa b wz) (hB : B ≤ w.heap.size) (n : Nat) : NSt B X Lb Tb Y w rdv dk lv rv TX LV R xa b (wz.drewN n) := h.below hB (Below.drewN' (Below.refl _ _) n)
theorem NSt.cells (h : NSt B X Lb Tb Y w rdv dk lv rv TX LV R xa b wz) : wz.cell? ⟨X, 0, none⟩ = some rdv ∧ wz.cell? ⟨X, 1, none⟩ = some (.slice (some ⟨Lb, 0, none⟩) lv.length lv.length) ∧ wz.cell? ⟨X, 3, none⟩ = some (.slice (some ⟨Tb, 0, none⟩) 4096 4096) ∧ wz.cell? ⟨Y, 0, none⟩ = some (.int .i64 xa) ∧ wz.cell? ⟨Y, 1, none⟩ = some (.int .i64 b) := by
 obtain ⟨c0, c1, c2, c3⟩ := h.raw.cellX
 refine ⟨c0, c1, c3, ?_, ?_⟩ <;> (rw [cell_of_row wz Y _ _ _ _ h.box]; rfl)
theorem NSt.text (h : NSt B X Lb Tb Y w rdv dk lv rv TX LV R xa b wz) (s : ByteArray) (hk : TX[b]? = some s) : wz.cell? ⟨Tb, b, none⟩ = some (.string s) := h.raw.tb.cellAt b (by rw [List.getElem?_map, hk]; rfl)
variable {d : Nat} {v : Forks.V}
set_option maxRecDepth 100000 in
set_option maxHeartbeats 4000000 in
theorem node_has  (pl pb : Nat) (hw : WAt B X w (.func (.func 49) #[] #[.pointer (some ⟨pl, 0, none⟩), .pointer (some ⟨pb, 0, none⟩)]) d v) (hg : Forks.Good v) (hdk : DiskAt B w (.func (.func 49) #[] #[.pointer (some ⟨pl, 0, none⟩), .pointer (some ⟨pb, 0, none⟩)]) dk) (xa : Int) (b k : Nat) (b1 : 1 ≤ b) (b2 : b ≤ 4095) (hB : B ≤ w.heap.size) (hkd : k < d) (hd4 : d ≤ 4) (child : EL → Forks.V → Except Int Forks.V) (hh : Forks.has v b = true) :
  Calls Tryz.prog 126 #[.pointer (some ⟨X, 0, none⟩), .agg #[.int .i64 xa, .int .i64 b, .int .i64 0], .int .i64 ((k : Int) + 1)] w (WOut B X w (.func (.func 49) #[] #[.pointer (some ⟨pl, 0, none⟩), .pointer (some ⟨pb, 0, none⟩)]) d (Forks.nodeW dk child (k + 1) (xa, (b : Int), 0) v)) := by
 have hr : Hid (Forks.nodeW dk child (k + 1) (xa, (b : Int), 0) v = .error 80) := hid (Forks.nodeW_has hh)
 have hne : ¬ (Forks.textOf v b).size = 0 := by rw [Forks.textOf_has hg, hh]; simp
 obtain ⟨Lb, Tb, lv, rv, hld, hw⟩ := hw
 have hT : (Forks.texts v)[b]? = some (Forks.textOf v b) := Forks.texts_at v b (by omega)
 have N0 : Hid (NSt B X Lb Tb w.heap.size w (.func (.func 49) #[] #[.pointer (some ⟨pl, 0, none⟩), .pointer (some ⟨pb, 0, none⟩)]) dk lv rv (Forks.texts v) (Forks.lvl v) (Forks.rowV v) xa b (w.alloc (.cells #[.int .i64 xa, .int .i64 b, .int .i64 0] 31))) := hid (by
  have hb : Below w.heap.size w (w.alloc (.cells #[.int .i64 xa, .int .i64 b, .int .i64 0] 31)) := (Below.refl _ _).alloc (Nat.le_refl _) _
  exact ⟨hw.below hb, ⟨hb.mono hB, .of_below hb⟩, heap_alloc_new _ _, hdk.below (hb.mono hB)⟩)
 have HT := hid hT
 have HG := hid hg
 have hnf := run_read_nil pl pb
 have b0 : (0 : Int) ≤ (b : Int) := by omega
 have b1' : (b : Int) < 4096 := by omega
 clear hT hw hdk hg
 generalize hTt : Forks.textOf v b = T at *
 have hs : T.toList.isEmpty = false := by
  cases h : T.toList.isEmpty
  ·rfl
  ·rw [List.isEmpty_iff, ByteArray.toList_eq] at h
   exact absurd (by rw [← list_length, h]; rfl) hne
 clear hne
 clear hTt
 go_enter Tryz.func126, Tryz.ntmps126
 go_upto_region 1 with fail
 generalize w.alloc _ = wx at *
 generalize hY : w.heap.size = Y at *
 have HY := hid hY
 clear hY
 obtain ⟨c0, c1, c3, y0, y1⟩ := N0.out.cells
 have ct := N0.out.text T HT.out
 go_quiet (fail)
 have N1 := hid (N0.out.drewN (by rw [HY.out]; exact hB) nq)
 clear N0 c0 c1 c3 y0 y1 ct
 generalize wx.drewN nq = w1 at *
 go_wp2_with fail
 go_ret
 exact WOut.err hr.out (by decide) N1.out.bel
set_option maxRecDepth 100000 in
set_option maxHeartbeats 4000000 in
theorem node_none  (pl pb : Nat) (hw : WAt B X w (.func (.func 49) #[] #[.pointer (some ⟨pl, 0, none⟩), .pointer (some ⟨pb, 0, none⟩)]) d v) (hg : Forks.Good v) (hdk : DiskAt B w (.func (.func 49) #[] #[.pointer (some ⟨pl, 0, none⟩), .pointer (some ⟨pb, 0, none⟩)]) dk) (xa : Int) (b k : Nat) (b1 : 1 ≤ b) (b2 : b ≤ 4095) (hB : B ≤ w.heap.size) (hkd : k < d) (hd4 : d ≤ 4) (child : EL → Forks.V → Except Int Forks.V) (hh : Forks.has v b = false) (ho : dk.rd b = none) :
  Calls Tryz.prog 126 #[.pointer (some ⟨X, 0, none⟩), .agg #[.int .i64 xa, .int .i64 b, .int .i64 0], .int .i64 ((k : Int) + 1)] w (WOut B X w (.func (.func 49) #[] #[.pointer (some ⟨pl, 0, none⟩), .pointer (some ⟨pb, 0, none⟩)]) d (Forks.nodeW dk child (k + 1) (xa, (b : Int), 0) v)) := by
 have hr : Hid (Forks.nodeW dk child (k + 1) (xa, (b : Int), 0) v = .error 60) := hid (Forks.nodeW_none hh ho)
 have hem : (Forks.textOf v b).size = 0 := by rw [Forks.textOf_has hg, hh]
 obtain ⟨Lb, Tb, lv, rv, hld, hw⟩ := hw
 have hT : (Forks.texts v)[b]? = some (Forks.textOf v b) := Forks.texts_at v b (by omega)
 have N0 : Hid (NSt B X Lb Tb w.heap.size w (.func (.func 49) #[] #[.pointer (some ⟨pl, 0, none⟩), .pointer (some ⟨pb, 0, none⟩)]) dk lv rv (Forks.texts v) (Forks.lvl v) (Forks.rowV v) xa b (w.alloc (.cells #[.int .i64 xa, .int .i64 b, .int .i64 0] 31))) := hid (by
  have hb : Below w.heap.size w (w.alloc (.cells #[.int .i64 xa, .int .i64 b, .int .i64 0] 31)) := (Below.refl _ _).alloc (Nat.le_refl _) _
  exact ⟨hw.below hb, ⟨hb.mono hB, .of_below hb⟩, heap_alloc_new _ _, hdk.below (hb.mono hB)⟩)
 have HT := hid hT
 have HG := hid hg
 have hnf := run_read_nil pl pb
 have b0 : (0 : Int) ≤ (b : Int) := by omega
 have b1' : (b : Int) < 4096 := by omega
 clear hT hw hdk hg
 generalize hTt : Forks.textOf v b = T at *
 have hs : T.toList.isEmpty = true := by
  rw [List.isEmpty_iff, ByteArray.toList_eq]
  exact List.eq_nil_of_length_eq_zero (by rw [list_length]; exact hem)
 clear hem
 clear hTt
 go_enter Tryz.func126, Tryz.ntmps126
 go_upto_region 1 with fail
 generalize w.alloc _ = wx at *
 generalize hY : w.heap.size = Y at *
 have HY := hid hY
 clear hY
 obtain ⟨c0, c1, c3, y0, y1⟩ := N0.out.cells
 have ct := N0.out.text T HT.out
 go_quiet (fail)
 have N1 := hid (N0.out.drewN (by rw [HY.out]; exact hB) nq)
 clear N0 c0 c1 c3 y0 y1 ct
 generalize wx.drewN nq = w1 at *
 go_wp2_with fail
 have hrd : Hid (∀ n, Calls Tryz.prog 49 #[.int .i64 b, .pointer (some ⟨pl, 0, none⟩), .pointer (some ⟨pb, 0, none⟩)] (w1.drewN n) fun e w' => e = .returned (.tuple #[.string ⟨#[]⟩, .int .i64 60]) ∧ w' = w1.drewN n) := hid (fun n => (read_any pl pb (N1.out.drewN (by rw [HY.out]; exact hB) n).dk b (by omega) _ ho).mono fun e w' ⟨h1, h2⟩ => ⟨h1, h2.symm⟩)
 obtain ⟨c0, c1, c3, y0, y1⟩ := N1.out.cells
 go_quiet ((go_at_call 49; exact Calls.quiet_of_same (hrd.out _)))
 have N2 := hid (N1.out.drewN (by rw [HY.out]; exact hB) nq)
 clear N1 c0 c1 c3 y0 y1 hrd
 generalize w1.drewN nq = w2 at *
 go_wp2_with fail
 go_ret
 exact WOut.err hr.out (by decide) N2.out.bel
set_option maxRecDepth 100000 in
set_option maxHeartbeats 4000000 in
theorem node_bad  (pl pb : Nat) (hw : WAt B X w (.func (.func 49) #[] #[.pointer (some ⟨pl, 0, none⟩), .pointer (some ⟨pb, 0, none⟩)]) d v) (hg : Forks.Good v) (hdk : DiskAt B w (.func (.func 49) #[] #[.pointer (some ⟨pl, 0, none⟩), .pointer (some ⟨pb, 0, none⟩)]) dk) (xa : Int) (b k : Nat) (b1 : 1 ≤ b) (b2 : b ≤ 4095) (hB : B ≤ w.heap.size) (hkd : k < d) (hd4 : d ≤ 4) (child : EL → Forks.V → Except Int Forks.V) {s : ByteArray} (hh : Forks.has v b = false) (ho : dk.rd b = some s) (hss : s.size ≤ 140737488351232) (hdec : Ents.dec s.data.toList = none) :
  Calls Tryz.prog 126 #[.pointer (some ⟨X, 0, none⟩), .agg #[.int .i64 xa, .int .i64 b, .int .i64 0], .int .i64 ((k : Int) + 1)] w (WOut B X w (.func (.func 49) #[] #[.pointer (some ⟨pl, 0, none⟩), .pointer (some ⟨pb, 0, none⟩)]) d (Forks.nodeW dk child (k + 1) (xa, (b : Int), 0) v)) := by
 have hr : Hid (Forks.nodeW dk child (k + 1) (xa, (b : Int), 0) v = .error 80) := hid (Forks.nodeW_bad hh ho hdec)
 have hem : (Forks.textOf v b).size = 0 := by rw [Forks.textOf_has hg, hh]
 obtain ⟨Lb, Tb, lv, rv, hld, hw⟩ := hw
 have hT : (Forks.texts v)[b]? = some (Forks.textOf v b) := Forks.texts_at v b (by omega)
 have N0 : Hid (NSt B X Lb Tb w.heap.size w (.func (.func 49) #[] #[.pointer (some ⟨pl, 0, none⟩), .pointer (some ⟨pb, 0, none⟩)]) dk lv rv (Forks.texts v) (Forks.lvl v) (Forks.rowV v) xa b (w.alloc (.cells #[.int .i64 xa, .int .i64 b, .int .i64 0] 31))) := hid (by
  have hb : Below w.heap.size w (w.alloc (.cells #[.int .i64 xa, .int .i64 b, .int .i64 0] 31)) := (Below.refl _ _).alloc (Nat.le_refl _) _
  exact ⟨hw.below hb, ⟨hb.mono hB, .of_below hb⟩, heap_alloc_new _ _, hdk.below (hb.mono hB)⟩)
 have HT := hid hT
 have HG := hid hg
 have hnf := run_read_nil pl pb
 have b0 : (0 : Int) ≤ (b : Int) := by omega
 have b1' : (b : Int) < 4096 := by omega
 clear hT hw hdk hg
 generalize hTt : Forks.textOf v b = T at *
 have hs : T.toList.isEmpty = true := by
  rw [List.isEmpty_iff, ByteArray.toList_eq]
  exact List.eq_nil_of_length_eq_zero (by rw [list_length]; exact hem)
 clear hem
 have HDD := hid hdec
 clear hdec
 clear hTt
 go_enter Tryz.func126, Tryz.ntmps126
 go_upto_region 1 with fail
 generalize w.alloc _ = wx at *
 generalize hY : w.heap.size = Y at *
 have HY := hid hY
 clear hY
 obtain ⟨c0, c1, c3, y0, y1⟩ := N0.out.cells
 have ct := N0.out.text T HT.out
 go_quiet (fail)
 have N1 := hid (N0.out.drewN (by rw [HY.out]; exact hB) nq)
 clear N0 c0 c1 c3 y0 y1 ct
 generalize wx.drewN nq = w1 at *
 go_wp2_with fail
 have hrd : Hid (∀ n, Calls Tryz.prog 49 #[.int .i64 b, .pointer (some ⟨pl, 0, none⟩), .pointer (some ⟨pb, 0, none⟩)] (w1.drewN n) fun e w' => e = .returned (.tuple #[.string s, .int .i64 0]) ∧ w' = w1.drewN n) := hid (fun n => (read_any pl pb (N1.out.drewN (by rw [HY.out]; exact hB) n).dk b (by omega) _ ho).mono fun e w' ⟨h1, h2⟩ => ⟨h1, h2.symm⟩)
 obtain ⟨c0, c1, c3, y0, y1⟩ := N1.out.cells
 go_quiet ((go_at_call 49; exact Calls.quiet_of_same (hrd.out _)))
 have N2 := hid (N1.out.drewN (by rw [HY.out]; exact hB) nq)
 clear N1 c0 c1 c3 y0 y1 hrd
 generalize w1.drewN nq = w2 at *
 have hd := hid (decode_any s w2 hss)
 go_wp2_with fail
 refine hd.out.mono ?_
 rintro e w3 ⟨o3, b3⟩
 unfold DecOut at o3
 rw [HDD.out] at o3
 subst o3
 have N3 := hid (N2.out.below (by rw [HY.out]; exact hB) b3)
 clear b3
 go_wp2_with fail
 go_quiet (fail)
 go_wp2_with fail
 go_ret
 exact WOut.err hr.out (by decide) (N3.out.drewN (by rw [HY.out]; exact hB) _).bel
set_option maxRecDepth 100000 in
set_option maxHeartbeats 4000000 in
theorem node_ne_true  (pl pb : Nat) (hw : WAt B X w (.func (.func 49) #[] #[.pointer (some ⟨pl, 0, none⟩), .pointer (some ⟨pb, 0, none⟩)]) d v) (hg : Forks.Good v) (hdk : DiskAt B w (.func (.func 49) #[] #[.pointer (some ⟨pl, 0, none⟩), .pointer (some ⟨pb, 0, none⟩)]) dk) (xa : Int) (b k : Nat) (b1 : 1 ≤ b) (b2 : b ≤ 4095) (hB : B ≤ w.heap.size) (hkd : k < d) (hd4 : d ≤ 4) (child : EL → Forks.V → Except Int Forks.V) {s : ByteArray} {l : EL} (hh : Forks.has v b = false) (ho : dk.rd b = some s) (hss : s.size ≤ 140737488351232) (hdec : Ents.dec s.data.toList = some (l, true)) (hk : ¬ k = 0) :
  Calls Tryz.prog 126 #[.pointer (some ⟨X, 0, none⟩), .agg #[.int .i64 xa, .int .i64 b, .int .i64 0], .int .i64 ((k : Int) + 1)] w (WOut B X w (.func (.func 49) #[] #[.pointer (some ⟨pl, 0, none⟩), .pointer (some ⟨pb, 0, none⟩)]) d (Forks.nodeW dk child (k + 1) (xa, (b : Int), 0) v)) := by
 have hr : Hid (Forks.nodeW dk child (k + 1) (xa, (b : Int), 0) v = .error 80) := hid (Forks.nodeW_ne hh ho hdec (.inl (by simp [hk])))
 have hem : (Forks.textOf v b).size = 0 := by rw [Forks.textOf_has hg, hh]
 obtain ⟨Lb, Tb, lv, rv, hld, hw⟩ := hw
 have hT : (Forks.texts v)[b]? = some (Forks.textOf v b) := Forks.texts_at v b (by omega)
 have N0 : Hid (NSt B X Lb Tb w.heap.size w (.func (.func 49) #[] #[.pointer (some ⟨pl, 0, none⟩), .pointer (some ⟨pb, 0, none⟩)]) dk lv rv (Forks.texts v) (Forks.lvl v) (Forks.rowV v) xa b (w.alloc (.cells #[.int .i64 xa, .int .i64 b, .int .i64 0] 31))) := hid (by
  have hb : Below w.heap.size w (w.alloc (.cells #[.int .i64 xa, .int .i64 b, .int .i64 0] 31)) := (Below.refl _ _).alloc (Nat.le_refl _) _
  exact ⟨hw.below hb, ⟨hb.mono hB, .of_below hb⟩, heap_alloc_new _ _, hdk.below (hb.mono hB)⟩)
 have HT := hid hT
 have HG := hid hg
 have hnf := run_read_nil pl pb
 have b0 : (0 : Int) ≤ (b : Int) := by omega
 have b1' : (b : Int) < 4096 := by omega
 clear hT hw hdk hg
 generalize hTt : Forks.textOf v b = T at *
 have hs : T.toList.isEmpty = true := by
  rw [List.isEmpty_iff, ByteArray.toList_eq]
  exact List.eq_nil_of_length_eq_zero (by rw [list_length]; exact hem)
 clear hem
 have HEN : Hid (Ents.EncOk l true) := hid (Ents.dec_some hdec).1
 have hl1 : 1 ≤ l.length := HEN.out.1
 have hl0 : (0 : Int) < (l.length : Int) := by omega
 have HDD := hid hdec
 clear hdec
 have hk1 : ((k : Int) + 1 == 1) = false := by rw [beq_eq_false_iff_ne]; omega
 have hk2 : ((k : Int) == 0) = false := by rw [beq_eq_false_iff_ne]; omega
 clear hTt
 go_enter Tryz.func126, Tryz.ntmps126
 go_upto_region 1 with fail
 generalize w.alloc _ = wx at *
 generalize hY : w.heap.size = Y at *
 have HY := hid hY
 clear hY
 obtain ⟨c0, c1, c3, y0, y1⟩ := N0.out.cells
 have ct := N0.out.text T HT.out
 go_quiet (fail)
 have N1 := hid (N0.out.drewN (by rw [HY.out]; exact hB) nq)
 clear N0 c0 c1 c3 y0 y1 ct
 generalize wx.drewN nq = w1 at *
 go_wp2_with fail
 have hrd : Hid (∀ n, Calls Tryz.prog 49 #[.int .i64 b, .pointer (some ⟨pl, 0, none⟩), .pointer (some ⟨pb, 0, none⟩)] (w1.drewN n) fun e w' => e = .returned (.tuple #[.string s, .int .i64 0]) ∧ w' = w1.drewN n) := hid (fun n => (read_any pl pb (N1.out.drewN (by rw [HY.out]; exact hB) n).dk b (by omega) _ ho).mono fun e w' ⟨h1, h2⟩ => ⟨h1, h2.symm⟩)
 obtain ⟨c0, c1, c3, y0, y1⟩ := N1.out.cells
 go_quiet ((go_at_call 49; exact Calls.quiet_of_same (hrd.out _)))
 have N2 := hid (N1.out.drewN (by rw [HY.out]; exact hB) nq)
 clear N1 c0 c1 c3 y0 y1 hrd
 generalize w1.drewN nq = w2 at *
 have hd := hid (decode_any s w2 hss)
 go_wp2_with fail
 refine hd.out.mono ?_
 rintro e w3 ⟨o3, b3⟩
 unfold DecOut at o3
 rw [HDD.out] at o3
 obtain ⟨u, rfl, ho3⟩ := o3
 have ho3 : OwnEnts w2.heap.size w3 u l := ho3
 have N3 := hid (N2.out.below (by rw [HY.out]; exact hB) b3)
 obtain ⟨g, cap, rfl, hg0, HL⟩ : ∃ g cap, u = .slice (some ⟨g, 0, none⟩) l.length cap ∧ w3.cell? ⟨g, 0, none⟩ = some (.int .i64 (l.getD 0 (0, 0, 0)).1) ∧ Hid (EntsAt w3 (.slice (some ⟨g, 0, none⟩) l.length cap) l) := by
  have hx := ho3.ents
  rcases ho3.2 with ⟨rfl, h0⟩ | ⟨g, cap, cur, rfl, _⟩
  ·exact absurd h0 (by omega)
  ·obtain ⟨_, g', off, e', c0, _⟩ := hx.ext.cells 0 (by omega)
   cases e'
   exact ⟨g, cap, rfl, by simpa using c0, hid hx⟩
 clear b3 ho3
 generalize (l.getD 0 (0, 0, 0)).1 = lg at *
 obtain ⟨-, -, -, y0, -⟩ := N3.out.cells
 go_wp2_with fail
 go_quiet (fail)
 go_wp2_with fail
 go_ret
 exact WOut.err hr.out (by decide) (N3.out.drewN (by rw [HY.out]; exact hB) _).bel
set_option maxRecDepth 100000 in
set_option maxHeartbeats 4000000 in
theorem node_ne_false  (pl pb : Nat) (hw : WAt B X w (.func (.func 49) #[] #[.pointer (some ⟨pl, 0, none⟩), .pointer (some ⟨pb, 0, none⟩)]) d v) (hg : Forks.Good v) (hdk : DiskAt B w (.func (.func 49) #[] #[.pointer (some ⟨pl, 0, none⟩), .pointer (some ⟨pb, 0, none⟩)]) dk) (xa : Int) (b k : Nat) (b1 : 1 ≤ b) (b2 : b ≤ 4095) (hB : B ≤ w.heap.size) (hkd : k < d) (hd4 : d ≤ 4) (child : EL → Forks.V → Except Int Forks.V) {s : ByteArray} {l : EL} (hh : Forks.has v b = false) (ho : dk.rd b = some s) (hss : s.size ≤ 140737488351232) (hdec : Ents.dec s.data.toList = some (l, false)) (hk : k = 0) :
  Calls Tryz.prog 126 #[.pointer (some ⟨X, 0, none⟩), .agg #[.int .i64 xa, .int .i64 b, .int .i64 0], .int .i64 ((k : Int) + 1)] w (WOut B X w (.func (.func 49) #[] #[.pointer (some ⟨pl, 0, none⟩), .pointer (some ⟨pb, 0, none⟩)]) d (Forks.nodeW dk child (k + 1) (xa, (b : Int), 0) v)) := by
 have hr : Hid (Forks.nodeW dk child (k + 1) (xa, (b : Int), 0) v = .error 80) := hid (Forks.nodeW_ne hh ho hdec (.inl (by simp [hk])))
 have hem : (Forks.textOf v b).size = 0 := by rw [Forks.textOf_has hg, hh]
 obtain ⟨Lb, Tb, lv, rv, hld, hw⟩ := hw
 have hT : (Forks.texts v)[b]? = some (Forks.textOf v b) := Forks.texts_at v b (by omega)
 have N0 : Hid (NSt B X Lb Tb w.heap.size w (.func (.func 49) #[] #[.pointer (some ⟨pl, 0, none⟩), .pointer (some ⟨pb, 0, none⟩)]) dk lv rv (Forks.texts v) (Forks.lvl v) (Forks.rowV v) xa b (w.alloc (.cells #[.int .i64 xa, .int .i64 b, .int .i64 0] 31))) := hid (by
  have hb : Below w.heap.size w (w.alloc (.cells #[.int .i64 xa, .int .i64 b, .int .i64 0] 31)) := (Below.refl _ _).alloc (Nat.le_refl _) _
  exact ⟨hw.below hb, ⟨hb.mono hB, .of_below hb⟩, heap_alloc_new _ _, hdk.below (hb.mono hB)⟩)
 have HT := hid hT
 have HG := hid hg
 have hnf := run_read_nil pl pb
 have b0 : (0 : Int) ≤ (b : Int) := by omega
 have b1' : (b : Int) < 4096 := by omega
 clear hT hw hdk hg
 generalize hTt : Forks.textOf v b = T at *
 have hs : T.toList.isEmpty = true := by
  rw [List.isEmpty_iff, ByteArray.toList_eq]
  exact List.eq_nil_of_length_eq_zero (by rw [list_length]; exact hem)
 clear hem
 have HEN : Hid (Ents.EncOk l false) := hid (Ents.dec_some hdec).1
 have hl1 : 1 ≤ l.length := HEN.out.1
 have hl0 : (0 : Int) < (l.length : Int) := by omega
 have HDD := hid hdec
 clear hdec
 have hk1 : ((k : Int) + 1 == 1) = true := by rw [beq_iff_eq]; omega
 have hk2 : ((k : Int) == 0) = true := by rw [beq_iff_eq]; omega
 clear hTt
 go_enter Tryz.func126, Tryz.ntmps126
 go_upto_region 1 with fail
 generalize w.alloc _ = wx at *
 generalize hY : w.heap.size = Y at *
 have HY := hid hY
 clear hY
 obtain ⟨c0, c1, c3, y0, y1⟩ := N0.out.cells
 have ct := N0.out.text T HT.out
 go_quiet (fail)
 have N1 := hid (N0.out.drewN (by rw [HY.out]; exact hB) nq)
 clear N0 c0 c1 c3 y0 y1 ct
 generalize wx.drewN nq = w1 at *
 go_wp2_with fail
 have hrd : Hid (∀ n, Calls Tryz.prog 49 #[.int .i64 b, .pointer (some ⟨pl, 0, none⟩), .pointer (some ⟨pb, 0, none⟩)] (w1.drewN n) fun e w' => e = .returned (.tuple #[.string s, .int .i64 0]) ∧ w' = w1.drewN n) := hid (fun n => (read_any pl pb (N1.out.drewN (by rw [HY.out]; exact hB) n).dk b (by omega) _ ho).mono fun e w' ⟨h1, h2⟩ => ⟨h1, h2.symm⟩)
 obtain ⟨c0, c1, c3, y0, y1⟩ := N1.out.cells
 go_quiet ((go_at_call 49; exact Calls.quiet_of_same (hrd.out _)))
 have N2 := hid (N1.out.drewN (by rw [HY.out]; exact hB) nq)
 clear N1 c0 c1 c3 y0 y1 hrd
 generalize w1.drewN nq = w2 at *
 have hd := hid (decode_any s w2 hss)
 go_wp2_with fail
 refine hd.out.mono ?_
 rintro e w3 ⟨o3, b3⟩
 unfold DecOut at o3
 rw [HDD.out] at o3
 obtain ⟨u, rfl, ho3⟩ := o3
 have ho3 : OwnEnts w2.heap.size w3 u l := ho3
 have N3 := hid (N2.out.below (by rw [HY.out]; exact hB) b3)
 obtain ⟨g, cap, rfl, hg0, HL⟩ : ∃ g cap, u = .slice (some ⟨g, 0, none⟩) l.length cap ∧ w3.cell? ⟨g, 0, none⟩ = some (.int .i64 (l.getD 0 (0, 0, 0)).1) ∧ Hid (EntsAt w3 (.slice (some ⟨g, 0, none⟩) l.length cap) l) := by
  have hx := ho3.ents
  rcases ho3.2 with ⟨rfl, h0⟩ | ⟨g, cap, cur, rfl, _⟩
  ·exact absurd h0 (by omega)
  ·obtain ⟨_, g', off, e', c0, _⟩ := hx.ext.cells 0 (by omega)
   cases e'
   exact ⟨g, cap, rfl, by simpa using c0, hid hx⟩
 clear b3 ho3
 generalize (l.getD 0 (0, 0, 0)).1 = lg at *
 obtain ⟨-, -, -, y0, -⟩ := N3.out.cells
 go_wp2_with fail
 go_quiet (fail)
 go_wp2_with fail
 go_ret
 exact WOut.err hr.out (by decide) (N3.out.drewN (by rw [HY.out]; exact hB) _).bel
set_option maxRecDepth 100000 in
set_option maxHeartbeats 4000000 in
theorem node_log_true  (pl pb : Nat) (hw : WAt B X w (.func (.func 49) #[] #[.pointer (some ⟨pl, 0, none⟩), .pointer (some ⟨pb, 0, none⟩)]) d v) (hg : Forks.Good v) (hdk : DiskAt B w (.func (.func 49) #[] #[.pointer (some ⟨pl, 0, none⟩), .pointer (some ⟨pb, 0, none⟩)]) dk) (xa : Int) (b k : Nat) (b1 : 1 ≤ b) (b2 : b ≤ 4095) (hB : B ≤ w.heap.size) (hkd : k < d) (hd4 : d ≤ 4) (child : EL → Forks.V → Except Int Forks.V) {s : ByteArray} {l : EL} (hh : Forks.has v b = false) (ho : dk.rd b = some s) (hss : s.size ≤ 140737488351232) (hdec : Ents.dec s.data.toList = some (l, true)) (hk : k = 0) (hne : ¬ (l.getD 0 (0, 0, 0)).1 = xa) :
  Calls Tryz.prog 126 #[.pointer (some ⟨X, 0, none⟩), .agg #[.int .i64 xa, .int .i64 b, .int .i64 0], .int .i64 ((k : Int) + 1)] w (WOut B X w (.func (.func 49) #[] #[.pointer (some ⟨pl, 0, none⟩), .pointer (some ⟨pb, 0, none⟩)]) d (Forks.nodeW dk child (k + 1) (xa, (b : Int), 0) v)) := by
 have hr : Hid (Forks.nodeW dk child (k + 1) (xa, (b : Int), 0) v = .error 80) := hid (Forks.nodeW_ne hh ho hdec (.inr hne))
 have hem : (Forks.textOf v b).size = 0 := by rw [Forks.textOf_has hg, hh]
 obtain ⟨Lb, Tb, lv, rv, hld, hw⟩ := hw
 have hT : (Forks.texts v)[b]? = some (Forks.textOf v b) := Forks.texts_at v b (by omega)
 have N0 : Hid (NSt B X Lb Tb w.heap.size w (.func (.func 49) #[] #[.pointer (some ⟨pl, 0, none⟩), .pointer (some ⟨pb, 0, none⟩)]) dk lv rv (Forks.texts v) (Forks.lvl v) (Forks.rowV v) xa b (w.alloc (.cells #[.int .i64 xa, .int .i64 b, .int .i64 0] 31))) := hid (by
  have hb : Below w.heap.size w (w.alloc (.cells #[.int .i64 xa, .int .i64 b, .int .i64 0] 31)) := (Below.refl _ _).alloc (Nat.le_refl _) _
  exact ⟨hw.below hb, ⟨hb.mono hB, .of_below hb⟩, heap_alloc_new _ _, hdk.below (hb.mono hB)⟩)
 have HT := hid hT
 have HG := hid hg
 have hnf := run_read_nil pl pb
 have b0 : (0 : Int) ≤ (b : Int) := by omega
 have b1' : (b : Int) < 4096 := by omega
 clear hT hw hdk hg
 generalize hTt : Forks.textOf v b = T at *
 have hs : T.toList.isEmpty = true := by
  rw [List.isEmpty_iff, ByteArray.toList_eq]
  exact List.eq_nil_of_length_eq_zero (by rw [list_length]; exact hem)
 clear hem
 have HEN : Hid (Ents.EncOk l true) := hid (Ents.dec_some hdec).1
 have hl1 : 1 ≤ l.length := HEN.out.1
 have hl0 : (0 : Int) < (l.length : Int) := by omega
 have HDD := hid hdec
 clear hdec
 have hk1 : ((k : Int) + 1 == 1) = true := by rw [beq_iff_eq]; omega
 have hk2 : ((k : Int) == 0) = true := by rw [beq_iff_eq]; omega
 clear hTt
 go_enter Tryz.func126, Tryz.ntmps126
 go_upto_region 1 with fail
 generalize w.alloc _ = wx at *
 generalize hY : w.heap.size = Y at *
 have HY := hid hY
 clear hY
 obtain ⟨c0, c1, c3, y0, y1⟩ := N0.out.cells
 have ct := N0.out.text T HT.out
 go_quiet (fail)
 have N1 := hid (N0.out.drewN (by rw [HY.out]; exact hB) nq)
 clear N0 c0 c1 c3 y0 y1 ct
 generalize wx.drewN nq = w1 at *
 go_wp2_with fail
 have hrd : Hid (∀ n, Calls Tryz.prog 49 #[.int .i64 b, .pointer (some ⟨pl, 0, none⟩), .pointer (some ⟨pb, 0, none⟩)] (w1.drewN n) fun e w' => e = .returned (.tuple #[.string s, .int .i64 0]) ∧ w' = w1.drewN n) := hid (fun n => (read_any pl pb (N1.out.drewN (by rw [HY.out]; exact hB) n).dk b (by omega) _ ho).mono fun e w' ⟨h1, h2⟩ => ⟨h1, h2.symm⟩)
 obtain ⟨c0, c1, c3, y0, y1⟩ := N1.out.cells
 go_quiet ((go_at_call 49; exact Calls.quiet_of_same (hrd.out _)))
 have N2 := hid (N1.out.drewN (by rw [HY.out]; exact hB) nq)
 clear N1 c0 c1 c3 y0 y1 hrd
 generalize w1.drewN nq = w2 at *
 have hd := hid (decode_any s w2 hss)
 go_wp2_with fail
 refine hd.out.mono ?_
 rintro e w3 ⟨o3, b3⟩
 unfold DecOut at o3
 rw [HDD.out] at o3
 obtain ⟨u, rfl, ho3⟩ := o3
 have ho3 : OwnEnts w2.heap.size w3 u l := ho3
 have N3 := hid (N2.out.below (by rw [HY.out]; exact hB) b3)
 obtain ⟨g, cap, rfl, hg0, HL⟩ : ∃ g cap, u = .slice (some ⟨g, 0, none⟩) l.length cap ∧ w3.cell? ⟨g, 0, none⟩ = some (.int .i64 (l.getD 0 (0, 0, 0)).1) ∧ Hid (EntsAt w3 (.slice (some ⟨g, 0, none⟩) l.length cap) l) := by
  have hx := ho3.ents
  rcases ho3.2 with ⟨rfl, h0⟩ | ⟨g, cap, cur, rfl, _⟩
  ·exact absurd h0 (by omega)
  ·obtain ⟨_, g', off, e', c0, _⟩ := hx.ext.cells 0 (by omega)
   cases e'
   exact ⟨g, cap, rfl, by simpa using c0, hid hx⟩
 clear b3 ho3
 generalize (l.getD 0 (0, 0, 0)).1 = lg at *
 have hnb : (lg != xa) = true := by rw [bne_iff_ne]; exact hne
 have hnb2 : (lg == xa) = false := by rw [beq_eq_false_iff_ne]; exact hne
 obtain ⟨-, -, -, y0, -⟩ := N3.out.cells
 go_wp2_with fail
 go_quiet (fail)
 go_wp2_with fail
 go_ret
 exact WOut.err hr.out (by decide) (N3.out.drewN (by rw [HY.out]; exact hB) _).bel
set_option maxRecDepth 100000 in
set_option maxHeartbeats 4000000 in
theorem node_log_false  (pl pb : Nat) (hw : WAt B X w (.func (.func 49) #[] #[.pointer (some ⟨pl, 0, none⟩), .pointer (some ⟨pb, 0, none⟩)]) d v) (hg : Forks.Good v) (hdk : DiskAt B w (.func (.func 49) #[] #[.pointer (some ⟨pl, 0, none⟩), .pointer (some ⟨pb, 0, none⟩)]) dk) (xa : Int) (b k : Nat) (b1 : 1 ≤ b) (b2 : b ≤ 4095) (hB : B ≤ w.heap.size) (hkd : k < d) (hd4 : d ≤ 4) (child : EL → Forks.V → Except Int Forks.V) {s : ByteArray} {l : EL} (hh : Forks.has v b = false) (ho : dk.rd b = some s) (hss : s.size ≤ 140737488351232) (hdec : Ents.dec s.data.toList = some (l, false)) (hk : ¬ k = 0) (hne : ¬ (l.getD 0 (0, 0, 0)).1 = xa) :
  Calls Tryz.prog 126 #[.pointer (some ⟨X, 0, none⟩), .agg #[.int .i64 xa, .int .i64 b, .int .i64 0], .int .i64 ((k : Int) + 1)] w (WOut B X w (.func (.func 49) #[] #[.pointer (some ⟨pl, 0, none⟩), .pointer (some ⟨pb, 0, none⟩)]) d (Forks.nodeW dk child (k + 1) (xa, (b : Int), 0) v)) := by
 have hr : Hid (Forks.nodeW dk child (k + 1) (xa, (b : Int), 0) v = .error 80) := hid (Forks.nodeW_ne hh ho hdec (.inr hne))
 have hem : (Forks.textOf v b).size = 0 := by rw [Forks.textOf_has hg, hh]
 obtain ⟨Lb, Tb, lv, rv, hld, hw⟩ := hw
 have hT : (Forks.texts v)[b]? = some (Forks.textOf v b) := Forks.texts_at v b (by omega)
 have N0 : Hid (NSt B X Lb Tb w.heap.size w (.func (.func 49) #[] #[.pointer (some ⟨pl, 0, none⟩), .pointer (some ⟨pb, 0, none⟩)]) dk lv rv (Forks.texts v) (Forks.lvl v) (Forks.rowV v) xa b (w.alloc (.cells #[.int .i64 xa, .int .i64 b, .int .i64 0] 31))) := hid (by
  have hb : Below w.heap.size w (w.alloc (.cells #[.int .i64 xa, .int .i64 b, .int .i64 0] 31)) := (Below.refl _ _).alloc (Nat.le_refl _) _
  exact ⟨hw.below hb, ⟨hb.mono hB, .of_below hb⟩, heap_alloc_new _ _, hdk.below (hb.mono hB)⟩)
 have HT := hid hT
 have HG := hid hg
 have hnf := run_read_nil pl pb
 have b0 : (0 : Int) ≤ (b : Int) := by omega
 have b1' : (b : Int) < 4096 := by omega
 clear hT hw hdk hg
 generalize hTt : Forks.textOf v b = T at *
 have hs : T.toList.isEmpty = true := by
  rw [List.isEmpty_iff, ByteArray.toList_eq]
  exact List.eq_nil_of_length_eq_zero (by rw [list_length]; exact hem)
 clear hem
 have HEN : Hid (Ents.EncOk l false) := hid (Ents.dec_some hdec).1
 have hl1 : 1 ≤ l.length := HEN.out.1
 have hl0 : (0 : Int) < (l.length : Int) := by omega
 have HDD := hid hdec
 clear hdec
 have hk1 : ((k : Int) + 1 == 1) = false := by rw [beq_eq_false_iff_ne]; omega
 have hk2 : ((k : Int) == 0) = false := by rw [beq_eq_false_iff_ne]; omega
 clear hTt
 go_enter Tryz.func126, Tryz.ntmps126
 go_upto_region 1 with fail
 generalize w.alloc _ = wx at *
 generalize hY : w.heap.size = Y at *
 have HY := hid hY
 clear hY
 obtain ⟨c0, c1, c3, y0, y1⟩ := N0.out.cells
 have ct := N0.out.text T HT.out
 go_quiet (fail)
 have N1 := hid (N0.out.drewN (by rw [HY.out]; exact hB) nq)
 clear N0 c0 c1 c3 y0 y1 ct
 generalize wx.drewN nq = w1 at *
 go_wp2_with fail
 have hrd : Hid (∀ n, Calls Tryz.prog 49 #[.int .i64 b, .pointer (some ⟨pl, 0, none⟩), .pointer (some ⟨pb, 0, none⟩)] (w1.drewN n) fun e w' => e = .returned (.tuple #[.string s, .int .i64 0]) ∧ w' = w1.drewN n) := hid (fun n => (read_any pl pb (N1.out.drewN (by rw [HY.out]; exact hB) n).dk b (by omega) _ ho).mono fun e w' ⟨h1, h2⟩ => ⟨h1, h2.symm⟩)
 obtain ⟨c0, c1, c3, y0, y1⟩ := N1.out.cells
 go_quiet ((go_at_call 49; exact Calls.quiet_of_same (hrd.out _)))
 have N2 := hid (N1.out.drewN (by rw [HY.out]; exact hB) nq)
 clear N1 c0 c1 c3 y0 y1 hrd
 generalize w1.drewN nq = w2 at *
 have hd := hid (decode_any s w2 hss)
 go_wp2_with fail
 refine hd.out.mono ?_
 rintro e w3 ⟨o3, b3⟩
 unfold DecOut at o3
 rw [HDD.out] at o3
 obtain ⟨u, rfl, ho3⟩ := o3
 have ho3 : OwnEnts w2.heap.size w3 u l := ho3
 have N3 := hid (N2.out.below (by rw [HY.out]; exact hB) b3)
 obtain ⟨g, cap, rfl, hg0, HL⟩ : ∃ g cap, u = .slice (some ⟨g, 0, none⟩) l.length cap ∧ w3.cell? ⟨g, 0, none⟩ = some (.int .i64 (l.getD 0 (0, 0, 0)).1) ∧ Hid (EntsAt w3 (.slice (some ⟨g, 0, none⟩) l.length cap) l) := by
  have hx := ho3.ents
  rcases ho3.2 with ⟨rfl, h0⟩ | ⟨g, cap, cur, rfl, _⟩
  ·exact absurd h0 (by omega)
  ·obtain ⟨_, g', off, e', c0, _⟩ := hx.ext.cells 0 (by omega)
   cases e'
   exact ⟨g, cap, rfl, by simpa using c0, hid hx⟩
 clear b3 ho3
 generalize (l.getD 0 (0, 0, 0)).1 = lg at *
 have hnb : (lg != xa) = true := by rw [bne_iff_ne]; exact hne
 have hnb2 : (lg == xa) = false := by rw [beq_eq_false_iff_ne]; exact hne
 obtain ⟨-, -, -, y0, -⟩ := N3.out.cells
 go_wp2_with fail
 go_quiet (fail)
 go_wp2_with fail
 go_ret
 exact WOut.err hr.out (by decide) (N3.out.drewN (by rw [HY.out]; exact hB) _).bel
end Go.Proofs.YtgjmeeiejcbjfaaGreat
