/- The walker: node, where a node is met. (Printed by wip/gen/fnode2.py.) -/
import Derived.Test.YtgjmeeiejcbjfaaGreatH13
set_option linter.unusedSimpArgs false
set_option linter.unusedVariables false
namespace Go.Proofs.YtgjmeeiejcbjfaaGreat
open Go.Lib (hid)
open Go Go.RowKit
theorem info_node : (Tryz.prog.info? 131).map (fun i => (i.zero, i.size, i.bytes)) = some (some (.agg #[.int .i64 0, .slice none 0 0]), 2, 32) := by kernel_rfl
variable {B X Lb Tb Y : Nat} {w wz wy : World} {rdv rv : Value} {dk : Forks.Disk} {lv : List Value} {TX : List ByteArray} {LV : Nat → List Node} {R : EL} {xa : Int} {b : Nat}
theorem own_below {w w' : World} {base size n : Nat} {e : TypeId} {v : Value} {xs : List Value} (h : w.ownsRow base e size v n xs) (hb : Below w.heap.size w w') : w'.ownsRow base e size v n xs :=
 ⟨h.1, h.2.imp id (fun ⟨g, cap, cur, hv, hg, hh, r⟩ => ⟨g, cap, cur, hv, hg, by rw [hb.block g (lt_of_block hh)]; exact hh, r⟩)⟩
theorem NSt.put (h : NSt B X Lb Tb Y w rdv dk lv rv TX LV R xa b wz) (k : Nat) (s : ByteArray) : NSt B X Lb Tb Y w rdv dk lv rv (TX.set k s) LV R xa b (wz.setCell ⟨Tb, k, none⟩ (.string s)) := by
 obtain ⟨h1, h2, h3⟩ := h.raw.text k s
 exact ⟨h1, ⟨h.bel.1.trans h2, h.bel.2.trans h3⟩, h3 _ _ _ h.box, h.dk.below h2⟩
theorem NSt.put_keep (h : NSt B X Lb Tb Y w rdv dk lv rv TX LV R xa b wz) (k : Nat) (s : ByteArray) : KeepE wz (wz.setCell ⟨Tb, k, none⟩ (.string s)) := (h.raw.text k s).2.2
variable {d : Nat} {v : Forks.V}
theorem node_pushed {k g c : Nat} {s : ByteArray} {l : EL} {u e : Value} {cs : List Value} {w5 : World} (h : NSt B X Lb Tb Y w rdv dk lv rv ((Forks.texts v).set b s) (Forks.lvl v) (Forks.rowV v) xa b wz) (hh : Forks.has v b = false) (hb : b < 4096) (hi : lv[k]? = some u) (hr : wz.ownsRow B 131 2 u (Forks.lvl v (k + 1)).length cs) (hc : NodeCells wz cs (Forks.lvl v (k + 1))) (hg : wz.grownBy w5 u.ownBlock) (he : EntsAt wz e l)
  (hown : w5.ownsRow B 131 2 (.slice (some ⟨g, 0, none⟩) ((Forks.lvl v (k + 1)).length + 1) c) ((Forks.lvl v (k + 1)).length + 1) (cs ++ [.int .i64 b, e])) (hat : u.ownBlock = some g ∨ g = wz.heap.size) (hB : B ≤ wz.heap.size) :
  WRaw B X Lb Tb (w5.setCell ⟨Lb, k, none⟩ (.slice (some ⟨g, 0, none⟩) ((Forks.lvl v (k + 1)).length + 1) c)) rdv (lv.set k (.slice (some ⟨g, 0, none⟩) ((Forks.lvl v (k + 1)).length + 1) c)) rv (Forks.texts (v ++ [⟨b, k + 1, l, s⟩])) (Forks.lvl (v ++ [⟨b, k + 1, l, s⟩])) (Forks.rowV v) ∧
   (Below B w (w5.setCell ⟨Lb, k, none⟩ (.slice (some ⟨g, 0, none⟩) ((Forks.lvl v (k + 1)).length + 1) c)) ∧ KeepE w (w5.setCell ⟨Lb, k, none⟩ (.slice (some ⟨g, 0, none⟩) ((Forks.lvl v (k + 1)).length + 1) c))) ∧ KeepE wz (w5.setCell ⟨Lb, k, none⟩ (.slice (some ⟨g, 0, none⟩) ((Forks.lvl v (k + 1)).length + 1) c)) := by
 obtain ⟨h1, h2, h3⟩ := h.raw.pushLvl (n := ((b : Int), l)) (a := .int .i64 b) (e := e) hi hr hc hg rfl he hown hat hB (LV' := Forks.lvl (v ++ [⟨b, k + 1, l, s⟩])) (Forks.lvl_same v b (k + 1) l s) (fun m hm => Forks.lvl_other v b (k + 1) m l s (fun e => hm e.symm))
 rw [Forks.texts_snoc v b (k + 1) l s hh hb] at h1
 exact ⟨h1, ⟨h.bel.1.trans h2, h.bel.2.trans h3⟩, h3⟩
set_option maxRecDepth 100000 in
set_option maxHeartbeats 4000000 in
theorem node_ok  (pl pb : Nat) (hw : WAt B X w (.func (.func 49) #[] #[.pointer (some ⟨pl, 0, none⟩), .pointer (some ⟨pb, 0, none⟩)]) d v) (hg : Forks.Good v) (hdk : DiskAt B w (.func (.func 49) #[] #[.pointer (some ⟨pl, 0, none⟩), .pointer (some ⟨pb, 0, none⟩)]) dk) (xa : Int) (b k : Nat) (b1 : 1 ≤ b) (b2 : b ≤ 4095) (hB : B ≤ w.heap.size) (hkd : k < d) (hd4 : d ≤ 4) (child : EL → Forks.V → Except Int Forks.V) {s : ByteArray} {l : EL} {leaf : Bool} (hh : Forks.has v b = false) (ho : dk.rd b = some s) (hss : s.size ≤ 140737488351232) (hdec : Ents.dec s.data.toList = some (l, leaf)) (hk : leaf = (k == 0)) (hlg : (l.getD 0 (0, 0, 0)).1 = xa)
  (hall : leaf = false → ∀ wz ev v1 l1, WAt B X wz (.func (.func 49) #[] #[.pointer (some ⟨pl, 0, none⟩), .pointer (some ⟨pb, 0, none⟩)]) d v1 → Forks.Good v1 → DiskAt B wz (.func (.func 49) #[] #[.pointer (some ⟨pl, 0, none⟩), .pointer (some ⟨pb, 0, none⟩)]) dk → EntsAt wz ev l1 → Ents.EncOk l1 false → B ≤ wz.heap.size → Calls Tryz.prog 95 #[.pointer (some ⟨X, 0, none⟩), ev, .int .i64 (k : Int)] wz (WOut B X wz (.func (.func 49) #[] #[.pointer (some ⟨pl, 0, none⟩), .pointer (some ⟨pb, 0, none⟩)]) d (child l1 v1))) :
  Calls Tryz.prog 126 #[.pointer (some ⟨X, 0, none⟩), .agg #[.int .i64 xa, .int .i64 b, .int .i64 0], .int .i64 ((k : Int) + 1)] w (WOut B X w (.func (.func 49) #[] #[.pointer (some ⟨pl, 0, none⟩), .pointer (some ⟨pb, 0, none⟩)]) d (Forks.nodeW dk child (k + 1) (xa, (b : Int), 0) v)) := by
 have hr : Hid (Forks.nodeW dk child (k + 1) (xa, (b : Int), 0) v = if leaf = true then .ok (v ++ [⟨b, k + 1, l, s⟩]) else child l (v ++ [⟨b, k + 1, l, s⟩])) := hid (Forks.nodeW_ok hh ho hdec (by rw [hk]; simp) hlg)
 have hG2 := hid (hg.snoc (x := ⟨b, k + 1, l, s⟩) b1 b2 (by rw [hdec, hk]; simp) hh)
 have HALL := hid hall
 have HDK := hid hdk
 clear hall
 have hem : (Forks.textOf v b).size = 0 := by rw [Forks.textOf_has hg, hh]
 obtain ⟨i0', hi0, hz0, hz1, hz2⟩ := info_parts info_node
 obtain ⟨Lb, Tb, lv, rv, hld, hw⟩ := hw
 have hT : (Forks.texts v)[b]? = some (Forks.textOf v b) := Forks.texts_at v b (by omega)
 have N0 : Hid (NSt B X Lb Tb w.heap.size w (.func (.func 49) #[] #[.pointer (some ⟨pl, 0, none⟩), .pointer (some ⟨pb, 0, none⟩)]) dk lv rv (Forks.texts v) (Forks.lvl v) (Forks.rowV v) xa b (w.alloc (.cells #[.int .i64 xa, .int .i64 b, .int .i64 0] 31))) := hid (by
  have hb : Below w.heap.size w (w.alloc (.cells #[.int .i64 xa, .int .i64 b, .int .i64 0] 31)) := (Below.refl _ _).alloc (Nat.le_refl _) _
  exact ⟨hw.below hb, ⟨hb.mono hB, .of_below hb⟩, heap_alloc_new _ _, hdk.below (hb.mono hB)⟩)
 have HT := hid hT
 have HG := hid hg
 have hnf := run_read_nil pl pb
 have b0 : (0 : Int) ≤ (b : Int) := by omega
 have b1' : (b : Int) < 4096 := by omega
 clear hT hw hdk hg
 generalize hTt : Forks.textOf v b = T at *
 have hs : T.toList.isEmpty = true := by
  rw [List.isEmpty_iff, ByteArray.toList_eq]
  exact List.eq_nil_of_length_eq_zero (by rw [list_length]; exact hem)
 clear hem
 have HEN : Hid (Ents.EncOk l leaf) := hid (Ents.dec_some hdec).1
 have hl1 : 1 ≤ l.length := HEN.out.1
 have hl0 : (0 : Int) < (l.length : Int) := by omega
 have HDD := hid hdec
 clear hdec
 have hk1 : ((k : Int) + 1 == 1) = leaf := by rw [hk, Bool.eq_iff_iff, beq_iff_eq, beq_iff_eq]; omega
 have hk2 : ((k : Int) == 0) = leaf := by rw [hk, Bool.eq_iff_iff, beq_iff_eq, beq_iff_eq]; omega
 have HK := hid hk
 clear hk
 clear hTt
 go_enter Tryz.func126, Tryz.ntmps126
 go_upto_region 1 with fail
 generalize w.alloc _ = wx at *
 generalize hY : w.heap.size = Y at *
 have HY := hid hY
 clear hY
 obtain ⟨c0, c1, c3, y0, y1⟩ := N0.out.cells
 have ct := N0.out.text T HT.out
 go_quiet (fail)
 have N1 := hid (N0.out.drewN (by rw [HY.out]; exact hB) nq)
 clear N0 c0 c1 c3 y0 y1 ct
 generalize wx.drewN nq = w1 at *
 go_wp2_with fail
 have hrd : Hid (∀ n, Calls Tryz.prog 49 #[.int .i64 b, .pointer (some ⟨pl, 0, none⟩), .pointer (some ⟨pb, 0, none⟩)] (w1.drewN n) fun e w' => e = .returned (.tuple #[.string s, .int .i64 0]) ∧ w' = w1.drewN n) := hid (fun n => (read_any pl pb (N1.out.drewN (by rw [HY.out]; exact hB) n).dk b (by omega) _ ho).mono fun e w' ⟨h1, h2⟩ => ⟨h1, h2.symm⟩)
 obtain ⟨c0, c1, c3, y0, y1⟩ := N1.out.cells
 go_quiet ((go_at_call 49; exact Calls.quiet_of_same (hrd.out _)))
 have N2 := hid (N1.out.drewN (by rw [HY.out]; exact hB) nq)
 clear N1 c0 c1 c3 y0 y1 hrd
 generalize w1.drewN nq = w2 at *
 have hd := hid (decode_any s w2 hss)
 go_wp2_with fail
 refine hd.out.mono ?_
 rintro e w3 ⟨o3, b3⟩
 unfold DecOut at o3
 rw [HDD.out] at o3
 obtain ⟨u, rfl, ho3⟩ := o3
 have ho3 : OwnEnts w2.heap.size w3 u l := ho3
 have N3 := hid (N2.out.below (by rw [HY.out]; exact hB) b3)
 obtain ⟨g, cap, rfl, hg0, HL⟩ : ∃ g cap, u = .slice (some ⟨g, 0, none⟩) l.length cap ∧ w3.cell? ⟨g, 0, none⟩ = some (.int .i64 (l.getD 0 (0, 0, 0)).1) ∧ Hid (EntsAt w3 (.slice (some ⟨g, 0, none⟩) l.length cap) l) := by
  have hx := ho3.ents
  rcases ho3.2 with ⟨rfl, h0⟩ | ⟨g, cap, cur, rfl, _⟩
  ·exact absurd h0 (by omega)
  ·obtain ⟨_, g', off, e', c0, _⟩ := hx.ext.cells 0 (by omega)
   cases e'
   exact ⟨g, cap, rfl, by simpa using c0, hid hx⟩
 clear b3 ho3
 rw [hlg] at hg0
 have HGs := hid HG.out
 obtain ⟨-, -, -, y0, -⟩ := N3.out.cells
 go_wp2_with fail
 go_quiet (fail)
 have N4 := hid (N3.out.drewN (by rw [HY.out]; exact hB) nq)
 have HL4 := hid (show EntsAt (w3.drewN nq) (.slice (some ⟨g, 0, none⟩) l.length cap) l from HL.out.keep (KeepE.refl _))
 clear N3 y0 hg0 HL
 generalize w3.drewN nq = w4 at *
 go_wp2_with fail
 obtain ⟨c0, c1, c3, y0, y1⟩ := N4.out.cells
 have ct := N4.out.text T HT.out
 have ft := N4.out.raw.tb.free b (by rw [List.length_map, Forks.texts_len]; omega)
 refine wp_region_still_tail 8 (by kernel_rfl) (by kernel_rfl) ?_
 simp only [List.take_succ_cons, List.take_zero, List.drop_succ_cons, List.drop_zero]
 repeat still_step
 refine wpStill_nil ?_
 change wpList _ _ _ _ _ w4.drew
 go_upto_region 10 with fail
 have N5 : Hid (NSt B X Lb Tb Y w _ dk lv rv ((Forks.texts v).set b s) (Forks.lvl v) (Forks.rowV v) xa b (w4.setCell ⟨Tb, b, none⟩ (.string s)).drew) := hid ((N4.out.put b s).below (by rw [HY.out]; exact hB) ((Below.refl _ _).drew))
 have HL5 := hid (show EntsAt (w4.setCell ⟨Tb, b, none⟩ (.string s)).drew (.slice (some ⟨g, 0, none⟩) l.length cap) l from (HL4.out.keep (N4.out.put_keep b s)).keep (.of_below (Below.refl _ _).drew))
 clear N4 HL4 c0 c1 c3 y0 y1 ct ft
 generalize (w4.setCell ⟨Tb, b, none⟩ (.string s)).drew = w5 at *
 obtain ⟨c0, c1, c3, y0, y1⟩ := N5.out.cells
 obtain ⟨u, hu⟩ : ∃ u, lv[k]? = some u := ⟨lv[k]'(by omega), List.getElem?_eq_getElem (by omega)⟩
 obtain ⟨cs, hro, hnc⟩ := N5.out.raw.lvl k u hu
 have hLl := Forks.lvl_len HG.out (k + 1)
 obtain ⟨adn, con, rfl⟩ : ∃ adn con, u = .slice adn (Forks.lvl v (k + 1)).length con := (show OwnNodes B w5 u (Forks.lvl v (k + 1)) from ⟨cs, hro, hnc⟩).slice
 have cu := N5.out.raw.lb.cellAt k hu
 have bA : Below w5.heap.size w5 (w5.drew.alloc (.cells #[.int .i64 b, .slice (some ⟨g, 0, none⟩) l.length cap] 131)) := (Below.refl _ _).drew.alloc (Nat.le_refl _) _
 have hB5 : B ≤ w5.heap.size := by have := N5.out.bel.1.size; rw [HY.out] at this; omega
 have N6 := hid (N5.out.below (by rw [HY.out]; exact hB) bA)
 have HL6 := hid (HL5.out.keep (.of_below bA))
 have HO := hid (show (w5.drew.alloc (.cells #[.int .i64 b, .slice (some ⟨g, 0, none⟩) l.length cap] 131)).ownsRow B 131 2 (.slice adn (Forks.lvl v (k + 1)).length con) (Forks.lvl v (k + 1)).length cs from own_below hro bA)
 have HC := hid (hnc.keep (.of_below bA))
 have HNN : Hid (∀ jj uu, [Value.int .i64 b, .slice (some ⟨g, 0, none⟩) l.length cap][jj]? = some uu → (w5.drew.alloc (.cells #[.int .i64 b, .slice (some ⟨g, 0, none⟩) l.length cap] 131)).cell? ((⟨w5.heap.size, 0, none⟩ : Addr).add jj) = some uu) := hid (fun jj uu hjj => by
  have hadd : (⟨w5.heap.size, 0, none⟩ : Addr).add jj = ⟨w5.heap.size, jj, none⟩ := by unfold Addr.add; split <;> simp_all
  rw [hadd]
  exact (World.cell?_alloc_at (w := w5.drew) _ _ _ jj rfl).trans (by simpa using hjj))
 have zL := N5.out.raw.lb.lt
 have zX := N5.out.raw.lt
 have zY := lt_of_block N5.out.box
 have hone : ∀ uu ∈ [Value.int .i64 b, .slice (some ⟨g, 0, none⟩) l.length cap], uu.oneCell' = true := by
  intro uu huu
  simp at huu
  rcases huu with rfl | rfl <;> rfl
 have hBs2 : B ≤ (w5.drew.alloc (.cells #[.int .i64 b, .slice (some ⟨g, 0, none⟩) l.length cap] 131)).heap.size := by simp; omega
 have hkl : (k : Int) < (lv.length : Int) := by omega
 have hk0 : (0 : Int) ≤ (k : Int) := by omega
 have hkw : IntKind.i64.wrap (k : Int) = (k : Int) := IntWalk.i64_in _ (by omega)
 have HLD := hid hld
 clear hld
 have HU := hid (show lv[k]? = some (.slice adn (Forks.lvl v (k + 1)).length con) from hu)
 have HH := hid hh
 clear bA hro hnc N5 HL5 hu hh
 generalize hn : (Forks.lvl v (k + 1)).length = n at *
 have Hn := hid hn
 clear hn
 go_cut [90] from 71 to 91 (fun p wc => ∃ g5 c5 : Nat, p = .slice (some ⟨g5, 0, none⟩) (n + 1) c5 ∧ Hid (WRaw B X Lb Tb wc (.func (.func 49) #[] #[.pointer (some ⟨pl, 0, none⟩), .pointer (some ⟨pb, 0, none⟩)]) (lv.set k (.slice (some ⟨g5, 0, none⟩) (n + 1) c5)) rv (Forks.texts (v ++ [⟨b, k + 1, l, s⟩])) (Forks.lvl (v ++ [⟨b, k + 1, l, s⟩])) (Forks.rowV v) ∧ (Below B w wc ∧ KeepE w wc) ∧ EntsAt wc (.slice (some ⟨g, 0, none⟩) l.length cap) l))
 case first =>
  go_region_law (refine step_append_lies _ rfl (.tmp 84) (.tmp 89) 128 rfl B 131 i0' (.agg #[.int .i64 0, .slice none 0 0]) 2 32 Tryz.underlying128 hi0 hz0 hz1 hz2 rfl (by decide) (.slice adn n con) n cs (by simp [Act.eval, Act.put]; done) HO.out ⟨w5.heap.size, 0, none⟩ 1 1 [.int .i64 b, .slice (some ⟨g, 0, none⟩) l.length cap] (by simp [Act.eval, Act.put]; done) rfl HNN.out hone (by decide) (by unfold maxLen; omega) (by omega) hBs2 _ rfl ?_; intro g5 c5 w6 hown hgrow hat hlt5; have L6 := N6.out.raw.lb.kept HO.out hgrow (by decide); have cL6 := L6.cellAt k HU.out; have fL6 := L6.free k (by omega); have X6 := kept_other HO.out hgrow N6.out.raw.x (by decide); have cX6 : w6.cell? ⟨X, 1, none⟩ = some (.slice (some ⟨Lb, 0, none⟩) lv.length lv.length) := cell_of_row w6 X 1 _ _ _ X6)
  all_goals
   rw [← Hn.out] at hown
   have R8 := node_pushed N6.out HH.out (by omega) HU.out (by rw [Hn.out]; exact HO.out) HC.out hgrow HL6.out hown hat hBs2
   rw [Hn.out] at R8
   have R9 := hid (And.intro R8.1 (And.intro R8.2.1 (HL6.out.keep R8.2.2)))
   clear R8 hown hgrow hat hlt5 L6 cL6 fL6 X6 cX6
   first | (go_step; go_meet; exact ⟨g5, c5, rfl, R9⟩) | (go_step; go_step; go_meet; exact ⟨g5, c5, rfl, R9⟩) | (go_meet; exact ⟨g5, c5, rfl, R9⟩)
 obtain ⟨g5, c5, rfl, R9⟩ := hcut
 have hBc : B ≤ wc.heap.size := by have := R9.out.2.1.1.size; rw [HY.out] at this; omega
 clear hk1 hk2
 cases leaf
 case true =>
  have hk0' : k = 0 := by have := HK.out; simpa using this.symm
  have hadd := hid (add_any R9.out.1 (.slice (some ⟨g, 0, none⟩) l.length cap) l (fun wz _ hz => (R9.out.2.2.keep hz).ext) (by have := HEN.out.2.1; have := HGs.out.row_len; omega) hBc)
  go_wp2_with fail
  refine hadd.out.mono ?_
  rintro e w8 ⟨rfl, ⟨rv', hw8⟩, hb8, hk8⟩
  have F := hid (WOut.ok (X := X) (rdv := (.func (.func 49) #[] #[.pointer (some ⟨pl, 0, none⟩), .pointer (some ⟨pb, 0, none⟩)])) (d := d) (v := v ++ [⟨b, k + 1, l, s⟩]) (by have := hr.out; simpa using this) ⟨R9.out.2.1.1.trans hb8, R9.out.2.1.2.trans hk8⟩ ⟨Lb, Tb, lv.set k (.slice (some ⟨g5, 0, none⟩) (n + 1) c5), rv', by rw [List.length_set]; exact HLD.out, by have := hw8; rw [show k + 1 = 1 by omega] at this ⊢; rw [Forks.rowV_leaf]; exact this⟩ hG2.out)
  clear hw8 hb8 hk8
  go_wp2_with fail
  go_ret
  exact F.out
 case false =>
  have hk0' : k ≠ 0 := by have := HK.out; simpa using this.symm
  have hW9 : WAt B X wc (.func (.func 49) #[] #[.pointer (some ⟨pl, 0, none⟩), .pointer (some ⟨pb, 0, none⟩)]) d (v ++ [⟨b, k + 1, l, s⟩]) := ⟨Lb, Tb, lv.set k (.slice (some ⟨g5, 0, none⟩) (n + 1) c5), rv, by rw [List.length_set]; exact HLD.out, by rw [Forks.rowV_other _ _ _ _ _ (by omega)]; exact R9.out.1⟩
  have hcall := hid (HALL.out rfl wc _ _ l hW9 hG2.out (HDK.out.below R9.out.2.1.1) R9.out.2.2 HEN.out hBc)
  have hr' := hid (hr.out.trans (if_neg (by decide)))
  clear hW9
  have hkw3 : IntKind.i64.wrap ((k : Int) + 1 - 1) = (k : Int) := by rw [IntWalk.i64_in _ (by omega)]; omega
  go_wp2_with fail
  refine hcall.out.mono ?_
  rintro e w8 h8
  have R10 := hid R9.out.2.1
  cases hcr : child l (v ++ [⟨b, k + 1, l, s⟩]) with
  | error j =>
   rw [hcr] at h8
   obtain ⟨hb8, hk8, rfl, hj⟩ := h8
   have F := hid (WOut.err (w := w) (w' := w8) (X := X) (rdv := (.func (.func 49) #[] #[.pointer (some ⟨pl, 0, none⟩), .pointer (some ⟨pb, 0, none⟩)])) (d := d) (hr'.out.trans hcr) hj ⟨R10.out.1.trans hb8, R10.out.2.trans hk8⟩)
   clear hb8 hk8 hj hcr
   go_wp2_with fail
   go_ret
   exact F.out
  | ok v2 =>
   rw [hcr] at h8
   obtain ⟨hb8, hk8, rfl, hw8, hg8⟩ := h8
   have F := hid (WOut.ok (w := w) (w' := w8) (X := X) (rdv := (.func (.func 49) #[] #[.pointer (some ⟨pl, 0, none⟩), .pointer (some ⟨pb, 0, none⟩)])) (d := d) (hr'.out.trans hcr) ⟨R10.out.1.trans hb8, R10.out.2.trans hk8⟩ hw8 hg8)
   clear hb8 hk8 hw8 hg8 hcr
   go_wp2_with fail
   go_ret
   exact F.out
end Go.Proofs.YtgjmeeiejcbjfaaGreat
