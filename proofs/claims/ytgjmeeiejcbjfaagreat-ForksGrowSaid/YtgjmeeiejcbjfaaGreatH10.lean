/- Entries: Put, Get. -/
import Derived.Test.YtgjmeeiejcbjfaaGreatH08
import Derived.Test.YtgjmeeiejcbjfaaGreatH09
set_option linter.unusedSimpArgs false
set_option linter.unusedVariables false
namespace Go.Proofs.YtgjmeeiejcbjfaaGreat
open Go.Lib (hid)
open Go Go.RowKit
theorem splice_splice (l : Bytes) (a : Nat) (b c : Bytes) (h : a + b.length + c.length ≤ l.length) : splice (splice l a b) (a + b.length) c = splice l a (b ++ c) := by
 have hl : (l.take a ++ b).length = a + b.length := by simp; omega
 have e : splice l a b = (l.take a ++ b) ++ l.drop (a + b.length) := by simp [splice]
 unfold splice at e ⊢
 rw [e]
 rw [List.take_append_of_le_length (by rw [hl]; exact Nat.le_refl _), List.take_of_length_le (by rw [hl]; exact Nat.le_refl _)]
 rw [List.drop_append, List.drop_of_length_le (by rw [hl]; omega), hl, List.nil_append, List.drop_drop]
 simp only [List.append_assoc, List.length_append]
 congr 4
 omega
theorem put_three (S : Bytes) (a : Nat) (b : Bytes) (x : Exts.E) (h : a + b.length + 12 ≤ S.length) :
  splice (splice (splice (splice S a b) (a + b.length) (le 4 x.1.toNat)) (a + b.length + 4) (le 4 x.2.1.toNat)) (a + b.length + 4 + 4) (le 4 x.2.2.toNat) = splice S a (b ++ Ents.eb x) := by
 rw [splice_splice S a b _ (by rw [le_length]; omega)]
 have h1 : a + b.length + 4 = a + (b ++ le 4 x.1.toNat).length := by rw [List.length_append, le_length]; omega
 rw [h1, splice_splice S a _ _ (by rw [← h1, le_length]; omega)]
 have h2 : a + (b ++ le 4 x.1.toNat).length + 4 = a + (b ++ le 4 x.1.toNat ++ le 4 x.2.1.toNat).length := by rw [List.length_append (bs := le 4 x.2.1.toNat), le_length]; omega
 rw [h2, splice_splice S a _ _ (by rw [← h2, ← h1, le_length]; omega)]
 simp [Ents.eb]
theorem ebs_take (l : EL) (j : Nat) (hj : j < l.length) : Ents.ebs (l.take (j + 1)) = Ents.ebs (l.take j) ++ Ents.eb (l.getD j (0, 0, 0)) := by
 rw [List.take_succ_eq_append_getElem hj, Ents.ebs_append]
 simp [Ents.ebs, List.getD, hj]
theorem index_three (w : World) (cs : Array Value) (j : Nat) (v : Value) (hj : j < 3) (hv : cs[j]? = some v) : (Instr.index 159 (.agg cs) (.int .i64 (j : Int))).run Tryz.prog w = .ok v w := by
 simp [Instr.index, run_underlying Tryz.underlying159, asIntOf, go_sem, hj, hv, Tryz.isAgg3, Tryz.sizeOf3]
theorem put4_any (S : Bytes) (a : Nat) (n : Int) (hn : 0 ≤ n ∧ n < 4294967296) (hs : S.length ≤ 140737488351232) (h : a + 4 ≤ S.length) (w : World) :
  Calls Tryz.prog 84 #[.string (txt S), .int .i64 a, .int .i64 4, .int .i64 n] w fun e w' => e = .returned (.tuple #[.string (txt (splice S a (le 4 n.toNat))), .bool true]) ∧ Below w.heap.size w w' := by
 have q := putint_yes (txt S) a 4 n.toNat (.inr (.inr (.inl rfl))) (by rw [txt_size]; exact hs) (by rw [txt_size]; exact h) (by omega) (by omega) w
 rw [txt_list] at q
 have e : ((n.toNat : Nat) : Int) = n := by omega
 rw [e] at q
 exact q
set_option maxRecDepth 100000 in
set_option maxHeartbeats 4000000 in
theorem xput_any (S : Bytes) (a : Nat) (v : Value) (l : EL) (w : World) (hf : ∀ x ∈ l, Ents.Fits x) (h : ExtsAt w v l) (hs : S.length ≤ 140737488351232) (ha : a + 12 * l.length ≤ S.length) :
  Calls Tryz.prog 38 #[.string (txt S), .int .i64 a, v] w fun e w' => e = .returned (.string (txt (splice S a (Ents.ebs l)))) ∧ Below w.heap.size w w' := by
 have H := hid h
 have HF := hid hf
 have h0 := hid (splice_nil S a)
 obtain ⟨ad, cap, rfl⟩ := h.form
 clear h hf
 go_enter Tryz.func38, Tryz.ntmps38
 go_wp2_with fail
 go_loopw [0, 1, 15] (fun s p q wr => ∃ j : Nat, j ≤ l.length ∧ q = .int .i64 j ∧ p = .int .i64 (a + 12 * j : Nat) ∧ s = .string (txt (splice S a (Ents.ebs (l.take j)))) ∧ Hid (Below w.heap.size w wr)) (fun _ _ q _ => l.length - (intOf q).toNat)
 case atStart => exact ⟨0, by omega, rfl, rfl, by rw [List.take_zero]; show _ = Value.string (txt (splice S a [])); rw [h0.out], hid (Below.refl _ _)⟩
 case round =>
  obtain ⟨j, hj, rfl, rfl, rfl, hb⟩ := hrel
  by_cases hlt : j < l.length
  ·have i0 : (0 : Int) ≤ (j : Int) := by omega
   have i1 : (j : Int) < (l.length : Int) := by omega
   obtain ⟨hll, g, off, rfl, c0, c1, c2⟩ := (H.out.below (B := 0) hb.out).cells j hlt
   clear hll
   have hfx := hid (HF.out (l.getD j (0, 0, 0)) (by rw [show l.getD j (0, 0, 0) = l[j] by simp [List.getD, hlt]]; exact List.getElem_mem hlt))
   have hT := hid (ebs_take l j hlt)
   have hL := hid (Ents.ebs_length (l.take j))
   have hLL := hid (List.length_take (i := j) (l := l))
   have hthree := hid (put_three S a (Ents.ebs (l.take j)) (l.getD j (0, 0, 0)) (by rw [hL.out, hLL.out]; omega))
   generalize hX : l.getD j (0, 0, 0) = x at *
   have HX := hid hX
   clear hX
   have hlen : (Ents.ebs (l.take j)).length = 12 * j := by rw [hL.out, hLL.out]; omega
   rw [hlen] at hthree
   have hS1 : a + (Ents.ebs (l.take j)).length ≤ S.length := by omega
   have q1 := hid (fun w => put4_any (splice S a (Ents.ebs (l.take j))) (a + 12 * j) x.1 hfx.out.1 (by rw [splice_length _ _ _ hS1]; exact hs) (by rw [splice_length _ _ _ hS1]; omega) w)
   have s2 : (splice (splice S a (Ents.ebs (l.take j))) (a + 12 * j) (le 4 x.1.toNat)).length = S.length := by
    rw [splice_length _ _ _ (by rw [splice_length _ _ _ hS1, le_length]; omega), splice_length _ _ _ hS1]
   have q2 := hid (fun w => put4_any (splice (splice S a (Ents.ebs (l.take j))) (a + 12 * j) (le 4 x.1.toNat)) (a + 12 * j + 4) x.2.1 hfx.out.2.1 (by rw [s2]; exact hs) (by rw [s2]; omega) w)
   have s3 : (splice (splice (splice S a (Ents.ebs (l.take j))) (a + 12 * j) (le 4 x.1.toNat)) (a + 12 * j + 4) (le 4 x.2.1.toNat)).length = S.length := by
    rw [splice_length _ _ _ (by rw [s2, le_length]; omega), s2]
   have q3 := hid (fun w => put4_any (splice (splice (splice S a (Ents.ebs (l.take j))) (a + 12 * j) (le 4 x.1.toNat)) (a + 12 * j + 4) (le 4 x.2.1.toNat)) (a + 12 * j + 4 + 4) x.2.2 hfx.out.2.2 (by rw [s3]; exact hs) (by rw [s3]; omega) w)
   clear s2 s3 hlen hS1
   generalize splice S a (Ents.ebs (l.take j)) = Z0 at *
   obtain ⟨x1, x2, x3⟩ := x
   dsimp only at *
   generalize splice Z0 (a + 12 * j) (le 4 x1.toNat) = Z1 at *
   generalize splice Z1 (a + 12 * j + 4) (le 4 x2.toNat) = Z2 at *
   generalize splice Z2 (a + 12 * j + 4 + 4) (le 4 x3.toNat) = Z3 at *
   have hnext : Hid (Z3 = splice S a (Ents.ebs (l.take (j + 1)))) := hid (by rw [hT.out]; exact hthree.out)
   clear hT HX hthree
   have P0 : ((a + 12 * j : Nat) : Int) ≤ 140737488351232 := by omega
   have P1 : (0 : Int) ≤ ((a + 12 * j : Nat) : Int) := by omega
   generalize hP : a + 12 * j = p at *
   have HP := hid hP
   clear hP
   have e1 : ((p + 4 : Nat) : Int) = (p : Int) + 4 := by omega
   have e2 : ((p + 4 + 4 : Nat) : Int) = (p : Int) + 4 + 4 := by omega
   rw [e1] at q2
   rw [e2] at q3
   clear e1 e2
   go_wp2_with fail
   have I0 : ∀ w, (Instr.index 159 (.agg #[.int .i64 x1, .int .i64 x2, .int .i64 x3]) (.int .i64 0)).run Tryz.prog w = .ok (.int .i64 x1) w := fun w => index_three w _ 0 _ (by decide) rfl
   have I1 : ∀ w, (Instr.index 159 (.agg #[.int .i64 x1, .int .i64 x2, .int .i64 x3]) (.int .i64 1)).run Tryz.prog w = .ok (.int .i64 x2) w := fun w => index_three w _ 1 _ (by decide) rfl
   have I2 : ∀ w, (Instr.index 159 (.agg #[.int .i64 x1, .int .i64 x2, .int .i64 x3]) (.int .i64 2)).run Tryz.prog w = .ok (.int .i64 x3) w := fun w => index_three w _ 2 _ (by decide) rfl
   refine wp_loop_rounds 4 ?_
   rw [rounds_succ]
   go_wp2_with fail
   refine (q1.out _).mono ?_
   rintro e w1 ⟨rfl, b1⟩
   have B1 := hid ((hb.out.alloc hb.out.size (.cells #[.int .i64 x1, .int .i64 x2, .int .i64 x3] 31)).trans (b1.mono (by have := hb.out.size; simp; omega)))
   clear b1 hb
   go_wp2_with fail
   rw [rounds_succ]
   go_wp2_with fail
   refine (q2.out _).mono ?_
   rintro e w2 ⟨rfl, b2⟩
   have B2 := hid (B1.out.trans (b2.mono B1.out.size))
   clear b2 B1
   go_wp2_with fail
   rw [rounds_succ]
   go_wp2_with fail
   refine (q3.out _).mono ?_
   rintro e w3 ⟨rfl, b3⟩
   have B3 := hid (B2.out.trans (b3.mono B2.out.size))
   clear b3 B2
   go_wp2_with fail
   rw [rounds_succ]
   go_wp2_with fail
   go_roundw
   case rel => exact ⟨j + 1, by omega, by go_num, by have := HP.out; congr 1; omega, by rw [hnext.out], B3⟩
   case measure => simp [intOf]; omega
  ·obtain rfl : j = l.length := by omega
   have hT : Hid (l.take l.length = l) := hid (List.take_length)
   go_wp2_with fail
   go_ret
   exact ⟨by rw [hT.out]; rfl, hb.out⟩
theorem info_entry : (Tryz.prog.info? 31).map (fun i => (i.zero, i.size, i.bytes)) = some (some (.agg #[.int .i64 0, .int .i64 0, .int .i64 0]), 3, 24) := by kernel_rfl
def OwnEnts (B : Nat) (w : World) (v : Value) (l : EL) : Prop := w.ownsRow B 31 3 v l.length (ecells l)
theorem OwnEnts.at {B : Nat} {w : World} {v : Value} {l : EL} (h : OwnEnts B w v l) : ExtsAt w v l := by
 rcases h.2 with ⟨rfl, hn⟩ | ⟨g, cap, cur, rfl, hg, hh, h1, h2, h3, h4⟩
 ·exact .inl ⟨rfl, List.eq_nil_of_length_eq_zero hn⟩
 ·refine .inr ⟨g, 0, cap, rfl, fun j u hu => ?_⟩
  have hj : j < l.length * 3 := by
   have := (List.getElem?_eq_some_iff.1 hu).1
   rwa [ecells_length] at this
  rw [Nat.zero_add]
  have e : (cur.toList.take (l.length * 3))[j]? = some u := by rw [h4]; exact hu
  rw [List.getElem?_take, if_pos hj, Array.getElem?_toList] at e
  simp [World.cell?, hh, e]
theorem OwnEnts.below {B : Nat} {w w' : World} {v : Value} {l : EL} (h : OwnEnts B w v l) (hb : Below w.heap.size w w') : OwnEnts B w' v l :=
 ⟨h.1, h.2.imp id (fun ⟨g, cap, cur, hv, hg, hh, r⟩ => ⟨g, cap, cur, hv, hg, by rw [hb.block g (lt_of_block hh)]; exact hh, r⟩)⟩
theorem OwnEnts.mono {B B' : Nat} {w : World} {v : Value} {l : EL} (h : OwnEnts B w v l) (hb : B' ≤ B) : OwnEnts B' w v l := World.ownsRow.mono h hb
theorem OwnEnts.slice {B : Nat} {w : World} {v : Value} {l : EL} (h : OwnEnts B w v l) : ∃ ad c, v = .slice ad l.length c := by
 rcases h.2 with ⟨rfl, hn⟩ | ⟨g, cap, cur, rfl, _⟩
 ·exact ⟨_, _, by rw [hn]⟩
 ·exact ⟨_, _, rfl⟩
theorem heap_alloc_new2 (w : World) (o o' : Obj) : ((w.alloc o).alloc o').heap[w.heap.size + 1]? = some o' := by
 have := heap_alloc_new (w.alloc o) o'
 simpa using this
theorem index_threeP (w : World) (cs : Array Value) (j : Nat) (v : Value) (hj : j < 3) (hv : cs[j]? = some v) : (Instr.index 178 (.agg cs) (.int .i64 (j : Int))).run Tryz.prog w = .ok v w := by
 simp [Instr.index, run_underlying Tryz.underlying178, asIntOf, go_sem, hj, hv, Tryz.isAgg177, Tryz.sizeOf177]
theorem getint4_any (s : ByteArray) (a : Nat) (hs : s.size ≤ 140737488351232) (h : a + 4 ≤ s.size) (w : World) :
  Calls Tryz.prog 93 #[.string s, .int .i64 a, .int .i64 4] w fun e w' => e = .returned (.tuple #[.int .i64 (getW s.data.toList a 4 : Nat), .bool true]) ∧ w = w' :=
 getint_yes s a 4 (.inr (.inr (.inl rfl))) hs h (by have := get4_lt s.data.toList a; omega) w
set_option maxRecDepth 100000 in
set_option maxHeartbeats 4000000 in
theorem xget_any (s : ByteArray) (a n : Nat) (w : World) (hs : s.size ≤ 140737488351232) (ha : a + 12 * n ≤ s.size) (hn : n ≤ 1000000) :
  Calls Tryz.prog 42 #[.string s, .int .i64 a, .int .i64 n] w fun e w' => ∃ v, e = .returned v ∧ OwnEnts w.heap.size w' v (Ents.getL s.data.toList a n) ∧ Below w.heap.size w w' := by
 obtain ⟨i0, hi0, hz0, hz1, hz2⟩ := info_parts info_entry
 have q := hid (fun p h w => getint4_any s p hs h w)
 go_enter Tryz.func42, Tryz.ntmps42
 go_wp2_with fail
 go_loopw [1, 7, 12] (fun p o q wr => ∃ (j : Nat) (u : Value), j ≤ n ∧ u = o ∧ q = .int .i64 j ∧ p = .int .i64 (a + 12 * j : Nat) ∧ Hid (OwnEnts w.heap.size wr u (Ents.getL s.data.toList a j)) ∧ Hid (Below w.heap.size w wr)) (fun _ _ q _ => n - (intOf q).toNat)
 case atStart => exact ⟨0, _, by omega, rfl, rfl, rfl, hid (World.ownsRow_nil _ _ _ _), hid (Below.refl _ _)⟩
 case round =>
  obtain ⟨j, v, hj, rfl, rfl, rfl, ho, hb⟩ := hrel
  by_cases hlt : j < n
  ·obtain ⟨ad, co, rfl⟩ := ho.out.slice
   have q1 := hid (fun w => q.out (a + 12 * j) (by omega) w)
   have q2 := hid (fun w => q.out (a + 12 * j + 4) (by omega) w)
   have q3 := hid (fun w => q.out (a + 12 * j + 8) (by omega) w)
   have hE : Hid (Ents.getL s.data.toList a (j + 1) = Ents.getL s.data.toList a j ++ [(((getW s.data.toList (a + 12 * j) 4 : Nat) : Int), ((getW s.data.toList (a + 12 * j + 4) 4 : Nat) : Int), ((getW s.data.toList (a + 12 * j + 8) 4 : Nat) : Int))]) := hid rfl
   have hlen := hid (Ents.getL_length s.data.toList a j)
   have P0 : ((a + 12 * j : Nat) : Int) ≤ 140737488351232 := by omega
   have P1 : (0 : Int) ≤ ((a + 12 * j : Nat) : Int) := by omega
   generalize hP : a + 12 * j = p at *
   have HP := hid hP
   clear hP
   have e1 : ((p + 4 : Nat) : Int) = (p : Int) + 4 := by omega
   have e2 : ((p + 8 : Nat) : Int) = (p : Int) + 4 + 4 := by omega
   rw [e1] at q2
   rw [e2] at q3
   clear e1 e2
   generalize getW s.data.toList p 4 = y1 at *
   generalize getW s.data.toList (p + 4) 4 = y2 at *
   generalize getW s.data.toList (p + 8) 4 = y3 at *
   generalize Ents.getL s.data.toList a j = L at *
   have I0 : ∀ w p0 p1 p2, (Instr.index 178 (.agg #[.pointer p0, .pointer p1, .pointer p2]) (.int .i64 0)).run Tryz.prog w = .ok (.pointer p0) w := fun w p0 p1 p2 => index_threeP w _ 0 _ (by decide) rfl
   have I1 : ∀ w p0 p1 p2, (Instr.index 178 (.agg #[.pointer p0, .pointer p1, .pointer p2]) (.int .i64 1)).run Tryz.prog w = .ok (.pointer p1) w := fun w p0 p1 p2 => index_threeP w _ 1 _ (by decide) rfl
   have I2 : ∀ w p0 p1 p2, (Instr.index 178 (.agg #[.pointer p0, .pointer p1, .pointer p2]) (.int .i64 2)).run Tryz.prog w = .ok (.pointer p2) w := fun w p0 p1 p2 => index_threeP w _ 2 _ (by decide) rfl
   go_wp2_with fail
   refine wp_loop_rounds 4 ?_
   rw [rounds_succ]
   go_wp2_with fail
   refine (q1.out _).mono ?_
   rintro e w1 ⟨rfl, rfl⟩
   go_wp2_with fail
   rw [rounds_succ]
   go_wp2_with fail
   refine (q2.out _).mono ?_
   rintro e w1 ⟨rfl, rfl⟩
   go_wp2_with fail
   rw [rounds_succ]
   go_wp2_with fail
   refine (q3.out _).mono ?_
   rintro e w1 ⟨rfl, rfl⟩
   go_wp2_with fail
   rw [rounds_succ]
   have hone := ecells_one [((y1 : Int), (y2 : Int), (y3 : Int))]
   have hLn : L.length ≤ 1000000 := by rw [hlen.out]; omega
   have HO := hid (show World.ownsRow _ w.heap.size 31 3 (.slice ad L.length co) L.length (ecells L) from ho.out.below ((Below.refl _ _).alloc (Nat.le_refl _) (.cells #[.int .i64 y1, .int .i64 y2, .int .i64 y3] 31)))
   have HB := hid (hb.out.alloc hb.out.size (.cells #[.int .i64 y1, .int .i64 y2, .int .i64 y3] 31))
   clear ho hb
   go_wp2_with (first
    | (at_builtin; refine wpList_append_own _ rfl (.tmp 32) (.tmp 34) 22 rfl w.heap.size 31 i0 (.agg #[.int .i64 0, .int .i64 0, .int .i64 0]) 3 24 Tryz.underlying22 hi0 hz0 hz1 hz2 rfl (by decide) _ L.length _ rfl (HO.out.alloc _) ⟨wr.heap.size + 1, 0, none⟩ 1 1 [.int .i64 y1, .int .i64 y2, .int .i64 y3] rfl rfl (World.news_of_block (heap_alloc_new2 _ _ _)) hone (by unfold maxLen; omega) (by omega) (by have := HB.out.size; simp at this ⊢; omega) ?_))
   intro v' w1 hown1 hgrow _
   have HW := hid ((HB.out.alloc HB.out.size (.cells #[.int .i64 y1, .int .i64 y2, .int .i64 y3] 31)).grown hgrow (by have := HB.out.size; simp at this ⊢; omega) (fun k hk => (HO.out.lt k hk).1))
   have HG : Hid (OwnEnts w.heap.size w1 v' (Ents.getL s.data.toList a (j + 1))) := hid (by
    rw [hE.out]
    unfold OwnEnts
    rw [List.length_append, ecells_append]
    exact hown1)
   clear hown1 hgrow
   go_wp2_with fail
   go_roundw
   case rel => exact ⟨j + 1, v', by omega, rfl, by go_num, by have := HP.out; congr 1; omega, HG, HW⟩
   case measure => simp [intOf]; omega
  ·obtain rfl : j = n := by omega
   go_wp2_with fail
   go_ret
   exact ⟨_, rfl, ho.out, hb.out⟩
end Go.Proofs.YtgjmeeiejcbjfaaGreat
