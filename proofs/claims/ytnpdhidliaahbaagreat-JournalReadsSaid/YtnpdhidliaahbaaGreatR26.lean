/- The journal: told. -/
import Derived.Test.YtnpdhidliaahbaaGreatR25
set_option linter.unusedSimpArgs false
set_option linter.unusedVariables false
namespace Go.Proofs.YtnpdhidliaahbaaGreat
open Go.Lib (hid)
open Go Go.RowKit Go.Shelf Go.Proofs
attribute [local go_sem] Oper.semAt_some
set_option maxRecDepth 100000 in
set_option maxHeartbeats 16000000 in
theorem told_any {hm : Int → Bool} (hs : Jr.Small hm) (vc vr : Value) (t : Jr.Txn) (seq : Nat) (w : World) (hC : ChgsAt w vc t.ch) (hI : IntsAt w vr t.rv) (hok : Jr.Ok hm t) (hq : seq < 2 ^ 64) (hl : t.ch.length ≤ 1000000) (hr : t.rv.length ≤ 1000000) (hsize : Jr.size t ≤ 1000000)
  (hcc : ∀ ad n cap, vc = .slice (some ad) n cap → n ≤ cap) (hcr : ∀ ad n cap, vr = .slice (some ad) n cap → n ≤ cap) :
  Calls Tryz.prog 69 #[.agg #[vc, vr], .int .u64 (seq : Int)] w fun e w' => ∃ v, e = .returned v ∧ w'.ownsRow w.heap.size 9 1 v (Jr.told t seq).length (strs (Jr.told t seq)) ∧ Below w.heap.size w w' := by
 obtain ⟨ac, cc, rfl⟩ := hC.form
 obtain ⟨ar, cr, rfl⟩ := hI.form
 have HC := hid hC
 have HI := hid hI
 refine (callsIn_wide (n := 6)).1 ?_
 refine callsIn_of_wp_marks Tryz.func69 rfl trivial ?_ rfl
 simp only [Tryz.ntmps69, List.size_toArray, List.length_cons, List.length_nil, Nat.reduceAdd, Nat.reduceSub, Array.replicate_succ, Array.replicate_zero, List.push_toArray, List.append_toArray, List.nil_append, List.cons_append]
 gi_wp2_with fail
 have B3 : Below w.heap.size w (((w.alloc (.cells #[.slice ac t.ch.length cc, .slice ar t.rv.length cr] 25)).alloc (.cells #[.int .u64 (seq : Int)] 35)).alloc (.cells #[.slice none 0 0] 39)) := (((Below.refl w.heap.size w).alloc (Nat.le_refl _) _).alloc (by simp) _).alloc (by simp; omega) _
 have HT3 := hid (((Row.new w 25 [.slice ac t.ch.length cc, .slice ar t.rv.length cr] rfl).alloc (.cells #[.int .u64 (seq : Int)] 35)).alloc (.cells #[.slice none 0 0] 39))
 have HS3 := (Boxed.new (w.alloc (.cells #[.slice ac t.ch.length cc, .slice ar t.rv.length cr] 25)) 35 (.int .u64 (seq : Int))).alloc (.cells #[.slice none 0 0] 39)
 have HO3 := Boxed.new ((w.alloc (.cells #[.slice ac t.ch.length cc, .slice ar t.rv.length cr] 25)).alloc (.cells #[.int .u64 (seq : Int)] 35)) 39 (.slice none 0 0)
 have hz3 : w.heap.size + 1 + 1 < (((w.alloc (.cells #[.slice ac t.ch.length cc, .slice ar t.rv.length cr] 25)).alloc (.cells #[.int .u64 (seq : Int)] 35)).alloc (.cells #[.slice none 0 0] 39)).heap.size := by simp
 rw [World.size_alloc] at HS3 HO3
 rw [World.size_alloc] at HO3
 have HB3 := hid B3
 have HS3 := hid HS3
 have HO3 := hid HO3
 clear B3
 generalize (World.alloc _ (.cells #[.slice none 0 0] 39)) = w3 at *
 obtain ⟨C1, hC1⟩ : ∃ o : Obj, .cells #[.slice ar t.rv.length cr] 23 = o := ⟨_, rfl⟩
 obtain ⟨C2, hC2⟩ : ∃ o : Obj, .cells #[.int .i64 28] 3 = o := ⟨_, rfl⟩
 have d1 : ((w3.alloc C1).alloc C2).cell? ⟨w3.heap.size, 0, none⟩ = some (.slice ar t.rv.length cr) := by
  rw [← hC1, ← hC2]
  exact (((Row.new w3 23 [.slice ar t.rv.length cr] rfl).alloc (.cells #[.int .i64 28] 3)).cellAt 0 rfl)
 have d2 : ((w3.alloc C1).alloc C2).cell? ⟨w3.heap.size + 1, 0, none⟩ = some (.int .i64 ((28 : Nat) : Int)) := by
  rw [← hC2]
  have := (Row.new (w3.alloc C1) 3 [.int .i64 28] rfl).cellAt 0 rfl
  rw [World.size_alloc] at this
  exact this
 have hbx : Boxed ((w3.alloc C1).alloc C2) w3.heap.size 23 (.slice ar t.rv.length cr) ∧ Boxed ((w3.alloc C1).alloc C2) (w3.heap.size + 1) 3 (.int .i64 28) := by
  rw [← hC1, ← hC2]
  refine ⟨(Boxed.new w3 _ _).alloc _, ?_⟩
  have := Boxed.new (w3.alloc (.cells #[.slice ar t.rv.length cr] 23)) 3 (.int .i64 28)
  rwa [World.size_alloc] at this
 have HBX := hid hbx
 clear hbx
 have HI0 : ToldI w [.slice ac t.ch.length cc, .slice ar t.rv.length cr] w.heap.size (w.heap.size + 1 + 1) (w.heap.size + 1) seq ((w3.alloc C1).alloc C2) [] :=
  ⟨⟨_, (HO3.out.alloc C1).alloc C2, World.ownsRow_nil _ _ _ _⟩, (HS3.out.alloc C1).alloc C2, (HT3.out.alloc C1).alloc C2, (HB3.out.alloc HB3.out.size C1).alloc (by have := HB3.out.size; simp; omega) C2⟩
 obtain ⟨gA, offA, hseqA, hcA⟩ := chunkI_seq (n := 5) (by decide) (by decide : 0 < 28) (by decide) hr HI.out hcr d1 d2
 have hz5 : w3.heap.size + 1 < ((w3.alloc C1).alloc C2).heap.size := by simp
 have HSA := hid hseqA
 have HCA := hid hcA
 have HI5 := hid HI0
 clear hseqA hcA HI0 HT3 HS3 HO3 HB3
 have qK := callsIn_wide (n := 5).2 (chunkI_any ar t.rv.length cr 28 (by decide) w3)
 rw [hC1, show Obj.cells #[.int .i64 ((28 : Nat) : Int)] 3 = C2 from hC2] at qK
 have QK := hid qK
 clear qK hC1 hC2 d1 d2
 obtain ⟨w5, hw5⟩ : ∃ x, (w3.alloc C1).alloc C2 = x := ⟨_, rfl⟩
 rw [hw5] at HSA HI5 QK hz5 HBX
 clear hw5
 gi_wp2_with (first | (refine ⟨trivial, ?_⟩; gi_at_call 109; refine QK.out.mono ?_; rintro e w1 ⟨rfl, rfl⟩) | fail "none")
 clear QK
 refine wpIn_rangeFunc_ownF rfl (by decide) (gf := 147) rfl trivial (enters_of Tryz.func147 (by kernel_rfl) rfl) HSA.out (fun h1 h2 => h1.trans h2) (fun W l o o' _ hl hc _ => KB.put _ _ W l o o' hl hc) (Below.refl _ _) (fun _ => rfl)
  (fun pre W => ToldI w [.slice ac t.ch.length cc, .slice ar t.rv.length cr] w.heap.size (w.heap.size + 1 + 1) (w.heap.size + 1) seq W (pre.map fun x => Jr.revB seq (pieceL t.rv x)) ∧ (Boxed W w3.heap.size 23 (.slice ar t.rv.length cr) ∧ Boxed W (w3.heap.size + 1) 3 (.int .i64 28)))
  (fun _ _ _ => False)
  ((toldI_own w _ _ _ _ seq w1.heap.size HI5.out.2.2.2.size _).and (fun _ W W' row h hg hr => by
   have hk := cellsKept_of hg (fun r e => (hr r e).2)
   exact ⟨hk.boxed h.1, hk.boxed h.2⟩))
  (fun _ _ _ _ _ hs _ _ => hs)
  ⟨HI5.out, HBX.out⟩
  ?a1 ?assign ?body ?done ?stop
 case assign =>
  intro l x W K hK
  gi_wp2
  exact hK
 case stop =>
  rintro D c pre W _ _ h _
  exact h.elim
 case body =>
  rintro l pre x W ⟨hI0, hbx1, hbx2⟩ hpre
  have hrev : txt (Rec.encR ⟨3, seq, 0, pieceL t.rv x, [], 0⟩).1 = Jr.revB seq (pieceL t.rv x) := by
   have hx := x.2
   unfold Jr.revB Rec.encR
   have hU : Jr.Ups hm (pieceL t.rv x) := hok.rv.sub ((List.take_sublist _ _).trans (List.drop_sublist _ _))
   rw [if_pos (Jr.rev_may (l := pieceL t.rv x) (seq := seq) hs hU (by rw [pieceL_length]; omega) (by rw [pieceL_length]; omega))]
  gi_wp2
  have hlen : (pre.map fun x => Jr.revB seq (pieceL t.rv x)).length = pre.length := List.length_map _
  obtain ⟨L, hL⟩ : ∃ L, (pre.map fun x => Jr.revB seq (pieceL t.rv x)) = L := ⟨_, rfl⟩
  have HL := hid hL
  rw [hL] at hI0 hlen
  have hLb : L.length ≤ 1000000 := by omega
  have HLEN := hid hlen
  clear hlen
  obtain ⟨⟨v, hO, hown⟩, hSq, hTr, hB⟩ := hI0
  obtain ⟨av, cv, rfl⟩ := own_form hown
  have c5 := hO.cell
  have c3 := hSq.cell
  have f5 := hO.frozen
  have hpc : IntsAt W (pieceV 1 28 gA offA t.rv.length x) (pieceL t.rv x) := piece_ints (fun j u hu => (hB.cell (p := ⟨gA, offA + j, none⟩) (World.block_lt_of_cell? w _ (HCA.out j u hu))).trans (HCA.out j u hu)) x
  have hpl : (pieceL t.rv x).length ≤ 1000000000 := by rw [pieceL_length]; omega
  unfold pieceV at hpc ⊢
  generalize min 28 (t.rv.length - x.1 * 28) = E at hpc ⊢
  generalize offA + x.1 * 28 * 1 = O at hpc ⊢
  have hQR := hid (fun wz (hz : Below W.heap.size W wz) => record_any (.agg #[.int .i64 3, .int .u64 (seq : Int), .int .i64 0, .slice (some ⟨gA, O, none⟩) E E, .slice none 0 0, .int .u32 0]) ⟨3, seq, 0, pieceL t.rv x, [], 0⟩ wz ⟨⟨_, _, rfl, hpc.below hz, .inl ⟨rfl, rfl⟩⟩, hq, (by decide : (0 : Nat) < 2 ^ 32), (by decide : (-9223372036854775808 : Int) ≤ 3 ∧ (3 : Int) ≤ 9223372036854775807), (by decide : (-9223372036854775808 : Int) ≤ 0 ∧ (0 : Int) ≤ 9223372036854775807), ⟨hpl, (by decide : (0 : Nat) ≤ 1000000000)⟩⟩)
  rw [hrev] at hQR
  obtain ⟨R, hRR⟩ : ∃ R, Jr.revB seq (pieceL t.rv x) = R := ⟨_, rfl⟩
  rw [hRR] at hQR
  have HRR := hid hRR
  clear hRR hL
  obtain ⟨i0, hi0, hz0, hz1, hz2⟩ := info_parts infoStr
  refine wpIn_round_E (S := fun W' => W'.cell? ⟨w.heap.size + 1 + 1, 0, none⟩ = some (.slice av L.length cv) ∧ W'.cell? ⟨w.heap.size + 1, 0, none⟩ = some (.int .u64 (seq : Int))) (E := [7]) (by kernel_rfl) (by kernel_rfl) (by rintro ⟨a, w, h⟩; exact h) ⟨c5, c3⟩ (fun hHeld hCl => ?_)
  refine wpAnyE_take (i := 0) (v := .slice av L.length cv) rfl (by kernel_rfl) (by kernel_rfl) (by kernel_rfl) (by kernel_rfl) hCl (fun _ _ _ h => h) (Or.inl ⟨rfl, fun w hSw => (by (try dsimp only at hSw); go_simp)⟩) hHeld (fun hCl => ?_); (try simp only [lL0, lL2, Act.put, lL3, lL4, lL5])
  refine wpAnyE_take (i := 1) (v := .int .u64 (seq : Int)) rfl (by kernel_rfl) (by kernel_rfl) (by kernel_rfl) (by kernel_rfl) hCl (fun _ _ _ h => h) (Or.inl ⟨rfl, fun w hSw => (by (try dsimp only at hSw); go_simp)⟩) hHeld (fun hCl => ?_); (try simp only [lL0, lL1, lL2, Act.put, lL3, lL4, lL5])
  refine wpAnyE_take (i := 2) (v := .slice (some ⟨gA, O, none⟩) E E) rfl (by kernel_rfl) (by kernel_rfl) (by kernel_rfl) (by kernel_rfl) hCl (fun _ _ _ h => h) (Or.inl ⟨rfl, fun w hSw => (by (try dsimp only at hSw); go_simp)⟩) hHeld (fun hCl => ?_); (try simp only [lL0, lL1, lL2, Act.put, lL3, lL4, lL5])
  refine wpAnyE_take (i := 3) (v := .agg #[.int .i64 3, .int .u64 (seq : Int), .int .i64 0, .slice (some ⟨gA, O, none⟩) E E, .slice none 0 0, .int .u32 0]) rfl (by kernel_rfl) (by kernel_rfl) (by kernel_rfl) (by kernel_rfl) hCl (fun _ _ _ h => h) (Or.inl ⟨rfl, fun w hSw => (by (try dsimp only at hSw); go_simp)⟩) hHeld (fun hCl => ?_); (try simp only [lL0, lL1, lL2, Act.put, lL3, lL4, lL5])
  refine wpAnyE_ready (rs := [4]) (by kernel_rfl) (by simp) ?_; refine NextE.cons rfl (fun K hK => ?_) NextE.nil
  go_simp
  refine (hQR.out _ (Below.refl _ _).drew).mono ?_
  rintro e w4 ⟨rfl, hb4'⟩
  have hb4 : Below W.heap.size W w4 := ⟨hb4'.os, hb4'.tape, hb4'.output, hb4'.size, hb4'.block⟩
  have hO4 : Boxed w4 (w.heap.size + 1 + 1) 39 (.slice av L.length cv) := (hb4.block _ hO.lt).trans hO
  have hS4 : Boxed w4 (w.heap.size + 1) 35 (.int .u64 (seq : Int)) := (hb4.block _ hSq.lt).trans hSq
  have hT4 := hTr.below hb4 hTr.lt
  have hB4 : Below w.heap.size w w4 := hB.trans (hb4.mono hB.size)
  have hown4 := own_below hown hb4
  clear hb4'
  refine hK.out _ _ (fun _ => ⟨hO4.cell, hS4.cell⟩) (fun hHeld => ?_); replace hHeld := hHeld rfl; have hCl := hCl.step (j := 4) (by decide +kernel); clear hK K; (try simp only [lL0, lL1, lL2, Act.put, lL3, lL4, lL5])
  refine wpAnyE_ready (rs := [5]) (by kernel_rfl) (by simp) ?_; refine NextE.cons rfl (fun K hK => ?_) NextE.nil
  go_simp
  refine hK.out _ _ (fun _ => ⟨(hO4.alloc _).cell, (hS4.alloc _).cell⟩) (fun hHeld => ?_); replace hHeld := hHeld rfl; have hCl := hCl.step (j := 5) (by decide +kernel); clear hK K; (try simp only [lL0, lL1, lL2, Act.put, lL3, lL4, lL5])
  have G := own_new1 hown4 (.cells #[.string R] 9)
  have NN := box1 w4 (.string R) 9
  have hone : ∀ u ∈ [Value.string R], u.oneCell' = true := by intro u hu; rw [List.mem_singleton.1 hu]; rfl
  have hbase : w.heap.size ≤ (w4.alloc (.cells #[.string R] 9)).heap.size := by have := hB4.size; simp; omega
  refine wpAnyE_ready (rs := [6]) (by kernel_rfl) (by simp) ?_; refine NextE.cons rfl (fun K hK => ?_) NextE.nil
  (refine step_append_lies _ rfl (.tmp 18) (.tmp 23) 39 rfl w.heap.size 9 i0 (.string ⟨#[]⟩) 1 16 Tryz.underlying39 hi0 hz0 hz1 hz2 rfl (by decide) (.slice av L.length cv) L.length (strs L) (by simp [Act.eval, Act.put]; done) G ⟨w4.heap.size, 0, none⟩ 1 1 [.string R] (by simp [Act.eval, Act.put]; done) rfl NN hone (by decide) (by unfold maxLen; omega) (by omega) hbase _ rfl ?_; intro gq cq w5 hown5 hgrow hat hlt5)
  have hne := Boxed.not_row (hO4.alloc (.cells #[.string R] 9)) (by decide : 39 ≠ 9) G
  have hne2 := Boxed.not_row (hS4.alloc (.cells #[.string R] 9)) (by decide : 35 ≠ 9) G
  have hO5 := (hO4.alloc (.cells #[.string R] 9)).kept hgrow hne
  have hS5 := (hS4.alloc (.cells #[.string R] 9)).kept hgrow hne2
  have hT5 := row_grownR (hT4.alloc (.cells #[.string R] 9)) G hgrow (by decide)
  have hB5 := ((hB4.alloc hB4.size (.cells #[.string R] 9)).grown hgrow hbase (fun k hk => (World.ownsRow.lt G k hk).1))
  refine hK.out _ _ (fun _ => ⟨hO5.cell, hS5.cell⟩) (fun hHeld => ?_); replace hHeld := hHeld rfl; have hCl := hCl.step (j := 6) (by decide +kernel); clear hK K; (try simp only [lL0, lL1, lL2, Act.put, lL3, lL4, lL5])
  have c5b := hO5.cell
  have f5b := hO5.frozen
  refine wpAnyE_ready (rs := [7]) (by kernel_rfl) (by simp) ?_; refine NextE.cons rfl (fun K hK => ?_) NextE.nil
  go_simp
  refine hK.out _ _ (fun h => by cases h) (fun _ => ?_); clear hK K; (try simp only [lL0, lL1, lL2, Act.put, lL3, lL4, lL5])
  refine wpAnyE_done (by kernel_rfl) ?_ _
  show KeepsOthers W _ ∧ KB _ _ W _ ∧ ToldI w _ _ _ _ seq _ _ ∧ _
  have hb14 : Boxed _ _ 23 _ := (Boxed.below hbx1 hb4).alloc (.cells #[.string R] 9)
  have hb24 : Boxed _ _ 3 _ := (Boxed.below hbx2 hb4).alloc (.cells #[.string R] 9)
  have hn1 := Boxed.not_row hb14 (by decide : 23 ≠ 9) G
  have hn2 := Boxed.not_row hb24 (by decide : 3 ≠ 9) G
  have hl1 := Boxed.lt hbx1
  have e1 : (pre ++ [x]).map (fun x => Jr.revB seq (pieceL t.rv x)) = L ++ [R] := by rw [List.map_append, HL.out, List.map_cons, List.map_nil, HRR.out]
  have k3 := (((KeepsOthers.ofBelow hb4).trans (KeepsOthers.alloc w4 (.cells #[.string R] 9))).trans (KeepsOthers.of_grownBy hgrow (own_isCells G))).trans (KeepsOthers.setCell w5 ⟨w.heap.size + 1 + 1, 0, none⟩ (.slice (some ⟨gq, 0, none⟩) (L.length + 1) cq))
  have q1 := (KB.ofBelow (B1 := w3.heap.size) (B2 := w3.heap.size + 1) hb4).trans (KB.ofBelow ((Below.refl _ w4).alloc (Nat.le_refl _) (.cells #[.string R] 9)))
  have q2 := q1.trans (KB.ofGrown hgrow (Ne.symm hn1) (Ne.symm hn2))
  have q3 := q2.trans (KB.set w5 ⟨w.heap.size + 1 + 1, 0, none⟩ (.slice (some ⟨gq, 0, none⟩) (L.length + 1) cq) (by dsimp only; omega) (by dsimp only; omega))
  have o6 := hO5.set (.slice (some ⟨gq, 0, none⟩) (L.length + 1) cq)
  have s6 := boxed_other hS5 (.slice (some ⟨gq, 0, none⟩) (L.length + 1) cq) (show w.heap.size + 1 + 1 ≠ w.heap.size + 1 by omega)
  have t6 := hT5.other (a := ⟨w.heap.size + 1 + 1, 0, none⟩) (by dsimp only; omega) (.slice (some ⟨gq, 0, none⟩) (L.length + 1) cq)
  have b6 := hB5.setCell (p := ⟨w.heap.size + 1 + 1, 0, none⟩) (by dsimp only; omega) (.slice (some ⟨gq, 0, none⟩) (L.length + 1) cq)
  have x6 := boxed_other (Boxed.kept hb14 hgrow hn1) (.slice (some ⟨gq, 0, none⟩) (L.length + 1) cq) (show w.heap.size + 1 + 1 ≠ w3.heap.size by omega)
  have y6 := boxed_other (Boxed.kept hb24 hgrow hn2) (.slice (some ⟨gq, 0, none⟩) (L.length + 1) cq) (show w.heap.size + 1 + 1 ≠ w3.heap.size + 1 by omega)
  refine ⟨k3, q3, ⟨⟨_, o6, ?_⟩, s6, t6, b6⟩, x6, y6⟩
  rw [e1, List.length_append]
  have := own_setR (a := ⟨w.heap.size + 1 + 1, 0, none⟩) (u := .slice (some ⟨gq, 0, none⟩) (L.length + 1) cq) (Boxed.row hO5) hown5 (by decide)
  unfold strs at this ⊢
  rw [List.map_append]
  exact this
 case done =>
  rintro D xs W hD ⟨k, hk, hkl, rfl⟩ ⟨hI0, _, _⟩ hK
  rw [pieces_all (by decide) (Jr.revB seq) t.rv k hk hkl] at hI0
  obtain ⟨L0, hL0⟩ : ∃ L0, (Jr.chunks 28 t.rv).map (Jr.revB seq) = L0 := ⟨_, rfl⟩
  rw [hL0] at hI0
  have HL0 := hid hL0
  obtain ⟨hO, hSq, hTr, hB⟩ := hI0
  have HWW := hid (show w.heap.size + 1 + 1 < W.heap.size from by obtain ⟨v, h, _⟩ := hO; exact h.lt)
  have r0 := hTr.cellAt 0 rfl
  obtain ⟨C3, hC3⟩ : ∃ o : Obj, .cells #[.slice ac t.ch.length cc] 22 = o := ⟨_, rfl⟩
  obtain ⟨C4, hC4⟩ : ∃ o : Obj, .cells #[.int .i64 24] 3 = o := ⟨_, rfl⟩
  have hbx : Boxed ((W.alloc C3).alloc C4) W.heap.size 22 (.slice ac t.ch.length cc) ∧ Boxed ((W.alloc C3).alloc C4) (W.heap.size + 1) 3 (.int .i64 24) := by
   rw [← hC3, ← hC4]
   refine ⟨(Boxed.new W _ _).alloc _, ?_⟩
   have := Boxed.new (W.alloc (.cells #[.slice ac t.ch.length cc] 22)) 3 (.int .i64 24)
   rwa [World.size_alloc] at this
  have HBX2 := hid hbx
  have b2 : Below W.heap.size W ((W.alloc C3).alloc C4) := ((Below.refl W.heap.size W).alloc (Nat.le_refl _) C3).alloc (by simp) C4
  have HI1 : ToldI w [.slice ac t.ch.length cc, .slice ar t.rv.length cr] w.heap.size (w.heap.size + 1 + 1) (w.heap.size + 1) seq ((W.alloc C3).alloc C4) (L0 ++ ([] : List (Piece 24 t.ch.length)).flatMap fun x => Jr.descB seq (pieceL t.ch x)) := by
   rw [List.flatMap_nil, List.append_nil]
   obtain ⟨v, h1, h2⟩ := hO
   exact ⟨⟨v, Boxed.below h1 b2, own_below h2 b2⟩, Boxed.below hSq b2, hTr.below b2 hTr.lt, hB.trans (b2.mono hB.size)⟩
  have HK2 := hid (show ((W.alloc C3).alloc C4).heap[D]? = some (.deferred (some [])) from (b2.block D (Array.getElem?_eq_some_iff.1 hK).1).trans hK)
  have hDl : D < W.heap.size := (Array.getElem?_eq_some_iff.1 hK).1
  obtain ⟨gB, offB, hseqB, hcB⟩ := chunkC_seq (n := 5) (by decide) (by decide : 0 < 24) (by decide) hl HC.out hcc hbx.1.cell hbx.2.cell
  have HSB := hid hseqB
  have HCB := hid hcB
  have HI6 := hid HI1
  have hz7 : W.heap.size + 1 < ((W.alloc C3).alloc C4).heap.size := by simp
  have qK := callsIn_wide (n := 5).2 (chunkC_any ac t.ch.length cc 24 (by decide) W)
  rw [hC3, show Obj.cells #[.int .i64 ((24 : Nat) : Int)] 3 = C4 from hC4] at qK
  have QK := hid qK
  clear qK hC3 hC4 hbx hseqB hcB HI1 hK b2 hO hSq hTr hB hL0
  obtain ⟨w5, hw5⟩ : ∃ x, (W.alloc C3).alloc C4 = x := ⟨_, rfl⟩
  rw [hw5] at HSB HI6 QK HBX2 HK2 hz7
  clear hw5
  gi_wp2_with (first | (refine ⟨trivial, ?_⟩; gi_at_call 110; refine QK.out.mono ?_; rintro e w1 ⟨rfl, rfl⟩) | fail "none")
  clear QK
  refine wpIn_rangeFunc_ownF rfl (by decide) (gf := 148) rfl trivial (enters_of Tryz.func148 (by kernel_rfl) rfl) HSB.out (fun h1 h2 => h1.trans h2) (fun W l o o' _ hl hc _ => KB.put _ _ W l o o' hl hc) (Below.refl _ _) (fun _ => rfl)
   (fun pre W' => (ToldI w [.slice ac t.ch.length cc, .slice ar t.rv.length cr] w.heap.size (w.heap.size + 1 + 1) (w.heap.size + 1) seq W' (L0 ++ pre.flatMap fun x => Jr.descB seq (pieceL t.ch x)) ∧ (Boxed W' W.heap.size 22 (.slice ac t.ch.length cc) ∧ Boxed W' (W.heap.size + 1) 3 (.int .i64 24))) ∧ W'.heap[D]? = some (.deferred (some [])))
   (fun _ _ _ => False)
   (((toldI_own w _ _ _ _ seq w1.heap.size HI6.out.2.2.2.size (fun pre => L0 ++ pre.flatMap fun x => Jr.descB seq (pieceL t.ch x))).and (fun _ W W' row h hg hr => by
    have hk := cellsKept_of hg (fun r e => (hr r e).2)
    exact ⟨hk.boxed h.1, hk.boxed h.2⟩)).and (fun _ W W' row h hg hr => (hg.block D (Array.getElem?_eq_some_iff.1 h).1 (fun e => by have := (hr D e.symm).1; omega)).trans h))
   (fun _ _ _ _ _ hs _ _ => hs)
   ⟨⟨HI6.out, HBX2.out⟩, HK2.out⟩
   ?b1 ?assign2 ?body2 ?done2 ?stop2
  case assign2 =>
   intro l x W K hK
   gi_wp2
   exact hK
  case stop2 =>
   rintro D c pre W _ _ h _
   exact h.elim
  case body2 =>
   rintro l pre x W2 ⟨⟨hI0, hbx1, hbx2⟩, hD2⟩ hpre
   have hlen : (L0 ++ pre.flatMap fun x => Jr.descB seq (pieceL t.ch x)).length ≤ 26000000 := by
    have h1 := flat_le (fun x : Piece 24 t.ch.length => Jr.descB seq (pieceL t.ch x)) 25 (fun x => by unfold Jr.descB; rw [List.length_cons, List.length_map, pieceL_length]; omega) pre
    have h2 := chunks_le t.rv (n := 28) (by decide)
    have h3 := congrArg List.length HL0.out
    rw [List.length_map] at h3
    rw [List.length_append]
    omega
   obtain ⟨L, hL⟩ : ∃ L, (L0 ++ pre.flatMap fun x => Jr.descB seq (pieceL t.ch x)) = L := ⟨_, rfl⟩
   have HL := hid hL
   rw [hL] at hI0 hlen
   clear hL
   obtain ⟨hOut, hSq, hTr, hB⟩ := hI0
   have HOUT := hid hOut
   have HSQ := hid hSq
   have HTR := hid hTr
   have HB := hid hB
   have HBX := hid (show Boxed W2 W.heap.size 22 (.slice ac t.ch.length cc) ∧ Boxed W2 (W.heap.size + 1) 3 (.int .i64 24) from ⟨hbx1, hbx2⟩)
   have HDD := hid hD2
   have hpc : ChgsAt W2 (pieceV 2 24 gB offB t.ch.length x) (pieceL t.ch x) := piece_chgs (fun j u hu => (hB.cell (p := ⟨gB, offB + j, none⟩) (World.block_lt_of_cell? w _ (HCB.out j u hu))).trans (HCB.out j u hu)) x
   have hpn : (pieceL t.ch x).length = min 24 (t.ch.length - x.1 * 24) := pieceL_length _ _
   have hxx := x.2
   unfold pieceV at hpc ⊢
   rw [← hpn] at hpc ⊢
   generalize offB + x.1 * 24 * 2 = O at hpc ⊢
   have hpl : 1 ≤ (pieceL t.ch x).length ∧ (pieceL t.ch x).length ≤ 24 := by omega
   have HPS := hid (show (pieceL t.ch x).Sublist t.ch from (List.take_sublist _ _).trans (List.drop_sublist _ _))
   obtain ⟨PC, hPC⟩ : ∃ PC, pieceL t.ch x = PC := ⟨_, rfl⟩
   rw [hPC] at hpc hpl HPS ⊢
   have HPC := hid hPC
   have HPCM := hid hpc
   have c3 := hSq.cell
   have HW2 := hB.size
   have Z0 : BZ W2 (W2.alloc (.cells #[.int .i64 2, .int .u64 (seq : Int), .int .i64 0, .slice none 0 0, .slice none 0 0, .int .u32 0] 61)) W2.heap.size (recC seq (.slice none 0 0) (.slice none 0 0)) (.slice none 0 0) (.slice none 0 0) (.slice none 0 0) [] [] [] :=
    ⟨Row.new W2 _ _ rfl, World.ownsRow_nil _ _ _ _, World.ownsRow_nil _ _ _ _, World.ownsRow_nil _ _ _ _, (Below.refl _ _).alloc (Nat.le_refl _) _, Nat.le_refl _⟩
   have HZ0 := hid Z0
   clear hpn hxx hPC hpc hOut hSq hTr hB hbx1 hbx2 hD2 Z0
   gi_wp2_with fail
   gi_loopw [9, 33] (fun t9 t33 wr => ∃ (j : Nat) (vH vM : Value), j ≤ PC.length ∧ t33 = .int .i64 (j : Int) ∧ Hid (BZ W2 wr W2.heap.size (recC seq vH vM) vH vM t9 ((PC.take j).map (·.1)) ((PC.take j).map fun c => (Jr.maskB c.2).2) ((PC.take j).map fun c => (Jr.maskB c.2).1))) (fun _ t33 _ => PC.length - (intOf t33).toNat)
   case atStart => exact ⟨0, _, _, Nat.zero_le _, rfl, HZ0⟩
   case round =>
    obtain ⟨j, vH, vM, hj, rfl, hZ⟩ := hrel
    by_cases hlt : j < PC.length
    ·have i0' : (0 : Int) ≤ (j : Int) := by omega
     have i1' : (j : Int) < (PC.length : Int) := by omega
     obtain ⟨c, hc⟩ : ∃ c, PC[j]? = some c := ⟨_, List.getElem?_eq_getElem hlt⟩
     obtain ⟨gx, ox, ex, c0, c1⟩ := (HPCM.out.below hZ.out.below).cells hc
     cases ex
     have hc128 := hok.data c (HPS.out.subset (List.mem_of_getElem? hc))
     obtain ⟨m1, hm1⟩ : ∃ m1, (Jr.maskB c.2).1 = m1 := ⟨_, rfl⟩
     obtain ⟨m2, hm2⟩ : ∃ m2, (Jr.maskB c.2).2 = m2 := ⟨_, rfl⟩
     have qm : ∀ wz, CallsIn (Fence.wide.inRound l) 3 Tryz.prog 111 #[.string c.2] wz fun e w' => e = .returned (.tuple #[.string m1, .bool m2]) ∧ w' = wz := fun wz => CallsIn.inRound l (callsIn_wide.2 (by
      have := mask_any c.2 wz (by omega)
      rw [← hm1, ← hm2]
      exact this))
     have QM := hid qm
     have HTH := hid (show (PC.take (j + 1)).map (·.1) = (PC.take j).map (·.1) ++ [c.1] from by
      obtain ⟨h1, rfl⟩ := List.getElem?_eq_some_iff.1 hc
      rw [List.take_succ_eq_append_getElem h1, List.map_append]
      rfl)
     have HTM := hid (show (PC.take (j + 1)).map (fun c => (Jr.maskB c.2).2) = (PC.take j).map (fun c => (Jr.maskB c.2).2) ++ [m2] from by
      obtain ⟨h1, rfl⟩ := List.getElem?_eq_some_iff.1 hc
      rw [List.take_succ_eq_append_getElem h1, List.map_append, ← hm2]
      rfl)
     have HTD := hid (show (PC.take (j + 1)).map (fun c => (Jr.maskB c.2).1) = (PC.take j).map (fun c => (Jr.maskB c.2).1) ++ [m1] from by
      obtain ⟨h1, rfl⟩ := List.getElem?_eq_some_iff.1 hc
      rw [List.take_succ_eq_append_getElem h1, List.map_append, ← hm1]
      rfl)
     have hn1 : ((PC.take j).map (·.1)).length = j := by rw [List.length_map, List.length_take]; omega
     have hn2 : ((PC.take j).map fun c => (Jr.maskB c.2).2).length = j := by rw [List.length_map, List.length_take]; omega
     have hn3 : ((PC.take j).map fun c => (Jr.maskB c.2).1).length = j := by rw [List.length_map, List.length_take]; omega
     obtain ⟨LH, hLH⟩ : ∃ LH, (PC.take j).map (·.1) = LH := ⟨_, rfl⟩
     obtain ⟨LM, hLM⟩ : ∃ LM, ((PC.take j).map fun c => (Jr.maskB c.2).2) = LM := ⟨_, rfl⟩
     obtain ⟨LD, hLD⟩ : ∃ LD, ((PC.take j).map fun c => (Jr.maskB c.2).1) = LD := ⟨_, rfl⟩
     rw [hLH] at hn1 HTH hZ
     rw [hLM] at hn2 HTM hZ
     rw [hLD] at hn3 HTD hZ
     have HN1 := hid hn1
     have HN2 := hid hn2
     have HN3 := hid hn3
     obtain ⟨aH, cH, rfl⟩ := own_form hZ.out.ints
     obtain ⟨aM, cM, rfl⟩ := own_form hZ.out.flags
     obtain ⟨a9, c9, rfl⟩ := own_form hZ.out.data
     rw [hn1, hn2, hn3] at hZ
     rw [hn3]
     clear hn1 hn2 hn3 hLH hLM hLD hm1 hm2 qm hc
     obtain ⟨x1, x2⟩ := c
     dsimp only at *
     have Z1 := hid (hZ.out.alloc (.cells #[.int .i64 x1, .string x2] 68))
     have RC := hid (Row.new wr 68 [.int .i64 x1, .string x2] rfl)
     have cc1 := RC.out.cellAt 1 rfl
     clear hZ
     gi_wp2_with (first | (refine ⟨trivial, ?_⟩; gi_at_call 111; refine (QM.out _).mono ?_; rintro e w8 ⟨rfl, rfl⟩) | fail "none")
     have hj23 : j < 24 := by omega
     have z0 := Z1.out.drew
     have r0 := RC.out.drew
     obtain ⟨i0, hi0, hz0, hz1, hz2⟩ := info_parts infoInt
     obtain ⟨j0, hj0, jz0, jz1, jz2⟩ := info_parts infoFlag
     obtain ⟨s0, hs0, sz0, sz1, sz2⟩ := info_parts infoStr
     have honeS : ∀ u ∈ [Value.string m1], u.oneCell' = true := by intro u hu; rw [List.mem_singleton.1 hu]; rfl
     have honeI : ∀ u ∈ [Value.int .i64 x1], u.oneCell' = true := by intro u hu; rw [List.mem_singleton.1 hu]; rfl
     have honeB : ∀ u ∈ [Value.bool m2], u.oneCell' = true := by intro u hu; rw [List.mem_singleton.1 hu]; rfl
     clear Z1 RC cc1 c0 c1
     generalize wr.alloc _ = w9 at *
     have hLO : ∀ (Q : Exit → Act → World → Prop), (∀ a w, ¬ Q .outgrown a w) → ¬ LetsOut Q := fun Q h ⟨a, w, k⟩ => h a w k
     refine wpIn_round_E (S := fun W' => W'.cell? ⟨W2.heap.size, 3, none⟩ = some (.slice aH j cH) ∧ W'.cell? ⟨W2.heap.size, 4, none⟩ = some (.slice aM j cM) ∧ W'.cell? ⟨wr.heap.size, 0, none⟩ = some (.int .i64 x1)) (E := [12, 13, 14]) (by kernel_rfl) (by kernel_rfl) (by rintro ⟨a, w, h⟩; exact h) ⟨z0.rec_.cellAt 3 rfl, z0.rec_.cellAt 4 rfl, r0.cellAt 0 rfl⟩ (fun hHeld hCl => ?_)
     refine wpAnyE_take (i := 0) (v := .pointer (some ⟨W2.heap.size, 3, none⟩)) rfl (by kernel_rfl) (by kernel_rfl) (by kernel_rfl) (by kernel_rfl) hCl (fun _ _ _ h => h) (Or.inl ⟨rfl, fun w hSw => (by (try dsimp only at hSw); go_simp)⟩) hHeld (fun hCl => ?_)
     (try simp only [lL0, lL2, Act.put, lL3, lL4, lL5])
     refine wpAnyE_take (i := 1) (v := .slice aH j cH) rfl (by kernel_rfl) (by kernel_rfl) (by kernel_rfl) (by kernel_rfl) hCl (fun _ _ _ h => h) (Or.inl ⟨rfl, fun w hSw => (by (try dsimp only at hSw); go_simp)⟩) hHeld (fun hCl => ?_)
     (try simp only [lL0, lL1, lL2, Act.put, lL3, lL4, lL5])
     refine wpAnyE_take (i := 2) (v := .pointer (some ⟨wr.heap.size, 0, none⟩)) rfl (by kernel_rfl) (by kernel_rfl) (by kernel_rfl) (by kernel_rfl) hCl (fun _ _ _ h => h) (Or.inl ⟨rfl, fun w hSw => (by (try dsimp only at hSw); go_simp)⟩) hHeld (fun hCl => ?_)
     (try simp only [lL0, lL1, lL2, Act.put, lL3, lL4, lL5])
     refine wpAnyE_take (i := 3) (v := .int .i64 x1) rfl (by kernel_rfl) (by kernel_rfl) (by kernel_rfl) (by kernel_rfl) hCl (fun _ _ _ h => h) (Or.inl ⟨rfl, fun w hSw => (by (try dsimp only at hSw); go_simp)⟩) hHeld (fun hCl => ?_)
     (try simp only [lL0, lL1, lL2, Act.put, lL3, lL4, lL5])
     refine wpAnyE_take (i := 6) (v := .pointer (some ⟨W2.heap.size, 4, none⟩)) rfl (by kernel_rfl) (by kernel_rfl) (by kernel_rfl) (by kernel_rfl) hCl (fun _ _ _ h => h) (Or.inl ⟨rfl, fun w hSw => (by (try dsimp only at hSw); go_simp)⟩) hHeld (fun hCl => ?_)
     (try simp only [lL0, lL1, lL2, Act.put, lL3, lL4, lL5])
     refine wpAnyE_take (i := 7) (v := .slice aM j cM) rfl (by kernel_rfl) (by kernel_rfl) (by kernel_rfl) (by kernel_rfl) hCl (fun _ _ _ h => h) (Or.inl ⟨rfl, fun w hSw => (by (try dsimp only at hSw); go_simp)⟩) hHeld (fun hCl => ?_)
     (try simp only [lL0, lL1, lL2, Act.put, lL3, lL4, lL5])
     refine wpAnyE_take (i := 8) (v := .bool m2) rfl (by kernel_rfl) (by kernel_rfl) (by kernel_rfl) (by kernel_rfl) hCl (fun _ _ _ h => h) (Or.inl ⟨rfl, fun w hSw => (by (try dsimp only at hSw); go_simp)⟩) hHeld (fun hCl => ?_)
     (try simp only [lL0, lL1, lL2, Act.put, lL3, lL4, lL5])
     refine wpAnyE_ready (rs := [4, 9]) (by kernel_rfl) (by simp) ?_
     refine (NextE.cons rfl (fun K hK => ?_) (NextE.cons rfl (fun K hK => ?_) NextE.nil))
     ·skip
      go_simp
      have z1 := z0.alloc (.cells #[.int .i64 x1] 3)
      have r1 := r0.alloc (.cells #[.int .i64 x1] 3)
      have h1 := Boxed.new w9.drew 3 (.int .i64 x1)
      refine hK.out _ _ (fun _ => ⟨z1.rec_.cellAt 3 rfl, z1.rec_.cellAt 4 rfl, r1.cellAt 0 rfl⟩) (fun hHeld => ?_)
      replace hHeld := hHeld rfl
      have hCl := hCl.step (j := 4) (by decide +kernel)
      clear hK K
      (try simp only [lL0, lL1, lL2, Act.put, lL3, lL4, lL5])
      refine wpAnyE_ready (rs := [5, 9]) (by kernel_rfl) (by simp) ?_
      refine (NextE.cons rfl (fun K hK => ?_) (NextE.cons rfl (fun K hK => ?_) NextE.nil))
      ·skip
       have g2 : World.ownsRow _ W2.heap.size 3 1 (.slice aH j cH) j (icells LH) := (by have := z1.ints; rwa [HN1.out] at this)
       have b2 := Nat.le_trans z1.below.size (Nat.le_refl _)
       refine step_append_lies _ rfl (.tmp 44) (.tmp 47) 23 rfl W2.heap.size 3 i0 (.int .i64 0) 1 8 Tryz.underlying23 hi0 hz0 hz1 hz2 rfl (by decide) (.slice aH j cH) j (icells LH) (by simp [Act.eval, Act.put]; done) g2 ⟨w9.drew.heap.size, 0, none⟩ 1 1 [.int .i64 x1] (by simp [Act.eval, Act.put]; done) rfl (boxed_news h1) honeI (by decide) (by unfold maxLen; omega) (by omega) b2 _ rfl ?_
       intro gH cH2 y2 o2 q2 _ _
       have z2 := z1.growH q2 (by rw [HN1.out]; exact o2)
       have r2 := row_grownR r1 g2 q2 (by decide)
       refine hK.out _ _ (fun _ => ⟨z2.rec_.cellAt 3 rfl, z2.rec_.cellAt 4 rfl, r2.cellAt 0 rfl⟩) (fun hHeld => ?_)
       replace hHeld := hHeld rfl
       have hCl := hCl.step (j := 5) (by decide +kernel)
       clear hK K
       (try simp only [lL0, lL1, lL2, Act.put, lL3, lL4, lL5])
       refine wpAnyE_take (i := 11) (v := .pointer (some ⟨W2.heap.size, 3, none⟩)) rfl (by kernel_rfl) (by kernel_rfl) (by kernel_rfl) (by kernel_rfl) hCl (fun _ _ _ h => h) (Or.inl ⟨rfl, fun w hSw => (by (try dsimp only at hSw); go_simp)⟩) hHeld (fun hCl => ?_)
       (try simp only [lL0, lL1, lL2, Act.put, lL3, lL4, lL5])
       refine wpAnyE_ready (rs := [9]) (by kernel_rfl) (by simp) ?_
       refine (NextE.cons rfl (fun K hK => ?_) NextE.nil)
       go_simp
       have z3 := z2.alloc (.cells #[.bool m2] 4)
       have r3 := r2.alloc (.cells #[.bool m2] 4)
       have m3 := Boxed.new y2 4 (.bool m2)
       refine hK.out _ _ (fun _ => ⟨z3.rec_.cellAt 3 rfl, z3.rec_.cellAt 4 rfl, r3.cellAt 0 rfl⟩) (fun hHeld => ?_)
       replace hHeld := hHeld rfl
       have hCl := hCl.step (j := 9) (by decide +kernel)
       clear hK K
       (try simp only [lL0, lL1, lL2, Act.put, lL3, lL4, lL5])
       refine wpAnyE_ready (rs := [10]) (by kernel_rfl) (by simp) ?_
       refine (NextE.cons rfl (fun K hK => ?_) NextE.nil)
       have g4 : World.ownsRow _ W2.heap.size 4 1 (.slice aM j cM) j (fcells LM) := (by have := z3.flags; rwa [HN2.out] at this)
       have b4 := Nat.le_trans z3.below.size (Nat.le_refl _)
       refine step_append_lies _ rfl (.tmp 50) (.tmp 52) 40 rfl W2.heap.size 4 j0 (.bool false) 1 1 Tryz.underlying40 hj0 jz0 jz1 jz2 rfl (by decide) (.slice aM j cM) j (fcells LM) (by simp [Act.eval, Act.put]; done) g4 ⟨y2.heap.size, 0, none⟩ 1 1 [.bool m2] (by simp [Act.eval, Act.put]; done) rfl (boxed_news m3) honeB (by decide) (by unfold maxLen; omega) (by omega) b4 _ rfl ?_
       intro gM cM2 y4 o4 q4 _ _
       have z4 := z3.growM q4 (by rw [HN2.out]; exact o4)
       have r4 := row_grownR r3 g4 q4 (by decide)
       refine hK.out _ _ (fun _ => ⟨z4.rec_.cellAt 3 rfl, z4.rec_.cellAt 4 rfl, r4.cellAt 0 rfl⟩) (fun hHeld => ?_)
       replace hHeld := hHeld rfl
       have hCl := hCl.step (j := 10) (by decide +kernel)
       clear hK K
       (try simp only [lL0, lL1, lL2, Act.put, lL3, lL4, lL5])
       have k3 := z4.rec_.cellAt 3 rfl
       have f3 := z4.rec_.free 3 (by simp [recC])
       refine wpAnyE_ready (rs := [12]) (by kernel_rfl) (by simp) ?_
       refine (NextE.cons rfl (fun K hK => ?_) NextE.nil)
       go_simp
       have zs := z4.set 3 (.slice (some ⟨gH, 0, none⟩) (j + 1) cH2)
       refine hK.out _ _ (fun h => by cases h) (fun _ => ?_)
       clear hK K
       (try simp only [lL0, lL1, lL2, Act.put, lL3, lL4, lL5])
       refine wpAnyE_ready (rs := [13]) (by kernel_rfl) (by simp) ?_
       refine (NextE.cons rfl (fun K hK => ?_) NextE.nil)
       go_simp
       refine hK.out _ _ (fun h => by cases h) (fun _ => ?_)
       clear hK K
       (try simp only [lL0, lL1, lL2, Act.put, lL3, lL4, lL5])
       have k4 := zs.rec_.cellAt 4 rfl
       have f4 := zs.rec_.free 4 (by simp [recC])
       refine wpAnyE_ready (rs := [14]) (by kernel_rfl) (by simp) ?_
       refine (NextE.cons rfl (fun K hK => ?_) NextE.nil)
       go_simp
       have zt := hid (zs.set 4 (.slice (some ⟨gM, 0, none⟩) (j + 1) cM2))
       refine hK.out _ _ (fun h => by cases h) (fun _ => ?_)
       clear hK K
       (try simp only [lL0, lL1, lL2, Act.put, lL3, lL4, lL5])
       refine wpAnyE_done (by kernel_rfl) ?_ _
       skip; generalize World.setCell _ ⟨W2.heap.size, 4, none⟩ (.slice (some ⟨gM, 0, none⟩) (j + 1) cM2) = y9 at *; have GD := hid (show (y9.alloc (.cells #[.string m1] 9)).ownsRow W2.heap.size 9 1 (.slice a9 j c9) j (strs LD) from (by have := own_new1 zt.out.data (.cells #[.string m1] 9); rwa [HN3.out] at this)); have NND := hid (boxed_news (Boxed.new y9 9 (.string m1))); have hbD : W2.heap.size ≤ (y9.alloc (.cells #[.string m1] 9)).heap.size := (by have := zt.out.below.size; simp; omega); clear hHeld; (gi_wp2_with (first | (gi_at_builtin; refine wpListIn_append_own _ rfl (.tmp 56) (.tmp 58) 39 rfl W2.heap.size 9 s0 (.string ⟨#[]⟩) 1 16 Tryz.underlying39 hs0 sz0 sz1 sz2 rfl (by decide) _ j _ rfl GD.out ⟨y9.heap.size, 0, none⟩ 1 1 [.string m1] rfl rfl NND.out honeS (by unfold maxLen; omega) (by omega) hbD ?_; intro v5 w5 hown5 hgrow5 _) | fail "none")); have ZF := (zt.out.alloc (.cells #[.string m1] 9)).growD hgrow5 (by rw [HN3.out]; exact hown5); exact ⟨⟨j + 1, _, _, by omega, by go_num, hid (by rw [HTH.out, HTM.out, HTD.out]; exact ZF)⟩, by simp [intOf]; omega⟩
      ·skip
       go_simp
       have z5 := z1.alloc (.cells #[.bool m2] 4)
       have r5 := r1.alloc (.cells #[.bool m2] 4)
       have m5 := Boxed.new (w9.drew.alloc (.cells #[.int .i64 x1] 3)) 4 (.bool m2)
       have h5 := Boxed.alloc h1 (.cells #[.bool m2] 4)
       refine hK.out _ _ (fun _ => ⟨z5.rec_.cellAt 3 rfl, z5.rec_.cellAt 4 rfl, r5.cellAt 0 rfl⟩) (fun hHeld => ?_)
       replace hHeld := hHeld rfl
       have hCl := hCl.step (j := 9) (by decide +kernel)
       clear hK K
       (try simp only [lL0, lL1, lL2, Act.put, lL3, lL4, lL5])
       refine wpAnyE_ready (rs := [5]) (by kernel_rfl) (by simp) ?_
       refine (NextE.cons rfl (fun K hK => ?_) NextE.nil)
       have g6 : World.ownsRow _ W2.heap.size 3 1 (.slice aH j cH) j (icells LH) := (by have := z5.ints; rwa [HN1.out] at this)
       have b6 := Nat.le_trans z5.below.size (Nat.le_refl _)
       refine step_append_lies _ rfl (.tmp 44) (.tmp 47) 23 rfl W2.heap.size 3 i0 (.int .i64 0) 1 8 Tryz.underlying23 hi0 hz0 hz1 hz2 rfl (by decide) (.slice aH j cH) j (icells LH) (by simp [Act.eval, Act.put]; done) g6 ⟨w9.drew.heap.size, 0, none⟩ 1 1 [.int .i64 x1] (by simp [Act.eval, Act.put]; done) rfl (boxed_news h5) honeI (by decide) (by unfold maxLen; omega) (by omega) b6 _ rfl ?_
       intro gH cH2 y6 o6 q6 _ _
       have z6 := z5.growH q6 (by rw [HN1.out]; exact o6)
       have r6 := row_grownR r5 g6 q6 (by decide)
       have m6 := Boxed.kept m5 q6 (Boxed.not_row m5 (by decide) g6)
       refine hK.out _ _ (fun _ => ⟨z6.rec_.cellAt 3 rfl, z6.rec_.cellAt 4 rfl, r6.cellAt 0 rfl⟩) (fun hHeld => ?_)
       replace hHeld := hHeld rfl
       have hCl := hCl.step (j := 5) (by decide +kernel)
       clear hK K
       (try simp only [lL0, lL1, lL2, Act.put, lL3, lL4, lL5])
       refine wpAnyE_take (i := 11) (v := .pointer (some ⟨W2.heap.size, 3, none⟩)) rfl (by kernel_rfl) (by kernel_rfl) (by kernel_rfl) (by kernel_rfl) hCl (fun _ _ _ h => h) (Or.inl ⟨rfl, fun w hSw => (by (try dsimp only at hSw); go_simp)⟩) hHeld (fun hCl => ?_)
       (try simp only [lL0, lL1, lL2, Act.put, lL3, lL4, lL5])
       refine wpAnyE_ready (rs := [10]) (by kernel_rfl) (by simp) ?_
       refine (NextE.cons rfl (fun K hK => ?_) NextE.nil)
       have g7 : World.ownsRow _ W2.heap.size 4 1 (.slice aM j cM) j (fcells LM) := (by have := z6.flags; rwa [HN2.out] at this)
       have b7 := Nat.le_trans z6.below.size (Nat.le_refl _)
       refine step_append_lies _ rfl (.tmp 50) (.tmp 52) 40 rfl W2.heap.size 4 j0 (.bool false) 1 1 Tryz.underlying40 hj0 jz0 jz1 jz2 rfl (by decide) (.slice aM j cM) j (fcells LM) (by simp [Act.eval, Act.put]; done) g7 ⟨(w9.drew.alloc (.cells #[.int .i64 x1] 3)).heap.size, 0, none⟩ 1 1 [.bool m2] (by simp [Act.eval, Act.put]; done) rfl (boxed_news m6) honeB (by decide) (by unfold maxLen; omega) (by omega) b7 _ rfl ?_
       intro gM cM2 y7 o7 q7 _ _
       have z7 := z6.growM q7 (by rw [HN2.out]; exact o7)
       have r7 := row_grownR r6 g7 q7 (by decide)
       refine hK.out _ _ (fun _ => ⟨z7.rec_.cellAt 3 rfl, z7.rec_.cellAt 4 rfl, r7.cellAt 0 rfl⟩) (fun hHeld => ?_)
       replace hHeld := hHeld rfl
       have hCl := hCl.step (j := 10) (by decide +kernel)
       clear hK K
       (try simp only [lL0, lL1, lL2, Act.put, lL3, lL4, lL5])
       have k3 := z7.rec_.cellAt 3 rfl
       have f3 := z7.rec_.free 3 (by simp [recC])
       refine wpAnyE_ready (rs := [12]) (by kernel_rfl) (by simp) ?_
       refine (NextE.cons rfl (fun K hK => ?_) NextE.nil)
       go_simp
       have zs := z7.set 3 (.slice (some ⟨gH, 0, none⟩) (j + 1) cH2)
       refine hK.out _ _ (fun h => by cases h) (fun _ => ?_)
       clear hK K
       (try simp only [lL0, lL1, lL2, Act.put, lL3, lL4, lL5])
       refine wpAnyE_ready (rs := [13]) (by kernel_rfl) (by simp) ?_
       refine (NextE.cons rfl (fun K hK => ?_) NextE.nil)
       go_simp
       refine hK.out _ _ (fun h => by cases h) (fun _ => ?_)
       clear hK K
       (try simp only [lL0, lL1, lL2, Act.put, lL3, lL4, lL5])
       have k4 := zs.rec_.cellAt 4 rfl
       have f4 := zs.rec_.free 4 (by simp [recC])
       refine wpAnyE_ready (rs := [14]) (by kernel_rfl) (by simp) ?_
       refine (NextE.cons rfl (fun K hK => ?_) NextE.nil)
       go_simp
       have zt := hid (zs.set 4 (.slice (some ⟨gM, 0, none⟩) (j + 1) cM2))
       refine hK.out _ _ (fun h => by cases h) (fun _ => ?_)
       clear hK K
       (try simp only [lL0, lL1, lL2, Act.put, lL3, lL4, lL5])
       refine wpAnyE_done (by kernel_rfl) ?_ _
       skip; generalize World.setCell _ ⟨W2.heap.size, 4, none⟩ (.slice (some ⟨gM, 0, none⟩) (j + 1) cM2) = y9 at *; have GD := hid (show (y9.alloc (.cells #[.string m1] 9)).ownsRow W2.heap.size 9 1 (.slice a9 j c9) j (strs LD) from (by have := own_new1 zt.out.data (.cells #[.string m1] 9); rwa [HN3.out] at this)); have NND := hid (boxed_news (Boxed.new y9 9 (.string m1))); have hbD : W2.heap.size ≤ (y9.alloc (.cells #[.string m1] 9)).heap.size := (by have := zt.out.below.size; simp; omega); clear hHeld; (gi_wp2_with (first | (gi_at_builtin; refine wpListIn_append_own _ rfl (.tmp 56) (.tmp 58) 39 rfl W2.heap.size 9 s0 (.string ⟨#[]⟩) 1 16 Tryz.underlying39 hs0 sz0 sz1 sz2 rfl (by decide) _ j _ rfl GD.out ⟨y9.heap.size, 0, none⟩ 1 1 [.string m1] rfl rfl NND.out honeS (by unfold maxLen; omega) (by omega) hbD ?_; intro v5 w5 hown5 hgrow5 _) | fail "none")); have ZF := (zt.out.alloc (.cells #[.string m1] 9)).growD hgrow5 (by rw [HN3.out]; exact hown5); exact ⟨⟨j + 1, _, _, by omega, by go_num, hid (by rw [HTH.out, HTM.out, HTD.out]; exact ZF)⟩, by simp [intOf]; omega⟩
     ·skip
      go_simp
      have z8 := z0.alloc (.cells #[.bool m2] 4)
      have r8 := r0.alloc (.cells #[.bool m2] 4)
      have m8 := Boxed.new w9.drew 4 (.bool m2)
      refine hK.out _ _ (fun _ => ⟨z8.rec_.cellAt 3 rfl, z8.rec_.cellAt 4 rfl, r8.cellAt 0 rfl⟩) (fun hHeld => ?_)
      replace hHeld := hHeld rfl
      have hCl := hCl.step (j := 9) (by decide +kernel)
      clear hK K
      (try simp only [lL0, lL1, lL2, Act.put, lL3, lL4, lL5])
      refine wpAnyE_ready (rs := [4]) (by kernel_rfl) (by simp) ?_
      refine (NextE.cons rfl (fun K hK => ?_) NextE.nil)
      go_simp
      have z9 := z8.alloc (.cells #[.int .i64 x1] 3)
      have r9 := r8.alloc (.cells #[.int .i64 x1] 3)
      have h9 := Boxed.new (w9.drew.alloc (.cells #[.bool m2] 4)) 3 (.int .i64 x1)
      have m9 := Boxed.alloc m8 (.cells #[.int .i64 x1] 3)
      refine hK.out _ _ (fun _ => ⟨z9.rec_.cellAt 3 rfl, z9.rec_.cellAt 4 rfl, r9.cellAt 0 rfl⟩) (fun hHeld => ?_)
      replace hHeld := hHeld rfl
      have hCl := hCl.step (j := 4) (by decide +kernel)
      clear hK K
      (try simp only [lL0, lL1, lL2, Act.put, lL3, lL4, lL5])
      refine wpAnyE_ready (rs := [5]) (by kernel_rfl) (by simp) ?_
      refine (NextE.cons rfl (fun K hK => ?_) NextE.nil)
      have g10 : World.ownsRow _ W2.heap.size 3 1 (.slice aH j cH) j (icells LH) := (by have := z9.ints; rwa [HN1.out] at this)
      have b10 := Nat.le_trans z9.below.size (Nat.le_refl _)
      refine step_append_lies _ rfl (.tmp 44) (.tmp 47) 23 rfl W2.heap.size 3 i0 (.int .i64 0) 1 8 Tryz.underlying23 hi0 hz0 hz1 hz2 rfl (by decide) (.slice aH j cH) j (icells LH) (by simp [Act.eval, Act.put]; done) g10 ⟨(w9.drew.alloc (.cells #[.bool m2] 4)).heap.size, 0, none⟩ 1 1 [.int .i64 x1] (by simp [Act.eval, Act.put]; done) rfl (boxed_news h9) honeI (by decide) (by unfold maxLen; omega) (by omega) b10 _ rfl ?_
      intro gH cH2 y10 o10 q10 _ _
      have z10 := z9.growH q10 (by rw [HN1.out]; exact o10)
      have r10 := row_grownR r9 g10 q10 (by decide)
      have m10 := Boxed.kept m9 q10 (Boxed.not_row m9 (by decide) g10)
      refine hK.out _ _ (fun _ => ⟨z10.rec_.cellAt 3 rfl, z10.rec_.cellAt 4 rfl, r10.cellAt 0 rfl⟩) (fun hHeld => ?_)
      replace hHeld := hHeld rfl
      have hCl := hCl.step (j := 5) (by decide +kernel)
      clear hK K
      (try simp only [lL0, lL1, lL2, Act.put, lL3, lL4, lL5])
      refine wpAnyE_take (i := 11) (v := .pointer (some ⟨W2.heap.size, 3, none⟩)) rfl (by kernel_rfl) (by kernel_rfl) (by kernel_rfl) (by kernel_rfl) hCl (fun _ _ _ h => h) (Or.inl ⟨rfl, fun w hSw => (by (try dsimp only at hSw); go_simp)⟩) hHeld (fun hCl => ?_)
      (try simp only [lL0, lL1, lL2, Act.put, lL3, lL4, lL5])
      refine wpAnyE_ready (rs := [10]) (by kernel_rfl) (by simp) ?_
      refine (NextE.cons rfl (fun K hK => ?_) NextE.nil)
      have g11 : World.ownsRow _ W2.heap.size 4 1 (.slice aM j cM) j (fcells LM) := (by have := z10.flags; rwa [HN2.out] at this)
      have b11 := Nat.le_trans z10.below.size (Nat.le_refl _)
      refine step_append_lies _ rfl (.tmp 50) (.tmp 52) 40 rfl W2.heap.size 4 j0 (.bool false) 1 1 Tryz.underlying40 hj0 jz0 jz1 jz2 rfl (by decide) (.slice aM j cM) j (fcells LM) (by simp [Act.eval, Act.put]; done) g11 ⟨w9.drew.heap.size, 0, none⟩ 1 1 [.bool m2] (by simp [Act.eval, Act.put]; done) rfl (boxed_news m10) honeB (by decide) (by unfold maxLen; omega) (by omega) b11 _ rfl ?_
      intro gM cM2 y11 o11 q11 _ _
      have z11 := z10.growM q11 (by rw [HN2.out]; exact o11)
      have r11 := row_grownR r10 g11 q11 (by decide)
      refine hK.out _ _ (fun _ => ⟨z11.rec_.cellAt 3 rfl, z11.rec_.cellAt 4 rfl, r11.cellAt 0 rfl⟩) (fun hHeld => ?_)
      replace hHeld := hHeld rfl
      have hCl := hCl.step (j := 10) (by decide +kernel)
      clear hK K
      (try simp only [lL0, lL1, lL2, Act.put, lL3, lL4, lL5])
      have k3 := z11.rec_.cellAt 3 rfl
      have f3 := z11.rec_.free 3 (by simp [recC])
      refine wpAnyE_ready (rs := [12]) (by kernel_rfl) (by simp) ?_
      refine (NextE.cons rfl (fun K hK => ?_) NextE.nil)
      go_simp
      have zs := z11.set 3 (.slice (some ⟨gH, 0, none⟩) (j + 1) cH2)
      refine hK.out _ _ (fun h => by cases h) (fun _ => ?_)
      clear hK K
      (try simp only [lL0, lL1, lL2, Act.put, lL3, lL4, lL5])
      refine wpAnyE_ready (rs := [13]) (by kernel_rfl) (by simp) ?_
      refine (NextE.cons rfl (fun K hK => ?_) NextE.nil)
      go_simp
      refine hK.out _ _ (fun h => by cases h) (fun _ => ?_)
      clear hK K
      (try simp only [lL0, lL1, lL2, Act.put, lL3, lL4, lL5])
      have k4 := zs.rec_.cellAt 4 rfl
      have f4 := zs.rec_.free 4 (by simp [recC])
      refine wpAnyE_ready (rs := [14]) (by kernel_rfl) (by simp) ?_
      refine (NextE.cons rfl (fun K hK => ?_) NextE.nil)
      go_simp
      have zt := hid (zs.set 4 (.slice (some ⟨gM, 0, none⟩) (j + 1) cM2))
      refine hK.out _ _ (fun h => by cases h) (fun _ => ?_)
      clear hK K
      (try simp only [lL0, lL1, lL2, Act.put, lL3, lL4, lL5])
      refine wpAnyE_done (by kernel_rfl) ?_ _
      skip; generalize World.setCell _ ⟨W2.heap.size, 4, none⟩ (.slice (some ⟨gM, 0, none⟩) (j + 1) cM2) = y9 at *; have GD := hid (show (y9.alloc (.cells #[.string m1] 9)).ownsRow W2.heap.size 9 1 (.slice a9 j c9) j (strs LD) from (by have := own_new1 zt.out.data (.cells #[.string m1] 9); rwa [HN3.out] at this)); have NND := hid (boxed_news (Boxed.new y9 9 (.string m1))); have hbD : W2.heap.size ≤ (y9.alloc (.cells #[.string m1] 9)).heap.size := (by have := zt.out.below.size; simp; omega); clear hHeld; (gi_wp2_with (first | (gi_at_builtin; refine wpListIn_append_own _ rfl (.tmp 56) (.tmp 58) 39 rfl W2.heap.size 9 s0 (.string ⟨#[]⟩) 1 16 Tryz.underlying39 hs0 sz0 sz1 sz2 rfl (by decide) _ j _ rfl GD.out ⟨y9.heap.size, 0, none⟩ 1 1 [.string m1] rfl rfl NND.out honeS (by unfold maxLen; omega) (by omega) hbD ?_; intro v5 w5 hown5 hgrow5 _) | fail "none")); have ZF := (zt.out.alloc (.cells #[.string m1] 9)).growD hgrow5 (by rw [HN3.out]; exact hown5); exact ⟨⟨j + 1, _, _, by omega, by go_num, hid (by rw [HTH.out, HTM.out, HTD.out]; exact ZF)⟩, by simp [intOf]; omega⟩
    ·obtain rfl : j = PC.length := by omega
     rw [List.take_length] at hZ
     obtain ⟨LH, hLH⟩ : ∃ LH, PC.map (·.1) = LH := ⟨_, rfl⟩
     obtain ⟨LM, hLM⟩ : ∃ LM, (PC.map fun c => (Jr.maskB c.2).2) = LM := ⟨_, rfl⟩
     obtain ⟨LD, hLD⟩ : ∃ LD, (PC.map fun c => (Jr.maskB c.2).1) = LD := ⟨_, rfl⟩
     have hn1 : LH.length = PC.length := by rw [← hLH, List.length_map]
     have hn2 : LM.length = PC.length := by rw [← hLM, List.length_map]
     have hn3 : LD.length = PC.length := by rw [← hLD, List.length_map]
     have hdesc : Jr.descB seq PC = txt (Rec.encR ⟨2, seq, 0, LH, LM, 0⟩).1 :: LD := by
      have hU : Jr.Ups hm (PC.map (·.1)) := hok.ch.sub (HPS.out.map _)
      have hmay := Jr.desc_may (seq := seq) hs hU hpl.1 hpl.2
      unfold Jr.descB
      unfold Jr.descV at hmay ⊢
      rw [hLH, hLM] at hmay ⊢
      unfold Rec.encR
      rw [if_pos hmay, hLD]
     obtain ⟨R, hR⟩ : ∃ R, txt (Rec.encR ⟨2, seq, 0, LH, LM, 0⟩).1 = R := ⟨_, rfl⟩
     rw [hR] at hdesc
     rw [hLH, hLM, hLD] at hZ
     have HDE := hid hdesc
     obtain ⟨aH, cH, rfl⟩ := own_form hZ.out.ints
     obtain ⟨aM, cM, rfl⟩ := own_form hZ.out.flags
     obtain ⟨g9, c9, rfl, hnews⟩ := news_of_own hZ.out.data (by omega)
     have HNW := hid hnews
     have hQR := hid (fun wz (hz : Below wr.heap.size wr wz) => record_any (.agg #[.int .i64 2, .int .u64 (seq : Int), .int .i64 0, .slice aH LH.length cH, .slice aM LM.length cM, .int .u32 0]) ⟨2, seq, 0, LH, LM, 0⟩ wz ⟨⟨_, _, rfl, (own_ints hZ.out.ints).below hz, (own_flags hZ.out.flags).below hz⟩, hq, (by decide : (0 : Nat) < 2 ^ 32), (by decide : (-9223372036854775808 : Int) ≤ 2 ∧ (2 : Int) ≤ 9223372036854775807), (by decide : (-9223372036854775808 : Int) ≤ 0 ∧ (0 : Int) ≤ 9223372036854775807), ⟨(by omega : LH.length ≤ 1000000000), (by omega : LM.length ≤ 1000000000)⟩⟩)
     rw [hR] at hQR
     have hOW := HOUT.out
     obtain ⟨v, hO0, hown0⟩ := hOW
     obtain ⟨av, cv, rfl⟩ := own_form hown0
     have HO := hid (show Boxed W2 (w.heap.size + 1 + 1) 39 (.slice av L.length cv) from hO0)
     have HOWN := hid hown0
     have hb0 := hZ.out.below
     have hO := Boxed.below hO0 hb0
     have cO := hO.cell
     obtain ⟨k0, k1, k2, k3, k4, k5⟩ := hZ.out.rec_.c6
     have HN1 := hid hn1
     have HN2 := hid hn2
     have hd1 : 1 ≤ LD.length ∧ LD.length ≤ 24 := by omega
     have HN3 := hid hn3
     clear hn1 hn2 hn3 hLH hLM hLD hR hdesc hnews hlt hj
     have hRC : (∀ k, k < 6 → (recC seq (.slice aH LH.length cH) (.slice aM LM.length cM))[k]? = (recC seq (.slice aH LH.length cH) (.slice aM LM.length cM))[k]?) := fun _ _ => rfl
     clear hRC
     gi_wp2_with fail
     obtain ⟨i0, hi0, hz0, hz1, hz2⟩ := info_parts infoStr
     refine wpIn_round_E (S := fun W' => W'.cell? ⟨w.heap.size + 1 + 1, 0, none⟩ = some (.slice av L.length cv) ∧ W'.cell? ⟨W2.heap.size, 0, none⟩ = some (.int .i64 2) ∧ W'.cell? ⟨W2.heap.size, 1, none⟩ = some (.int .u64 (seq : Int)) ∧ W'.cell? ⟨W2.heap.size, 2, none⟩ = some (.int .i64 0) ∧ W'.cell? ⟨W2.heap.size, 3, none⟩ = some (.slice aH LH.length cH) ∧ W'.cell? ⟨W2.heap.size, 4, none⟩ = some (.slice aM LM.length cM) ∧ W'.cell? ⟨W2.heap.size, 5, none⟩ = some (.int .u32 0)) (E := [7]) (by kernel_rfl) (by kernel_rfl) (by rintro ⟨a, w, h⟩; exact h) ⟨cO, k0, k1, k2, k3, k4, k5⟩ (fun hHeld hCl => ?_)
     refine wpAnyE_take (i := 0) (v := .slice av L.length cv) rfl (by kernel_rfl) (by kernel_rfl) (by kernel_rfl) (by kernel_rfl) hCl (fun _ _ _ h => h) (Or.inl ⟨rfl, fun w hSw => (by (try dsimp only at hSw); go_simp)⟩) hHeld (fun hCl => ?_); (try simp only [lL0, lL2, Act.put, lL3, lL4, lL5])
     refine wpAnyE_take (i := 1) (v := .agg #[.int .i64 2, .int .u64 (seq : Int), .int .i64 0, .slice aH LH.length cH, .slice aM LM.length cM, .int .u32 0]) rfl (by kernel_rfl) (by kernel_rfl) (by kernel_rfl) (by kernel_rfl) hCl (fun _ _ _ h => h) (Or.inl ⟨rfl, fun w hSw => (by (try dsimp only at hSw); go_simp)⟩) hHeld (fun hCl => ?_); (try simp only [lL0, lL1, lL2, Act.put, lL3, lL4, lL5])
     refine wpAnyE_take (i := 5) (v := .slice (some ⟨g9, 0, none⟩) LD.length c9) rfl (by kernel_rfl) (by kernel_rfl) (by kernel_rfl) (by kernel_rfl) hCl (fun _ _ _ h => h) (Or.inl ⟨rfl, fun w hSw => (by (try dsimp only at hSw); go_simp)⟩) hHeld (fun hCl => ?_); (try simp only [lL0, lL1, lL2, Act.put, lL3, lL4, lL5])
     refine wpAnyE_ready (rs := [2]) (by kernel_rfl) (by simp) ?_; refine NextE.cons rfl (fun K hK => ?_) NextE.nil
     go_simp
     refine (hQR.out _ (Below.refl _ _).drew).mono ?_
     rintro e w4 ⟨rfl, hb4'⟩
     have hb4 : Below wr.heap.size wr w4 := ⟨hb4'.os, hb4'.tape, hb4'.output, hb4'.size, hb4'.block⟩
     have hO4 : Boxed w4 (w.heap.size + 1 + 1) 39 (.slice av L.length cv) := (hb4.block _ hO.lt).trans hO
     have r4 := hZ.out.rec_.below hb4 hZ.out.rec_.lt
     have hB4 : Below W2.heap.size W2 w4 := hb0.trans (hb4.mono hb0.size)
     have hown4 := own_below HOWN.out hB4
     clear hb4'
     refine hK.out _ _ (fun _ => ⟨hO4.cell, r4.cellAt 0 rfl, r4.cellAt 1 rfl, r4.cellAt 2 rfl, r4.cellAt 3 rfl, r4.cellAt 4 rfl, r4.cellAt 5 rfl⟩) (fun hHeld => ?_); replace hHeld := hHeld rfl; have hCl := hCl.step (j := 2) (by decide +kernel); clear hK K; (try simp only [lL0, lL1, lL2, Act.put, lL3, lL4, lL5])
     refine wpAnyE_ready (rs := [3]) (by kernel_rfl) (by simp) ?_; refine NextE.cons rfl (fun K hK => ?_) NextE.nil
     go_simp
     refine hK.out _ _ (fun _ => ⟨(hO4.alloc _).cell, (r4.alloc _).cellAt 0 rfl, (r4.alloc _).cellAt 1 rfl, (r4.alloc _).cellAt 2 rfl, (r4.alloc _).cellAt 3 rfl, (r4.alloc _).cellAt 4 rfl, (r4.alloc _).cellAt 5 rfl⟩) (fun hHeld => ?_); replace hHeld := hHeld rfl; have hCl := hCl.step (j := 3) (by decide +kernel); clear hK K; (try simp only [lL0, lL1, lL2, Act.put, lL3, lL4, lL5])
     have G := own_new1 hown4 (.cells #[.string R] 9)
     have NN := box1 w4 (.string R) 9
     have hone : ∀ u ∈ [Value.string R], u.oneCell' = true := by intro u hu; rw [List.mem_singleton.1 hu]; rfl
     have hbase : w.heap.size ≤ (w4.alloc (.cells #[.string R] 9)).heap.size := by have := HB.out.size; have := hB4.size; simp; omega
     refine wpAnyE_ready (rs := [4]) (by kernel_rfl) (by simp) ?_; refine NextE.cons rfl (fun K hK => ?_) NextE.nil
     (refine step_append_lies _ rfl (.tmp 61) (.tmp 64) 39 rfl w.heap.size 9 i0 (.string ⟨#[]⟩) 1 16 Tryz.underlying39 hi0 hz0 hz1 hz2 rfl (by decide) (.slice av L.length cv) L.length (strs L) (by simp [Act.eval, Act.put]; done) G ⟨w4.heap.size, 0, none⟩ 1 1 [.string R] (by simp [Act.eval, Act.put]; done) rfl NN hone (by decide) (by unfold maxLen; omega) (by omega) hbase _ rfl ?_; intro gq cq w5 hown5 hgrow hat hlt5)
     have hne := Boxed.not_row (hO4.alloc (.cells #[.string R] 9)) (by decide : 39 ≠ 9) G
     have hO5 := (hO4.alloc (.cells #[.string R] 9)).kept hgrow hne
     have r5 := row_grownR (r4.alloc (.cells #[.string R] 9)) G hgrow (by decide)
     have havl : ∀ k, Value.ownBlock (.slice av L.length cv) = some k → k < W2.heap.size := fun k hk => (World.ownsRow.lt HOWN.out k hk).2
     have NN2 := HNW.out w5 (fun b h1 h2 => by
      have e1 := hgrow.block b (by have := hb4.size; simp; omega) (fun e => by have := havl b e.symm; omega)
      rw [e1, Below.heap_alloc _ _ _ (by have := hb4.size; omega)]
      exact hb4.block b h2)
     have honeD : ∀ u ∈ strs LD, u.oneCell' = true := by intro u hu; obtain ⟨y, _, rfl⟩ := List.mem_map.1 hu; rfl
     have hbase5 : w.heap.size ≤ w5.heap.size := by have := hgrow.size; omega
     refine hK.out _ _ (fun _ => ⟨hO5.cell, r5.cellAt 0 rfl, r5.cellAt 1 rfl, r5.cellAt 2 rfl, r5.cellAt 3 rfl, r5.cellAt 4 rfl, r5.cellAt 5 rfl⟩) (fun hHeld => ?_); replace hHeld := hHeld rfl; have hCl := hCl.step (j := 4) (by decide +kernel); clear hK K; (try simp only [lL0, lL1, lL2, Act.put, lL3, lL4, lL5])
     refine wpAnyE_ready (rs := [6]) (by kernel_rfl) (by simp) ?_; refine NextE.cons rfl (fun K hK => ?_) NextE.nil
     (refine step_append_lies _ rfl (.tmp 65) (.tmp 66) 39 rfl w.heap.size 9 i0 (.string ⟨#[]⟩) 1 16 Tryz.underlying39 hi0 hz0 hz1 hz2 rfl (by decide) (.slice (some ⟨gq, 0, none⟩) (L.length + 1) cq) (L.length + 1) (strs L ++ [.string R]) (by simp [Act.eval, Act.put]; done) hown5 ⟨g9, 0, none⟩ LD.length c9 (strs LD) (by simp [Act.eval, Act.put]; done) (by unfold strs; rw [List.length_map, Nat.mul_one]) NN2 honeD (by omega) (by unfold maxLen; omega) (by omega) hbase5 _ rfl ?_; intro gr cr6 w6 hown6 hgrow6 hat6 hlt6)
     have hne6 := Boxed.not_row hO5 (by decide : 39 ≠ 9) hown5
     have hO6 := Boxed.kept hO5 hgrow6 hne6
     have r6 := row_grownR r5 hown5 hgrow6 (by decide)
     refine hK.out _ _ (fun _ => ⟨hO6.cell, r6.cellAt 0 rfl, r6.cellAt 1 rfl, r6.cellAt 2 rfl, r6.cellAt 3 rfl, r6.cellAt 4 rfl, r6.cellAt 5 rfl⟩) (fun hHeld => ?_); replace hHeld := hHeld rfl; have hCl := hCl.step (j := 6) (by decide +kernel); clear hK K; (try simp only [lL0, lL1, lL2, Act.put, lL3, lL4, lL5])
     have c6 := hO6.cell
     have f6 := hO6.frozen
     refine wpAnyE_ready (rs := [7]) (by kernel_rfl) (by simp) ?_; refine NextE.cons rfl (fun K hK => ?_) NextE.nil
     go_simp
     refine hK.out _ _ (fun h => by cases h) (fun _ => ?_); clear hK K; (try simp only [lL0, lL1, lL2, Act.put, lL3, lL4, lL5])
     refine wpAnyE_done (by kernel_rfl) ?_ _
     show KeepsOthers W2 _ ∧ KB _ _ W2 _ ∧ (ToldI w _ _ _ _ seq _ _ ∧ _) ∧ _
     have v6 := hid (show Value.slice (some ⟨gr, 0, none⟩) (L.length + 1 + LD.length) cr6 = Value.slice (some ⟨gr, 0, none⟩) (L.length + 1 + LD.length) cr6 from rfl)
     obtain ⟨VV, hVV⟩ : ∃ VV, Value.slice (some ⟨gr, 0, none⟩) (L.length + 1 + LD.length) cr6 = VV := ⟨_, rfl⟩
     rw [hVV] at hown6 ⊢
     clear v6 hVV
     have hb14 := Boxed.alloc (Boxed.below HBX.out.1 hB4) (.cells #[.string R] 9)
     have hb24 := Boxed.alloc (Boxed.below HBX.out.2 hB4) (.cells #[.string R] 9)
     have hn1 := Boxed.not_row hb14 (by decide : 22 ≠ 9) G
     have hn2 := Boxed.not_row hb24 (by decide : 3 ≠ 9) G
     have hb15 := Boxed.kept hb14 hgrow hn1
     have hb25 := Boxed.kept hb24 hgrow hn2
     have hm1 := Boxed.not_row hb15 (by decide : 22 ≠ 9) hown5
     have hm2 := Boxed.not_row hb25 (by decide : 3 ≠ 9) hown5
     have hb16 := Boxed.kept hb15 hgrow6 hm1
     have hb26 := Boxed.kept hb25 hgrow6 hm2
     have hz2 := HBX.out.1.lt
     have hsq4 := Boxed.alloc (Boxed.below HSQ.out hB4) (.cells #[.string R] 9)
     have hsn := Boxed.not_row hsq4 (by decide : 35 ≠ 9) G
     have hsq5 := Boxed.kept hsq4 hgrow hsn
     have hsq6 := Boxed.kept hsq5 hgrow6 (Boxed.not_row hsq5 (by decide : 35 ≠ 9) hown5)
     have ht6 := row_grownR (row_grownR ((HTR.out.below hB4 HTR.out.lt).alloc (.cells #[.string R] 9)) G hgrow (by decide)) hown5 hgrow6 (by decide)
     have hBw4 : Below w.heap.size w w4 := HB.out.trans (hB4.mono HB.out.size)
     have hBw6 := ((hBw4.alloc hBw4.size (.cells #[.string R] 9)).grown hgrow hbase (fun k hk => (World.ownsRow.lt G k hk).1)).grown hgrow6 hbase5 (fun k hk => (World.ownsRow.lt hown5 k hk).1)
     have hwW := HWW.out
     have e1 : L0 ++ (pre ++ [x]).flatMap (fun x => Jr.descB seq (pieceL t.ch x)) = L ++ (R :: LD) := by rw [List.flatMap_append, ← List.append_assoc, HL.out, List.flatMap_cons, List.flatMap_nil, List.append_nil, HPC.out, HDE.out]
     have k3 := ((((KeepsOthers.ofBelow hB4).trans (KeepsOthers.alloc w4 (.cells #[.string R] 9))).trans (KeepsOthers.of_grownBy hgrow (own_isCells G))).trans (KeepsOthers.of_grownBy hgrow6 (own_isCells hown5))).trans (KeepsOthers.setCell w6 ⟨w.heap.size + 1 + 1, 0, none⟩ VV)
     have q1 := (KB.ofBelow (B1 := W.heap.size) (B2 := W.heap.size + 1) hB4).trans (KB.ofBelow ((Below.refl _ w4).alloc (Nat.le_refl _) (.cells #[.string R] 9)))
     have q2 := (q1.trans (KB.ofGrown hgrow (Ne.symm hn1) (Ne.symm hn2))).trans (KB.ofGrown hgrow6 (Ne.symm hm1) (Ne.symm hm2))
     have q3 := q2.trans (KB.set w6 ⟨w.heap.size + 1 + 1, 0, none⟩ VV (by dsimp only; omega) (by dsimp only; omega))
     have o6 := hO6.set VV
     have s6 := boxed_other hsq6 VV (show w.heap.size + 1 + 1 ≠ w.heap.size + 1 by omega)
     have t6 := ht6.other (a := ⟨w.heap.size + 1 + 1, 0, none⟩) (by dsimp only; omega) VV
     have b6 := hBw6.setCell (p := ⟨w.heap.size + 1 + 1, 0, none⟩) (by dsimp only; omega) VV
     have x6 := boxed_other hb16 VV (show w.heap.size + 1 + 1 ≠ W.heap.size by omega)
     have y6 := boxed_other hb26 VV (show w.heap.size + 1 + 1 ≠ W.heap.size + 1 by omega)
     refine ⟨k3, q3, ⟨⟨⟨_, o6, ?_⟩, s6, t6, b6⟩, x6, y6⟩, ?_⟩
     ·rw [e1, List.length_append, List.length_cons, show L.length + (LD.length + 1) = L.length + 1 + LD.length by omega]
      have := own_setR (a := ⟨w.heap.size + 1 + 1, 0, none⟩) (u := VV) (Boxed.row hO6) hown6 (by decide)
      unfold strs at this ⊢
      rw [List.map_append, List.map_cons]
      rw [List.append_assoc, List.singleton_append] at this
      exact this
     ·exact k3.same D _ HDD.out rfl
  case done2 =>
   rintro D2 xs2 W3 hD2 ⟨k2, hk2, hkl2, rfl⟩ ⟨⟨hI0, _, _⟩, hDD⟩ hK3
   have hfl : L0 ++ (pieces 24 t.ch.length (by decide) k2 hk2).flatMap (fun x => Jr.descB seq (pieceL t.ch x)) = Jr.body t seq := by
    have h1 := pieces_all (by decide : 0 < 24) (Jr.descB seq) t.ch k2 hk2 hkl2
    unfold Jr.body
    rw [HL0.out, List.flatMap_def, h1, List.flatMap_def]
   rw [hfl] at hI0
   clear hfl
   obtain ⟨L, hL⟩ : ∃ L, Jr.body t seq = L := ⟨_, rfl⟩
   rw [hL] at hI0
   have hLn : L.length ≤ 1000000 := by have := Jr.body_length t seq; rw [hL] at this; omega
   have hsz : sized L := hL ▸ body_sized hs hok
   have HL := hid hL
   obtain ⟨⟨v, hO, hown⟩, hSq, hTr, hB⟩ := hI0
   obtain ⟨av, cv, rfl⟩ := own_form hown
   have cO := hO.cell
   have c3 := hSq.cell
   obtain ⟨i0, hi0, hz0, hz1, hz2⟩ := info_parts infoStr
   obtain ⟨SM, hSM⟩ : ∃ SM, Jr.sumB (cat L) = SM := ⟨_, rfl⟩
   have hSMl : SM < 2 ^ 32 := hSM ▸ Jr.sumB_lt _
   have hlast : Jr.lastB t seq = txt (Rec.encR ⟨4, seq, 0, [], [], SM⟩).1 := by
    unfold Jr.lastB Rec.encR
    rw [hL, hSM, if_pos Jr.last_may]
   obtain ⟨BL, hBL⟩ : ∃ BL, Jr.lastB t seq = BL := ⟨_, rfl⟩
   rw [hBL] at hlast
   obtain ⟨CT, hCT⟩ : ∃ CT, txt (cat L) = CT := ⟨_, rfl⟩
   have hJ := hid (fun wz (hz : Below W3.heap.size W3 wz) => join_own (.slice av L.length cv) L w.heap.size (own_below hown hz) hsz hLn)
   have hSU := hid (fun wz => sum_any (txt (cat L)) (by rw [txt_size, cat_length _ hsz]; omega) wz)
   rw [hCT] at hJ hSU
   have hsum : u32 (more 0#32 CT.data.toList) = (SM : Int) := by
    rw [← hCT, ← hSM]
    rfl
   rw [hsum] at hSU
   have hRE := hid (fun wz => record_any (.agg #[.int .i64 4, .int .u64 (seq : Int), .int .i64 0, .slice none 0 0, .slice none 0 0, .int .u32 (SM : Int)]) ⟨4, seq, 0, [], [], SM⟩ wz ⟨⟨_, _, rfl, .inl ⟨rfl, rfl⟩, .inl ⟨rfl, rfl⟩⟩, hq, hSMl, (by decide : (-9223372036854775808 : Int) ≤ 4 ∧ (4 : Int) ≤ 9223372036854775807), (by decide : (-9223372036854775808 : Int) ≤ 0 ∧ (0 : Int) ≤ 9223372036854775807), ⟨(by decide : (0 : Nat) ≤ 1000000000), (by decide : (0 : Nat) ≤ 1000000000)⟩⟩)
   rw [← hlast] at hRE
   have KEEP : Hid (∀ wz, Below W3.heap.size W3 wz → wz.cell? ⟨w.heap.size + 1 + 1, 0, none⟩ = some (.slice av L.length cv) ∧ wz.cell? ⟨w.heap.size + 1, 0, none⟩ = some (.int .u64 (seq : Int))) := hid (fun wz hz => ⟨(Boxed.below hO hz).cell, (Boxed.below hSq hz).cell⟩)
   have s0 : Below W3.heap.size W3 W3.drew := (Below.refl _ _).drew
   have HOW := hid hown
   have HBO := hid (show Boxed W3 (w.heap.size + 1 + 1) 39 (.slice av L.length cv) from hO)
   have HBS := hid (show Boxed W3 (w.heap.size + 1) 35 (.int .u64 (seq : Int)) from hSq)
   have HB3 := hid hB
   have HBL := hid hBL
   have HDA := hid hDD
   have HDB := hid hK3
   clear hL hSM hBL hCT hsum hlast hown hO hSq hB hDD hK3 hTr
   gi_wp2_with fail
   refine wpIn_wide.2 ?_
   go_region_held3 (fun w' => w'.cell? ⟨w.heap.size + 1 + 1, 0, none⟩ = some (.slice av L.length cv) ∧ w'.cell? ⟨w.heap.size + 1, 0, none⟩ = some (.int .u64 (seq : Int)))
    (first | (refine KEEP.out _ ?_; assumption) | (refine KEEP.out _ (below_box ?_ _); assumption) | exact ⟨hO5.cell, hS5.cell⟩)
    (first | (go_at_call 77; refine (hJ.out _ s0).mono ?_; rintro e wa ⟨rfl, ba⟩; have sa : Below W3.heap.size W3 wa := below_next s0 ba) | (go_at_call 112; refine (hSU.out _).mono ?_; rintro e wb ⟨rfl, rfl⟩) | (go_at_call 103; refine (hRE.out _).mono ?_; rintro e wc ⟨rfl, bc⟩; have sc : Below W3.heap.size W3 wc := below_next sa bc; have G := hid (own_new1 (own_below HOW.out sc) (.cells #[.string BL] 9)); have NN := hid (box1 wc (.string BL) 9); have hone : ∀ u ∈ [Value.string BL], u.oneCell' = true := (by intro u hu; rw [List.mem_singleton.1 hu]; rfl); have hbase : w.heap.size ≤ (wc.alloc (.cells #[.string BL] 9)).heap.size := (by have := HB3.out.size; have := sc.size; simp; omega)) | (refine step_append_lies _ rfl (.tmp 68) (.tmp 75) 39 rfl w.heap.size 9 i0 (.string ⟨#[]⟩) 1 16 Tryz.underlying39 hi0 hz0 hz1 hz2 rfl (by decide) (.slice av L.length cv) L.length (strs L) (by simp [Act.eval, Act.put]; done) G.out ⟨wc.heap.size, 0, none⟩ 1 1 [.string BL] (by simp [Act.eval, Act.put]; done) rfl NN.out hone (by decide) (by unfold maxLen; omega) (by omega) hbase _ rfl ?_; intro gq cq w5 hown5 hgrow hat hlt5; have hO5 := Boxed.kept (Boxed.alloc (Boxed.below HBO.out sc) (.cells #[.string BL] 9)) hgrow (Boxed.not_row (Boxed.alloc (Boxed.below HBO.out sc) (.cells #[.string BL] 9)) (by decide : 39 ≠ 9) G.out); have hS5 := Boxed.kept (Boxed.alloc (Boxed.below HBS.out sc) (.cells #[.string BL] 9)) hgrow (Boxed.not_row (Boxed.alloc (Boxed.below HBS.out sc) (.cells #[.string BL] 9)) (by decide : 35 ≠ 9) G.out)) | fail "none")
   have k5 := ((KeepsOthers.ofBelow sc).trans (KeepsOthers.alloc wc (.cells #[.string BL] 9))).trans (KeepsOthers.of_grownBy hgrow (own_isCells G.out))
   have hDA5 := k5.same D _ HDA.out rfl
   have hDB5 := k5.same D2 _ HDB.out rfl
   have hB5 := ((HB3.out.trans (sc.mono HB3.out.size)).alloc (Nat.le_trans HB3.out.size sc.size) (.cells #[.string BL] 9)).grown hgrow hbase (fun k hk => (World.ownsRow.lt G.out k hk).1)
   go_wp2_with fail
   gi_wp2_with fail
   refine ⟨by simp, .inl ⟨_, _, rfl, run_takeDeferred hDB5, ?_⟩⟩
   refine ⟨by simp, .inl ⟨_, _, rfl, run_takeDeferred ((World.putObj_heap_other (by omega)).trans hDA5), ?_⟩⟩
   have hWW := HWW.out
   have hDA6 : (w5.putObj D2 (.deferred none)).heap[D]? = some (.deferred (some [])) := (World.putObj_heap_other (by omega)).trans hDA5
   refine ⟨_, results_tmp rfl _ _ _, ⟨_, rfl, ?_, below_b (below_b hB5 D2 (by omega) _) D (by omega) _⟩⟩
   have h7 := ownsRow_putObj (ownsRow_putObj hown5 (.deferred none) hDB5 rfl) (.deferred none) hDA6 rfl
   have e7 : Jr.told t seq = L ++ [BL] := by unfold Jr.told; rw [HL.out, HBL.out]
   rw [e7, List.length_append]
   unfold strs at h7 ⊢
   rw [List.map_append]
   exact h7
end Go.Proofs.YtnpdhidliaahbaaGreat
