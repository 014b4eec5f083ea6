/- Forks: twin, left of entries. (Printed by wip/gen/ftwin.py out of XExtsTwin.) -/
import Derived.Test.YtgjmeeiejcbjfaaGreatH34
import Derived.Laws.AppendOwnNone
set_option linter.unusedSimpArgs false
set_option linter.unusedVariables false
namespace Go.Proofs.YtgjmeeiejcbjfaaGreat
open Go.Lib (hid)
open Go Go.RowKit
def twinTailN : EL := [(0, 0, -70), (0, 0, -71)]
def TwinN (B : Nat) (w : World) (v : Value) (l : EL) : Prop := ∃ g cap, v = .slice (some ⟨g, 0, none⟩) l.length cap ∧ l.length + 2 ≤ cap ∧ OwnEnts B w (.slice (some ⟨g, 0, none⟩) (l.length + 2) cap) (l ++ twinTailN)
theorem TwinN.below {B : Nat} {w w' : World} {v : Value} {l : EL} (h : TwinN B w v l) (hb : Below w.heap.size w w') : TwinN B w' v l := by
 obtain ⟨g, cap, e, hc, ho⟩ := h
 exact ⟨g, cap, e, hc, own_below ho hb⟩
theorem TwinN.at {B : Nat} {w : World} {v : Value} {l : EL} (h : TwinN B w v l) : ExtsAt w v l := by
 obtain ⟨g, cap, rfl, hc, ho⟩ := h
 refine .inr ⟨g, 0, cap, rfl, fun j u hj => ?_⟩
 have ho' : w.ownsRow B 31 3 (.slice (some ⟨g, 0, none⟩) (l.length + 2) cap) (l.length + 2) (ecells (l ++ twinTailN)) := by
  have := ho
  unfold OwnEnts at this
  rwa [show (l ++ twinTailN).length = l.length + 2 by simp [twinTailN]] at this
 rw [Nat.zero_add]
 refine own_cellK ho' ?_
 rw [ecells_append, List.getElem?_append_left (List.getElem?_eq_some_iff.1 hj).1]
 exact hj
theorem TwinN.ents {B : Nat} {w : World} {v : Value} {l : EL} (h : TwinN B w v l) : EntsAt w v l := by
 obtain ⟨g, cap, rfl, hc, ho⟩ := h
 have he := OwnEnts.ents ho
 have := he.takeS (cap' := cap) l.length (by simp) (fun h => by cases h)
 rwa [List.take_left] at this
theorem info_byte : (Tryz.prog.info? 5).map (fun i => (i.zero, i.size, i.bytes)) = some (some (.int .u8 0), 1, 1) := by kernel_rfl
def fillTo (x : UInt8) (j : Nat) : List UInt8 := List.replicate j x ++ List.replicate (128 - j) 0
theorem fillTo_length (x : UInt8) (j : Nat) (h : j ≤ 128) : (fillTo x j).length = 128 := by simp [fillTo]; omega
theorem fillTo_set (x : UInt8) (j : Nat) (h : j < 128) : (fillTo x j).set j x = fillTo x (j + 1) := by
 unfold fillTo
 rw [List.set_append_right _ _ (by simp), List.length_replicate, Nat.sub_self, show 128 - j = (128 - (j + 1)) + 1 by omega, List.replicate_succ, List.set_cons_zero, List.replicate_succ']
 simp
theorem fillTo_zero (x : UInt8) : fillTo x 0 = List.replicate 128 0 := by simp [fillTo]
theorem fillTo_all (x : UInt8) : fillTo x 128 = List.replicate 128 x := by simp [fillTo]
set_option maxHeartbeats 1000000 in
theorem block_any (x : UInt8) (w : World) : Calls Tryz.prog 46 #[bval x] w fun e w' => e = .returned (.string (txt (List.replicate 128 x))) ∧ Below w.heap.size w w' := by
 obtain ⟨ib, hib, hzb, hsb, hbb⟩ := info_parts info_byte
 have hmk : ∀ wx : World, (Instr.makeSlice 95 (.int .i64 128) (.int .i64 128)).run Tryz.prog wx = .ok (.slice (some ⟨wx.heap.size, 0, none⟩) 128 128) (wx.alloc (.cells (bcells (fillTo x 0)).toArray 5)) := fun wx => by
  have hr := run_make (P := Tryz.prog) wx 95 5 ib (.int .u8 0) Tryz.underlying95 hib hzb .i64 .i64 128 128 (by omega) (by omega) (by rw [hbb]; omega) (by omega)
  rw [fillTo_zero, ← bcells_zero]
  simpa [hsb, Value.cells, madeCells_one] using hr
 have hr0 : Hid (Row (w.alloc (.cells (bcells (fillTo x 0)).toArray 5)) w.heap.size 5 (bcells (fillTo x 0))) := hid (Row.new w _ _ rfl)
 have hb0 : Hid (Below w.heap.size w (w.alloc (.cells (bcells (fillTo x 0)).toArray 5))) := hid ((Below.refl _ _).alloc (Nat.le_refl _) _)
 have hend : Hid (txt (fillTo x 128) = txt (List.replicate 128 x)) := hid (by rw [fillTo_all])
 generalize hT : txt (List.replicate 128 x) = T at *
 clear hT
 obtain ⟨X, hX⟩ : ∃ X, bval x = X := ⟨_, rfl⟩
 have HX := hid hX
 rw [hX]
 have hXw : ∃ n : Int, X = .int .u8 n := ⟨_, hX.symm⟩
 clear hX
 obtain ⟨n, rfl⟩ := hXw
 go_enter Tryz.func46, Tryz.ntmps46
 go_wp2_with fail
 clear hmk
 go_loopw [4] (fun q wr => ∃ j : Nat, j ≤ 128 ∧ q = .int .i64 j ∧ Hid (Row wr w.heap.size 5 (bcells (fillTo x j))) ∧ Hid (Below w.heap.size w wr)) (fun q _ => 128 - (intOf q).toNat)
 case atStart => exact ⟨0, by omega, rfl, hr0, hb0⟩
 case round =>
  obtain ⟨j, hj, rfl, hr, hb⟩ := hrel
  by_cases hlt : j < 128
  ·have i1 : (j : Int) < 128 := by omega
   have hl : (bcells (fillTo x j)).length = 128 := by rw [bcells_length, fillTo_length _ _ hj]
   have hc := hr.out.cellAt j (List.getElem?_eq_getElem (by rw [hl]; exact hlt))
   have hf := hr.out.free j (by rw [hl]; exact hlt)
   generalize (bcells (fillTo x j))[j]'(by rw [hl]; exact hlt) = old at hc
   clear hl
   go_wp2_with fail
   go_roundw
   case rel =>
    refine ⟨j + 1, by omega, by go_num, hid ?_, hid (hb.out.setCell (by dsimp only; omega) _)⟩
    have := hr.out.set j (bval x)
    rw [bcells_set, fillTo_set x j hlt, HX.out] at this
    exact this
   case measure => simp [intOf]; omega
  ·obtain rfl : j = 128 := by omega
   have hcv : ∀ c : Nat, (convert 95 9 (.slice (some ⟨w.heap.size, 0, none⟩) 128 c)).run Tryz.prog wr = .ok (.string (txt (fillTo x 128))) wr := fun c =>
    run_string_of_row _ _ 5 128 c (by rw [fillTo_length _ _ (Nat.le_refl _)]) Tryz.underlying95 Tryz.underlying5 Tryz.underlying9 hr.out
   go_wp2_with fail
   go_ret
   exact ⟨by rw [hend.out]; rfl, hb.out⟩
def fiveT (j : Nat) : EL := (List.range j).map fun (i : Nat) => (2 * (i : Int), 10 + 2 * (i : Int), 1)
theorem fiveT_succ (j : Nat) : fiveT (j + 1) = fiveT j ++ [(2 * (j : Int), 10 + 2 * (j : Int), 1)] := by
 unfold fiveT
 rw [List.range_succ, List.map_append]
 rfl
theorem fiveT_len (j : Nat) : (fiveT j).length = j := by simp [fiveT]
set_option maxRecDepth 100000 in
set_option maxHeartbeats 4000000 in
theorem five_any (w : World) : Calls Tryz.prog 44 #[] w fun e w' => ∃ v, e = .returned v ∧ OwnExts w.heap.size w' v (fiveT 5) ∧ Below w.heap.size w w' := by
 obtain ⟨i0', hi0, hz0, hz1, hz2⟩ := info_parts info_ext
 go_enter Tryz.func44, Tryz.ntmps44
 go_wp2_with fail
 go_loopw [1, 2] (fun o q wr => ∃ (j : Nat) (u : Value), u = o ∧ q = .int .i64 j ∧ j ≤ 5 ∧ Hid (OwnExts w.heap.size wr u (fiveT j)) ∧ Hid (Below w.heap.size w wr)) (fun _ q _ => 5 - (intOf q).toNat)
 case atStart => exact ⟨0, _, rfl, rfl, by omega, hid (World.ownsRow_nil _ _ _ _), hid (Below.refl _ _)⟩
 case round =>
  obtain ⟨j, u, rfl, rfl, hj, ho, hb⟩ := hrel
  by_cases hlt : j < 5
  ·have i0 : (0 : Int) ≤ (j : Int) := by omega
   have i1 : (j : Int) < 5 := by omega
   have k1 : IntKind.i64.wrap (2 * (j : Int)) = 2 * (j : Int) := IntWalk.i64_in _ (by omega)
   have k2 : IntKind.i64.wrap (10 + 2 * (j : Int)) = 10 + 2 * (j : Int) := IntWalk.i64_in _ (by omega)
   have hnx := hid (fiveT_succ j)
   obtain ⟨au, cu, rfl⟩ := OwnExts.slice ho.out
   rw [fiveT_len] at ho
   have hbz := hb.out.size
   have HO := hid (show (wr.alloc (.cells #[.int .i64 (2 * (j : Int)), .int .i64 (10 + 2 * (j : Int)), .int .i64 1] 53)).ownsRow w.heap.size 53 3 (.slice au j cu) j (ecells (fiveT j)) from by
    have h := own_below ho.out ((Below.refl _ _).alloc (Nat.le_refl _) (.cells #[.int .i64 (2 * (j : Int)), .int .i64 (10 + 2 * (j : Int)), .int .i64 1] 53))
    rwa [fiveT_len] at h)
   have HB := hid (hb.out.alloc hbz (.cells #[.int .i64 (2 * (j : Int)), .int .i64 (10 + 2 * (j : Int)), .int .i64 1] 53))
   have hone := ecells_one [(2 * (j : Int), 10 + 2 * (j : Int), 1)]
   rw [fiveT_len]
   have hB2 : w.heap.size ≤ (wr.alloc (.cells #[.int .i64 (2 * (j : Int)), .int .i64 (10 + 2 * (j : Int)), .int .i64 1] 53)).heap.size := by simp; omega
   clear ho hb
   go_wp2_with (first | (at_builtin; refine wpList_append_own _ rfl (.tmp 7) (.tmp 14) 42 rfl w.heap.size 53 i0' (.agg #[.int .i64 0, .int .i64 0, .int .i64 0]) 3 24 Tryz.underlying42 hi0 hz0 hz1 hz2 rfl (by decide) _ j (ecells (fiveT j)) rfl HO.out ⟨wr.heap.size, 0, none⟩ 1 1 [.int .i64 (2 * (j : Int)), .int .i64 (10 + 2 * (j : Int)), .int .i64 1] rfl rfl (World.news_of_block (heap_alloc_new _ _)) hone (by unfold maxLen; omega) (by omega) hB2 ?_))
   intro v' w5 hown hgrow _
   have O5 : Hid (OwnExts w.heap.size w5 v' (fiveT (j + 1))) := hid (by
    unfold OwnExts
    rw [hnx.out, List.length_append, fiveT_len, ecells_append]
    exact hown)
   have B5 := hid (HB.out.grown hgrow hB2 (fun k hk => (World.ownsRow.lt HO.out k hk).1))
   clear hown hgrow HO HB
   go_wp2_with fail
   go_roundw
   case rel => exact ⟨j + 1, _, rfl, by go_num, by omega, O5, B5⟩
   case measure => simp [intOf]; omega
  ·obtain rfl : j = 5 := by omega
   go_wp2_with fail
   go_ret
   exact ⟨_, rfl, ho.out, hb.out⟩
def zblk : ByteArray := txt (List.replicate 128 0)
def putD (x : Int × ByteArray) (B : List ByteArray) : List ByteArray := if 0 ≤ x.1 ∧ x.1 < 4096 then B.set x.1.toNat x.2 else B
def diskOf (l : CL) : List ByteArray := l.foldl (fun B x => putD x B) (List.replicate 4096 zblk)
theorem putD_len (x : Int × ByteArray) (B : List ByteArray) : (putD x B).length = B.length := by unfold putD; split <;> simp
theorem fold_putD_len : ∀ (l : CL) (B : List ByteArray), (l.foldl (fun B x => putD x B) B).length = B.length
 | [], B => rfl
 | x :: l, B => by rw [List.foldl_cons, fold_putD_len l, putD_len]
theorem diskOf_len (l : CL) : (diskOf l).length = 4096 := by unfold diskOf; rw [fold_putD_len, List.length_replicate]
theorem disk_step (l : CL) (i : Nat) (hi : i < l.length) : diskOf (l.take (i + 1)) = putD (l.getD i (0, ⟨#[]⟩)) (diskOf (l.take i)) := by
 unfold diskOf
 generalize List.replicate 4096 zblk = Z
 rw [List.take_succ_eq_append_getElem hi, List.foldl_append]
 simp [List.getD, hi]
def zTo (j : Nat) : List ByteArray := List.replicate j zblk ++ List.replicate (4096 - j) ⟨#[]⟩
theorem zTo_len (j : Nat) (h : j ≤ 4096) : (zTo j).length = 4096 := by rw [zTo, List.length_append, List.length_replicate, List.length_replicate]; omega
theorem zTo_set (j : Nat) (h : j < 4096) : (zTo j).set j zblk = zTo (j + 1) := by
 unfold zTo
 rw [List.set_append_right _ _ (by rw [List.length_replicate]; omega), List.length_replicate, Nat.sub_self, show 4096 - j = (4096 - (j + 1)) + 1 by omega, List.replicate_succ, List.set_cons_zero, List.replicate_succ' (n := j)]
 simp only [List.append_assoc]
 rfl
theorem zTo_all : zTo 4096 = diskOf [] := by
 unfold zTo diskOf
 rw [Nat.sub_self, List.replicate_zero, List.append_nil]
 rfl
set_option maxRecDepth 100000 in
set_option maxHeartbeats 8000000 in
theorem blocks_any (cv : Value) (l : CL) (bad : Int) (w : World) (h : ChgsAt w cv l) (hl : l.length ≤ 1000000) (hs : ∀ x ∈ l, -9223372036854775808 ≤ x.1 ∧ x.1 ≤ 9223372036854775807) :
  Calls Tryz.prog 18 #[.agg #[cv, .int .i64 bad]] w fun e w' => ∃ D, e = .returned (.slice (some ⟨D, 0, none⟩) 4096 4096) ∧ w.heap.size < D ∧ Row w' D 9 ((diskOf l).map .string) ∧ Below w.heap.size w w' := by
 obtain ⟨is, his, hzs, hss, hbs⟩ := info_parts info_str
 have H := hid h
 obtain ⟨ad, cap, rfl⟩ := h.form
 clear h
 have bA := (Below.refl w.heap.size w).alloc (Nat.le_refl _) (.cells #[.slice ad l.length cap, .int .i64 bad] 38)
 have qb := hid (block_any 0 (w.alloc (.cells #[.slice ad l.length cap, .int .i64 bad] 38)))
 have hbv : bval 0 = .int .u8 0 := rfl
 rw [hbv] at qb
 have x0 := heap_alloc_new w (.cells #[.slice ad l.length cap, .int .i64 bad] 38)
 have BA := hid bA
 obtain ⟨ts, hts⟩ : ∃ ts : Array Value, ts = (List.replicate 4096 (.string ⟨#[]⟩ : Value)).toArray := ⟨_, rfl⟩
 have HTS := hid hts
 have hmT : ∀ wx : World, (Instr.makeSlice 40 (.int .i64 4096) (.int .i64 4096)).run Tryz.prog wx = .ok (.slice (some ⟨wx.heap.size, 0, none⟩) 4096 4096) (wx.alloc (.cells ts 9)) := fun wx => by
  have hr := run_make (P := Tryz.prog) wx 40 9 is (.string ⟨#[]⟩) Tryz.underlying40 his hzs .i64 .i64 4096 4096 (by omega) (by omega) (by rw [hbs]; omega) (by omega)
  rw [hts]
  have e : (4096 : Int).toNat = 4096 := rfl
  rw [e] at hr
  simpa only [hss, Value.cells, madeCells_one, Nat.mul_one] using hr
 have hz : txt (List.replicate 128 0) = zblk := rfl
 rw [hz] at qb
 generalize hZ : zblk = Z at *
 have HZ := hid hZ
 clear hz hZ hts bA
 go_enter Tryz.func18, Tryz.ntmps18
 go_wp2_with fail
 generalize w.alloc _ = w1 at *
 refine qb.out.mono ?_
 rintro e w2 ⟨rfl, b2⟩
 have x02 := (b2.block _ (lt_of_block x0)).trans x0
 have B2 := hid (BA.out.trans (b2.mono BA.out.size))
 have hr0 : Hid (Row (w2.alloc (.cells ts 9)) w2.heap.size 9 ((zTo 0).map .string)) := hid (by
  have e : (zTo 0).map Value.string = List.replicate 4096 (.string ⟨#[]⟩) := by
   unfold zTo
   rw [List.replicate_zero, List.nil_append, Nat.sub_zero, List.map_replicate]
  rw [e, HTS.out]
  exact Row.new w2 _ _ rfl)
 have hx3 := heap_alloc_at x02 (.cells ts 9)
 have B3 := hid (B2.out.alloc B2.out.size (.cells ts 9))
 have hlo2 := B2.out.size
 have hlo3 := lt_of_block x02
 clear b2 x0 x02 qb BA
 go_wp2_with fail
 generalize w2.alloc _ = w3 at *
 generalize w2.heap.size = D at *
 have HX3 := hid hx3
 clear hmT hx3 HTS
 go_loopw [5] (fun q wr => ∃ j : Nat, j ≤ 4096 ∧ q = .int .i64 j ∧ Hid (Row wr D 9 ((zTo j).map .string) ∧ wr.heap[w.heap.size]? = some (.cells #[.slice ad l.length cap, .int .i64 bad] 38 (0, 0)) ∧ Below w.heap.size w wr)) (fun q _ => 4096 - (intOf q).toNat)
 case atStart => exact ⟨0, by omega, rfl, hid ⟨hr0.out, HX3.out, B3.out⟩⟩
 case round =>
  clear hr0 HX3 B3
  obtain ⟨j, hj, rfl, hst⟩ := hrel
  by_cases hlt : j < 4096
  ·have i0 : (0 : Int) ≤ (j : Int) := by omega
   have i1 : (j : Int) < 4096 := by omega
   have hf := hst.out.1.free j (by rw [List.length_map, zTo_len j hj]; exact hlt)
   have hc := hst.out.1.cellAt j (v := .string ((zTo j).getD j ⟨#[]⟩)) (by rw [List.getElem?_map, List.getD, List.getElem?_eq_getElem (by rw [zTo_len j hj]; exact hlt)]; rfl)
   have hn : Hid (Row (wr.setCell ⟨D, j, none⟩ (.string Z)) D 9 ((zTo (j + 1)).map .string) ∧ (wr.setCell ⟨D, j, none⟩ (.string Z)).heap[w.heap.size]? = some (.cells #[.slice ad l.length cap, .int .i64 bad] 38 (0, 0)) ∧ Below w.heap.size w (wr.setCell ⟨D, j, none⟩ (.string Z))) := hid (by
    obtain ⟨r1, r2, r3⟩ := hst.out
    have := r1.set j (.string Z)
    rw [← List.map_set, ← HZ.out, zTo_set j hlt] at this
    obtain ⟨fr, hb⟩ := r1.block
    exact ⟨by rw [← HZ.out]; exact this, set_other (a := ⟨D, j, none⟩) hb r2 (by decide), r3.setCell hlo2 _⟩)
   generalize (zTo j).getD j ⟨#[]⟩ = old at hc
   clear hst
   go_wp2_with fail
   go_roundw
   case rel => exact ⟨j + 1, by omega, by go_num, hn⟩
   case measure => simp [intOf]; omega
  ·obtain rfl : j = 4096 := by omega
   have hst2 := hst.out
   rw [zTo_all] at hst2
   have HST := hid hst2
   clear hst hst2 hlt
   go_wp2_with fail
   go_loopw [6] (fun q wr => ∃ i : Nat, i ≤ l.length ∧ q = .int .i64 i ∧ Hid (Row wr D 9 ((diskOf (l.take i)).map .string) ∧ wr.heap[w.heap.size]? = some (.cells #[.slice ad l.length cap, .int .i64 bad] 38 (0, 0)) ∧ Below w.heap.size w wr)) (fun q _ => l.length - (intOf q).toNat)
   case atStart => exact ⟨0, by omega, rfl, HST⟩
   case round =>
    clear HST
    obtain ⟨i, hi, rfl, hst⟩ := hrel
    have s0 := cell_of_row _ _ 0 _ _ _ hst.out.2.1
    by_cases hlt : i < l.length
    ·have i0 : (0 : Int) ≤ (i : Int) := by omega
     have i1 : (i : Int) < (l.length : Int) := by omega
     obtain ⟨g, off, rfl, d0w, d1w⟩ := H.out.cells i hlt
     have d0 := (hst.out.2.2.cell (p := ⟨g, off + i * 2, none⟩) (World.block_lt_of_cell? _ _ d0w)).trans d0w
     have d1 := (hst.out.2.2.cell (p := ⟨g, off + i * 2 + 1, none⟩) (World.block_lt_of_cell? _ _ d1w)).trans d1w
     have hsx := hs (l.getD i (0, ⟨#[]⟩)) (by rw [show l.getD i (0, ⟨#[]⟩) = l[i] by simp [List.getD, hlt]]; exact List.getElem_mem hlt)
     have hD := hid (disk_step l i hlt)
     generalize l.getD i (0, ⟨#[]⟩) = x at *
     obtain ⟨xb, xs⟩ := x
     dsimp only at *
     have hlen := diskOf_len (l.take i)
     clear d0w d1w
     by_cases hin : 0 ≤ xb ∧ xb < 4096
     ·obtain ⟨nb, rfl⟩ : ∃ nb : Nat, xb = (nb : Int) := ⟨xb.toNat, by omega⟩
      have n0 : (0 : Int) ≤ (nb : Int) := hin.1
      have n1 : (nb : Int) < 4096 := hin.2
      have hD2 : Hid (diskOf (l.take (i + 1)) = (diskOf (l.take i)).set nb xs) := hid (by rw [hD.out, putD, if_pos hin, Int.toNat_natCast])
      have hf := hst.out.1.free nb (by rw [List.length_map, hlen]; omega)
      have hc := hst.out.1.cellAt nb (v := .string ((diskOf (l.take i)).getD nb ⟨#[]⟩)) (by rw [List.getElem?_map, List.getD, List.getElem?_eq_getElem (by omega)]; rfl)
      have hn : Hid (Row (wr.setCell ⟨D, nb, none⟩ (.string xs)) D 9 ((diskOf (l.take (i + 1))).map .string) ∧ (wr.setCell ⟨D, nb, none⟩ (.string xs)).heap[w.heap.size]? = some (.cells #[.slice (some ⟨g, off, none⟩) l.length cap, .int .i64 bad] 38 (0, 0)) ∧ Below w.heap.size w (wr.setCell ⟨D, nb, none⟩ (.string xs))) := hid (by
       obtain ⟨r1, r2, r3⟩ := hst.out
       have := r1.set nb (.string xs)
       rw [← List.map_set, ← hD2.out] at this
       obtain ⟨fr, hb⟩ := r1.block
       exact ⟨this, set_other (a := ⟨D, nb, none⟩) hb r2 (by decide), r3.setCell hlo2 _⟩)
      generalize (diskOf (l.take i)).getD nb ⟨#[]⟩ = old at hc
      clear hst hin hlen hsx
      go_upto_region 11 with fail
      go_region
      all_goals
       go_wp2_with fail
       go_roundw
       case rel => exact ⟨i + 1, by omega, by go_num, hid ⟨hn.out.1, hn.out.2.1, hn.out.2.2.drew⟩⟩
       case measure => simp [intOf]; omega
     ·have hD2 : Hid (diskOf (l.take (i + 1)) = diskOf (l.take i)) := hid (by rw [hD.out, putD, if_neg hin])
      have hn := hid hst.out
      clear hst
      rw [← hD2.out] at hn
      by_cases h0 : 0 ≤ xb
      ·have n1 : ¬ xb < 4096 := fun h => hin ⟨h0, h⟩
       clear hin
       go_wp2_with fail
       go_roundw
       case rel => exact ⟨i + 1, by omega, by go_num, hn⟩
       case measure => simp [intOf]; omega
      ·clear hin
       go_wp2_with fail
       go_roundw
       case rel => exact ⟨i + 1, by omega, by go_num, hn⟩
       case measure => simp [intOf]; omega
    ·obtain rfl : i = l.length := by omega
     have hst2 := hst.out
     rw [List.take_length] at hst2
     have F := hid hst2
     clear hst hst2
     go_wp2_with fail
     go_ret
     exact ⟨D, rfl, hlo3, F.out.1, F.out.2.2⟩
theorem reading2_any (D : Nat) (bad : Int) (w : World) :
  Calls Tryz.prog 20 #[.slice (some ⟨D, 0, none⟩) 4096 4096, .int .i64 bad] w fun e w' => e = .returned (RDV w.heap.size (w.heap.size + 1)) ∧ w' = (w.alloc (.cells #[.slice (some ⟨D, 0, none⟩) 4096 4096] 40)).alloc (.cells #[.int .i64 bad] 3) := by
 go_enter Tryz.func20, Tryz.ntmps20
 go_wp2_with fail
 go_ret
 exact ⟨rfl, rfl⟩
def greatTo (l : CL) : Bool := l.any fun x => decide (1000 < x.2.size)
end Go.Proofs.YtgjmeeiejcbjfaaGreat
namespace Go.Proofs.YtgjmeeiejcbjfaaGreat.Forks
open Go.Lib (hid)
open Go Go.RowKit
theorem filter_none {n : Nat} (p : Nat → Bool) (h : ∀ b, b < n → p b = false) : (List.range n).filter p = [] := by
 rw [List.filter_eq_nil_iff]
 intro b hb
 rw [h b (List.mem_range.1 hb)]
 decide
theorem filter_one {n k : Nat} (p : Nat → Bool) (hk : k < n) (h1 : p k = true) (h : ∀ b, b < n → b ≠ k → p b = false) : (List.range n).filter p = [k] := by
 induction n with
 | zero => omega
 | succ n ih =>
  rw [List.range_succ, List.filter_append]
  by_cases e : k = n
  ·subst e
   rw [filter_none p (fun b hb => h b (by omega) (by omega))]
   simp [h1]
  ·rw [ih (by omega) (fun b hb hbk => h b (by omega) hbk)]
   simp [h n (by omega) (fun e' => e e'.symm)]
theorem nodes_nil : nodes [] = [] := filter_none _ (fun b _ => rfl)
theorem meets_nil (R : EL) : meets [] R = false := by unfold meets; rw [nodes_nil]; rfl
def F5 : EL := [(0, 10, 1), (2, 12, 1), (4, 14, 1), (6, 16, 1), (8, 18, 1)]
theorem five_eq : fiveT 5 = F5 := by decide
def S50 : ByteArray := txt (Ents.nodeB F5 true)
theorem encF5 : Ents.EncOk F5 true := by decide
theorem S50_size : S50.size = 128 := by
 unfold S50
 rw [txt_size, Ents.nodeB_length _ _ (by decide)]
theorem S50_full : S50.toList.isEmpty = false := by
 cases h : S50.toList.isEmpty
 ·rfl
 ·rw [List.isEmpty_iff, ByteArray.toList_eq] at h
  have : S50.size = 0 := by rw [← list_length, h]; rfl
  rw [S50_size] at this
  cases this
theorem empty_isEmpty : ((⟨#[]⟩ : ByteArray)).toList.isEmpty = true := by rw [ByteArray.toList_eq]; rfl
theorem tx_none (b : Nat) : tx noTexts b = ⟨#[]⟩ := by
 unfold tx noTexts
 rw [List.getD]
 by_cases h : b < 4096
 ·rw [List.getElem?_replicate, if_pos h]; rfl
 ·rw [List.getElem?_replicate, if_neg h]; rfl
theorem tx_set (k : Nat) (hk : k < 4096) (s : ByteArray) (b : Nat) : tx (noTexts.set k s) b = if b = k then s else ⟨#[]⟩ := by
 unfold tx
 rw [List.getD, List.getElem?_set, noTexts_len]
 by_cases h : b = k
 ·rw [if_pos h.symm, if_pos hk, if_pos h]; rfl
 ·rw [if_neg (fun e => h e.symm), if_neg h]
  exact tx_none b
theorem textOf_nil (b : Nat) : textOf [] b = ⟨#[]⟩ := rfl
def D0 : List ByteArray := diskOf []
def D1 : List ByteArray := D0.set 50 S50
theorem D0_len : D0.length = 4096 := diskOf_len []
theorem D1_50 : D1[50]? = some S50 := by
 unfold D1
 rw [List.getElem?_set, if_pos rfl, D0_len]
 rfl
theorem zblk_size : zblk.size = 128 := by
 unfold zblk
 rw [txt_size, List.length_replicate]
theorem D0_size : ∀ s ∈ D0, s.size = 128 := fun s hs => by
 have : D0 = List.replicate 4096 zblk := rfl
 rw [this] at hs
 rw [List.eq_of_mem_replicate hs, zblk_size]
theorem D1_size : ∀ s ∈ D1, s.size = 128 := fun s hs => by
 rcases List.mem_or_eq_of_mem_set hs with h | rfl
 ·exact D0_size s h
 ·exact S50_size
theorem rd_mem {L : List ByteArray} {bad : Int} {b : Nat} {s : ByteArray} (h : (⟨L, bad⟩ : Disk).rd b = some s) : s ∈ L := by
 unfold Disk.rd at h
 split at h
 ·cases h
 ·exact List.mem_of_getElem? h
theorem al_repl1 : replaceT (fun v R k T => askT (fun _ : Unit => (some 50, ())) v R k T ()) ⟨D0, -1⟩ 0 [] 0 9 (fiveT 5) () = (.ok ⟨1, [(0, 50, 0)], [(50, S50)], []⟩, ()) := by
 have hw : walkT ⟨D0, -1⟩ 0 [] = .ok ([], []) := by
  have h : RootOk 0 [] := by decide
  rw [walkT_zero ⟨D0, -1⟩ [] h, if_pos ⟨by decide, meets_nil []⟩]
 have hr : replT [] 0 9 (fiveT 5) = F5 := by decide
 have hf : fitsT 0 9 (fiveT 5) = true := by decide
 have hsh : shapeT (lvls [] 0) F5 0 = (([[(-1, F5)]], [(0, -1, 0)]), 1) := by rfl
 have hpk : pick (lvls [] 0) F5 = (([[(-1, F5)]], [(0, -1, 0)]), 1) := by
  unfold pick
  rw [hsh]
  rfl
 have hkn : known [] (lvls [] 0) F5 = [] := by
  unfold known
  rw [hsh]
  rfl
 have hask : askT (fun _ : Unit => (some 50, ())) [] F5 1 [0] () = ((0, [0, 50]), ()) := by decide
 have hput : putLs [0, 50] 0 [[(-1, F5)]] noTexts = .ok (noTexts.set 50 S50) := by
  have hk : knownT [0, 50] true F5 = F5 := rfl
  rw [putLs, show (0 == 0) = true from rfl, putL, hk, if_pos encF5]
  rfl
 have hch : chT [] (noTexts.set 50 S50) 4096 = [(50, S50)] := by
  unfold chT
  rw [filter_one (k := 50) _ (by decide) ?_ ?_]
  ·rw [List.map_cons, tx_set 50 (by decide), if_pos rfl]
   rfl
  ·unfold chB
   rw [tx_set 50 (by decide), if_pos rfl, S50_full, textOf_nil]
   have : (S50.toList == (⟨#[]⟩ : ByteArray).toList) = false := by
    rw [beq_eq_false_iff_ne]
    intro e
    have := S50_full
    rw [e, empty_isEmpty] at this
    cases this
   rw [this]
   rfl
  ·intro b _ hb
   unfold chB
   rw [tx_set 50 (by decide), if_neg hb, empty_isEmpty]
   rfl
 have hfr : frT [] (noTexts.set 50 S50) 4096 = [] := by
  unfold frT
  rw [filter_none _ (fun b _ => by unfold frB; rw [textOf_nil, empty_isEmpty, Bool.not_true, Bool.and_false])]
  rfl
 unfold replaceT
 rw [if_neg (by rw [hf]; decide), hw]
 dsimp only
 rw [hr, if_neg (by rw [meets_nil]; decide)]
 unfold replaceV
 dsimp only
 rw [show (0 : Int).toNat = 0 from rfl, hpk, hkn]
 dsimp only
 rw [show (1 + 1 - (([] : IL).length + 1)) = 1 from rfl, hask]
 dsimp only
 rw [if_pos rfl]
 unfold setT
 rw [hput]
 dsimp only
 rw [hch, hfr]
 rfl
def V1 : V := [⟨50, 1, F5, S50⟩]
theorem has_V1 (b : Nat) : has V1 b = (50 == b) := by unfold has V1; simp
theorem nodes_V1 : nodes V1 = [50] := filter_one _ (by decide) (by rw [has_V1]; rfl) (fun b _ hb => by rw [has_V1, beq_eq_false_iff_ne]; omega)
theorem textOf_V1 (b : Nat) : textOf V1 b = if b = 50 then S50 else ⟨#[]⟩ := by
 unfold textOf V1
 by_cases h : b = 50
 ·subst h
  simp
 ·have : ¬ 50 = b := fun e => h e.symm
  simp [h, this]
theorem meets_V1 (R : EL) : meets V1 R = taken R 50 := by
 unfold meets
 rw [nodes_V1]
 simp
theorem al_walk : walkT ⟨D1, -1⟩ 1 [(0, 50, 0)] = .ok (V1, F5) := by
 have h : RootOk (1 : Nat) [(0, 50, 0)] := by decide
 have hrd : (⟨D1, -1⟩ : Disk).rd 50 = some S50 := by
  unfold Disk.rd
  rw [if_neg (by decide)]
  exact D1_50
 have hd : Ents.dec S50.data.toList = some (F5, true) := by
  have := Ents.dec_node encF5
  unfold S50 txt
  simpa using this
 have hn : nodeW ⟨D1, -1⟩ (allW ⟨D1, -1⟩ 0) 1 (0, ((50 : Nat) : Int), 0) [] = .ok ([] ++ [⟨50, 1, F5, S50⟩]) := nodeW_leaf rfl hrd hd rfl rfl
 have ha : allW ⟨D1, -1⟩ 1 [(0, 50, 0)] [] = .ok V1 := by
  rw [allW, foldW]
  rw [show nodeW ⟨D1, -1⟩ (allW ⟨D1, -1⟩ 0) (0 + 1) (0, 50, 0) [] = .ok ([] ++ [⟨50, 1, F5, S50⟩]) from hn]
  rfl
 refine (walkT_pos ⟨D1, -1⟩ 1 [(0, 50, 0)] h (by decide)).trans ?_
 rw [ha]
 dsimp only
 have hr : rowV V1 = F5 := by rfl
 rw [hr, if_pos ⟨by decide, by rw [meets_V1]; decide⟩]
theorem al_repl2 : replaceT (fun _ _ k T => ((if k = 0 then 0 else 2, T), ())) ⟨D1, -1⟩ 1 [(0, 50, 0)] 2 7 [] () = (.ok ⟨0, [(0, 10, 1), (8, 18, 1)], [], [50]⟩, ()) := by
 have hr : replT F5 2 7 [] = [(0, 10, 1), (8, 18, 1)] := by decide
 have hf : fitsT 2 7 [] = true := by decide
 have hlv : lvls V1 1 = [[(50, F5)]] := by rfl
 have hsh : shapeT [[(50, F5)]] [(0, 10, 1), (8, 18, 1)] 0 = (([], [(0, 10, 1), (8, 18, 1)]), 0) := by rfl
 have hpk : pick (lvls V1 1) [(0, 10, 1), (8, 18, 1)] = (([], [(0, 10, 1), (8, 18, 1)]), 0) := by
  unfold pick
  rw [hlv, hsh]
  rfl
 have hkn : known V1 (lvls V1 1) [(0, 10, 1), (8, 18, 1)] = [] := by
  unfold known
  rw [hlv, hsh]
  rfl
 have hch : chT V1 noTexts 4096 = [] := by
  unfold chT
  rw [filter_none _ (fun b _ => by unfold chB; rw [tx_none, empty_isEmpty]; rfl)]
  rfl
 have hfr : frT V1 noTexts 4096 = [50] := by
  unfold frT
  rw [filter_one (k := 50) _ (by decide) ?_ ?_]
  ·rfl
  ·unfold frB
   rw [tx_none, empty_isEmpty, textOf_V1, if_pos rfl, S50_full]
   rfl
  ·intro b _ hb
   unfold frB
   rw [textOf_V1, if_neg hb, empty_isEmpty, Bool.not_true, Bool.and_false]
 unfold replaceT
 rw [if_neg (by rw [hf]; decide), al_walk]
 dsimp only
 rw [hr, if_neg (by rw [meets_V1]; decide)]
 unfold replaceV
 dsimp only
 rw [show (1 : Int).toNat = 1 from rfl, hpk, hkn]
 dsimp only
 rw [show (0 + 1 - (([] : IL).length + 1)) = 0 from rfl, if_pos rfl, if_pos rfl]
 unfold setT
 rw [show putLs [0] 0 [] noTexts = .ok noTexts from rfl]
 dsimp only
 rw [hch, hfr]
 rfl
theorem al_move : ∃ sr, moveT ⟨D1, -1⟩ 1 [(0, 50, 0)] 4 1 99 = .ok sr ∧ sr.changes.length = 1 := by
 refine ⟨turnedT V1 1 [(0, 50, 0)] 0 (isM 4 1) 99, ?_, ?_⟩
 ·unfold moveT
  rw [al_walk]
  dsimp only
  unfold moveV
  rw [if_neg (by decide), if_neg (by decide), if_neg (by decide), nodes_V1, if_neg (by decide)]
  rfl
 ·have hl : lvl V1 (0 + 1) = [(50, F5)] := by rfl
  have hix : idxOf (isM 4 1) F5 = 2 := by decide
  have hta : turnAt F5 2 99 = [(0, 10, 1), (2, 12, 1), (4, 99, 1), (6, 16, 1), (8, 18, 1)] := by decide
  have hok : Ents.EncOk [(0, 10, 1), (2, 12, 1), (4, 99, 1), (6, 16, 1), (8, 18, 1)] true := by decide
  have hne : ((txt (Ents.nodeB [(0, 10, 1), (2, 12, 1), (4, 99, 1), (6, 16, 1), (8, 18, 1)] true)).toList == S50.toList) = false := by
   rw [beq_eq_false_iff_ne]
   intro e
   have e2 : Ents.nodeB [(0, 10, 1), (2, 12, 1), (4, 99, 1), (6, 16, 1), (8, 18, 1)] true = Ents.nodeB F5 true := by
    unfold S50 txt at e
    rw [ByteArray.toList_eq, ByteArray.toList_eq] at e
    simpa using e
   have := (Ents.nodeB_inj hok encF5 e2).1
   exact absurd this (by decide)
  unfold turnedT
  rw [if_neg (by decide), hl]
  dsimp only [List.foldl]
  rw [show (0 == 0) = true from rfl, turnN_def, hix, if_pos (by decide), show (2 : Int).toNat = 2 from rfl, hta, Ents.encR, if_pos hok, show (50 : Int).toNat = 50 from rfl, textOf_V1, if_pos rfl, if_pos ⟨rfl, hne⟩]
  rfl
theorem al_lead : leadT ⟨D1, -1⟩ 1 [(0, 50, 0)] 50 60 = .ok ⟨1, [(0, 60, 0)], [(60, S50)], [50]⟩ := by
 unfold leadT
 rw [al_walk]
 dsimp only
 unfold leadV
 have h50 : has V1 (50 : Int).toNat = true := rfl
 have h60 : has V1 (60 : Int).toNat = false := rfl
 have hla : leadAt V1 (1 : Int).toNat 50 = 1 := by rfl
 rw [if_neg (by decide), if_neg (by decide), if_neg (by rw [h50]; decide), if_neg (by decide), if_neg (by decide), if_neg (by rw [h60]; decide), if_neg (by decide), if_neg (by decide), hla]
 have ht : turnedT V1 (1 : Int).toNat [(0, 50, 0)] 1 (fun x => x.2.1 == 50) 60 = ⟨1, [(0, 60, 0)], [], []⟩ := by
  unfold turnedT
  rw [if_pos (show (1 : Int).toNat = 1 from rfl)]
  rfl
 rw [ht]
 rfl
end Go.Proofs.YtgjmeeiejcbjfaaGreat.Forks
