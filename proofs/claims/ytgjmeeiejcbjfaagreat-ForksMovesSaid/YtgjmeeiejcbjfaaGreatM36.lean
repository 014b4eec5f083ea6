/- The document's Entries, number, Encode. -/
import Derived.Test.YtgjmeeiejcbjfaaGreatM35
import Derived.Test.YtgjmeeiejcbjfaaGreatM07
import Derived.Test.YtgjmeeiejcbjfaaGreatM09
set_option linter.unusedSimpArgs false
set_option linter.unusedVariables false
namespace Go.Proofs.YtgjmeeiejcbjfaaGreat
open Go.Lib (hid)
open Go Go.RowKit
theorem rput_int (s : ByteArray) (x : Int) (h0 : 0 ≤ x) (h1 : x < 4294967296) (hs : s.size ≤ 1000000) (w : World) :
  Calls Tryz.prog 92 #[.string s, .int .i64 4, .int .i64 x] w fun e w' => e = .returned (.string (s ++ txt (le 4 x.toNat))) ∧ Below w.heap.size w w' := by
 have := rput_any s x.toNat (by omega) hs w
 rwa [show ((x.toNat : Nat) : Int) = x by omega] at this
set_option maxRecDepth 100000 in
set_option maxHeartbeats 2000000 in
theorem rentries_any (S : Bytes) (v : Value) (l : EL) (w : World) (hf : ∀ x ∈ l, Ents.Fits x) (h : ExtsAt w v l) (hs : S.length ≤ 1000) (hl : l.length ≤ 1000) :
  Calls Tryz.prog 41 #[.string (txt S), v] w fun e w' => e = .returned (.string (txt (S ++ Ents.ebs l))) ∧ Below w.heap.size w w' := by
 have H := hid h
 have HF := hid hf
 obtain ⟨ad, cap, rfl⟩ := h.form
 clear h hf
 go_enter Tryz.func41, Tryz.ntmps41
 go_wp2_with fail
 go_loopw [0, 5] (fun s q wr => ∃ j : Nat, j ≤ l.length ∧ q = .int .i64 j ∧ s = .string (txt (S ++ Ents.ebs (l.take j))) ∧ Hid (Below w.heap.size w wr)) (fun _ q _ => l.length - (intOf q).toNat)
 case atStart => exact ⟨0, by omega, rfl, by rw [List.take_zero]; show _ = Value.string (txt (S ++ [])); rw [List.append_nil], hid (Below.refl _ _)⟩
 case round =>
  obtain ⟨j, hj, rfl, rfl, hb⟩ := hrel
  by_cases hlt : j < l.length
  ·have i0 : (0 : Int) ≤ (j : Int) := by omega
   have i1 : (j : Int) < (l.length : Int) := by omega
   obtain ⟨hll, g, off, rfl, c0, c1, c2⟩ := (H.out.below (B := 0) hb.out).cells j hlt
   clear hll
   have hfx := hid (HF.out (l.getD j (0, 0, 0)) (by rw [show l.getD j (0, 0, 0) = l[j] by simp [List.getD, hlt]]; exact List.getElem_mem hlt))
   have hT := hid (ebs_take l j hlt)
   have hL := hid (Ents.ebs_length (l.take j))
   have hLL := hid (List.length_take (i := j) (l := l))
   have hz0 : (txt (S ++ Ents.ebs (l.take j))).size ≤ 100000 := by rw [txt_size, List.length_append, hL.out, hLL.out]; omega
   generalize hX : l.getD j (0, 0, 0) = x at *
   have HX := hid hX
   clear hX
   obtain ⟨x1, x2, x3⟩ := x
   have hA : Hid (txt (S ++ Ents.ebs (l.take j)) ++ txt (le 4 x1.toNat) ++ txt (le 4 x2.toNat) ++ txt (le 4 x3.toNat) = txt (S ++ Ents.ebs (l.take (j + 1)))) := hid (by
    rw [rtxt_append, rtxt_append, rtxt_append, hT.out]
    simp [Ents.eb])
   dsimp only at *
   clear hT
   generalize txt (S ++ Ents.ebs (l.take j)) = Z0 at *
   have q1 := hid (fun w => rput_int Z0 x1 hfx.out.1.1 hfx.out.1.2 (by omega) w)
   have hz1 : (Z0 ++ txt (le 4 x1.toNat)).size ≤ 100004 := by rw [ByteArray.size_append, txt_size, le_length]; omega
   generalize Z0 ++ txt (le 4 x1.toNat) = Z1 at *
   have q2 := hid (fun w => rput_int Z1 x2 hfx.out.2.1.1 hfx.out.2.1.2 (by omega) w)
   have hz2 : (Z1 ++ txt (le 4 x2.toNat)).size ≤ 100008 := by rw [ByteArray.size_append, txt_size, le_length]; omega
   generalize Z1 ++ txt (le 4 x2.toNat) = Z2 at *
   have q3 := hid (fun w => rput_int Z2 x3 hfx.out.2.2.1 hfx.out.2.2.2 (by omega) w)
   generalize Z2 ++ txt (le 4 x3.toNat) = Z3 at *
   clear hz0 hz1 hz2
   have z0 : g < wr.heap.size := World.block_lt_of_cell? _ _ c0
   have KEEP : Hid (∀ wz, Below wr.heap.size wr wz → wz.cell? ⟨g, off + j * 3, none⟩ = some (.int .i64 x1) ∧ wz.cell? ⟨g, off + j * 3 + 1, none⟩ = some (.int .i64 x2) ∧ wz.cell? ⟨g, off + j * 3 + 2, none⟩ = some (.int .i64 x3)) := hid (fun wz hz => ⟨(hz.cell (p := ⟨g, off + j * 3, none⟩) z0).trans c0, (hz.cell (p := ⟨g, off + j * 3 + 1, none⟩) z0).trans c1, (hz.cell (p := ⟨g, off + j * 3 + 2, none⟩) z0).trans c2⟩)
   have b0 : Below wr.heap.size wr wr.drew := (Below.refl _ _).drew
   go_wp2_with fail
   go_region_held3 (fun w' => w'.cell? ⟨g, off + j * 3, none⟩ = some (.int .i64 x1) ∧ w'.cell? ⟨g, off + j * 3 + 1, none⟩ = some (.int .i64 x2) ∧ w'.cell? ⟨g, off + j * 3 + 2, none⟩ = some (.int .i64 x3))
    ((refine KEEP.out _ ?_; assumption))
    (first
     | (go_at_call 92; (with_reducible refine (q1.out _).mono ?_); rintro e wa ⟨rfl, ba⟩; have sa : Below wr.heap.size wr wa := b0.trans (ba.mono b0.size); clear ba)
     | (go_at_call 92; (with_reducible refine (q2.out _).mono ?_); rintro e wb ⟨rfl, bb⟩; have sb : Below wr.heap.size wr wb := sa.trans (bb.mono sa.size); clear bb)
     | (go_at_call 92; (with_reducible refine (q3.out _).mono ?_); rintro e wc ⟨rfl, bc⟩; have sc : Below wr.heap.size wr wc := sb.trans (bc.mono sb.size); clear bc)
     | fail "none")
   have SC := hid (hb.out.trans (sc.mono hb.out.size))
   go_wp2_with fail
   go_roundw
   case rel => exact ⟨j + 1, by omega, by go_num, by rw [hA.out], SC⟩
   case measure => simp [intOf]; omega
  ·obtain rfl : j = l.length := by omega
   have hT : Hid (l.take l.length = l) := hid (List.take_length)
   go_wp2_with fail
   go_ret
   exact ⟨by rw [hT.out]; rfl, hb.out⟩
theorem getW_cons (l : Bytes) (a k : Nat) (h : a < l.length) : getW l a (k + 1) = (l.getD a 0).toNat + 256 * getW l (a + 1) k := by
 unfold getW
 rw [List.drop_eq_getElem_cons h, List.take_succ_cons, lv]
 simp [List.getD, h]
theorem number_step (s : ByteArray) (a m : Nat) (hm : m < 4) (h : a + 4 ≤ s.size) : getW s.data.toList (a + m) (4 - m) = (s[a + m]'(by omega)).toNat + 256 * getW s.data.toList (a + (m + 1)) (4 - (m + 1)) := by
 have e := getW_cons s.data.toList (a + m) (4 - (m + 1)) (by rw [list_length]; omega)
 rw [getD_byte s (a + m) (by omega), show a + m + 1 = a + (m + 1) by omega, show 4 - (m + 1) + 1 = 4 - m by omega] at e
 exact e
set_option maxHeartbeats 1000000 in
theorem number_any (s : ByteArray) (a : Nat) (h : a + 4 ≤ s.size) (hs : s.size ≤ 140737488351232) (w : World) :
  Calls Tryz.prog 43 #[.string s, .int .i64 a] w fun e w' => e = .returned (.int .i64 (getW s.data.toList a 4 : Nat)) ∧ w = w' := by
 have h4 := hid (getW_zero s.data.toList (a + 4))
 go_enter Tryz.func43, Tryz.ntmps43
 go_wp2_with fail
 go_loop [5, 6] (fun n i => ∃ k : Nat, k ≤ 4 ∧ i = .int .i64 ((k : Int) - 1) ∧ n = .int .i64 ((getW s.data.toList (a + k) (4 - k) : Nat) : Int)) (fun _ i => (intOf i + 1).toNat)
 case atStart => exact ⟨4, by omega, rfl, by rw [h4.out]; rfl⟩
 case round =>
  obtain ⟨k, hk, rfl, rfl⟩ := hrel
  cases k with
  | zero =>
   rw [show (((0 : Nat) : Int) - 1) = -1 from rfl, Nat.add_zero, Nat.sub_zero]
   go_wp2_with fail
   go_ret
   exact ⟨rfl, rfl⟩
  | succ m =>
   have hn := hid (number_step s a m (by omega) h)
   have hb : getW s.data.toList (a + (m + 1)) (4 - (m + 1)) < 4294967296 := Nat.lt_of_lt_of_le (getW_lt _ _ _) (by
    refine Nat.le_trans (Nat.pow_le_pow_right (by decide) (show 4 - (m + 1) ≤ 4 by omega)) (by decide))
   rw [show (((m + 1 : Nat) : Int) - 1) = (m : Int) by omega]
   have hx : a + m < s.size := by omega
   have hby := UInt8.toNat_lt s[a + m]
   have G0 : (0 : Int) ≤ ((getW s.data.toList (a + (m + 1)) (4 - (m + 1)) : Nat) : Int) := by omega
   have G1 : ((getW s.data.toList (a + (m + 1)) (4 - (m + 1)) : Nat) : Int) ≤ 4294967296 := by omega
   have i1 : ((a : Int) + (m : Int)) < (s.size : Int) := by omega
   clear hb
   generalize getW s.data.toList (a + (m + 1)) (4 - (m + 1)) = G at *
   go_wp2_with fail
   go_round
   case rel => exact ⟨m, by omega, by go_num, by rw [hn.out]; congr 1; omega⟩
   case measure => simp [intOf]
set_option maxRecDepth 100000 in
set_option maxHeartbeats 4000000 in
theorem rencode_any (leaf : Bool) (v : Value) (l : EL) (w : World) (hs : SmallsE l) (h : ExtsAt w v l) (hl : l.length ≤ 1000000000) :
  Calls Tryz.prog 11 #[v, .bool leaf] w fun e w' => e = .returned (.tuple #[.string (txt (Ents.encR l leaf).1), .int .i64 (Ents.encR l leaf).2]) ∧ Below w.heap.size w w' := by
 have q := hid (xrow2_any leaf v l w hs h hl)
 have H := hid h
 obtain ⟨ad, cap, rfl⟩ := h.form
 clear h
 by_cases k : Ents.EncOk l leaf
 ·have hR : Hid (Ents.encR l leaf = (Ents.nodeB l leaf, 0)) := hid (if_pos k)
  obtain ⟨k1, k2, k3⟩ := k
  have hF := hid (fun x hx => Ents.may_fits (k3.may x hx))
  unfold Ents.Row at k3
  rw [k3] at q
  rw [hR.out]
  have hlI : (l.length : Int) ≤ 10 := by omega
  have hlI1 : ¬ (l.length : Int) < 1 := by omega
  have hu : IntKind.u8.wrap (l.length : Int) = (l.length : Int) := by
   simp only [IntKind.wrap, IntKind.bits, IntKind.signed]
   exact Int.emod_eq_of_lt (by omega) (by omega)
  clear k3 hR
  cases leaf
  case false =>
   go_enter Tryz.func11, Tryz.ntmps11
   go_wp2_with fail
   refine q.out.mono ?_
   rintro e w1 ⟨rfl, b1⟩
   have B1 := hid b1
   clear b1 q
   go_upto_region 6 with fail
   have bA : Below w1.heap.size w1 (w1.alloc (.cells #[.int .u8 70, .int .u8 0, .int .u8 (l.length : Int)] 5)) := (Below.refl _ _).alloc (Nat.le_refl _) _
   have hstr : (convert 95 9 (.slice (some ⟨w1.heap.size, 0, none⟩) 3 3)).run Tryz.prog (w1.alloc (.cells #[.int .u8 70, .int .u8 0, .int .u8 (l.length : Int)] 5)) = .ok (.string (txt [70, 0, UInt8.ofNat l.length])) (w1.alloc (.cells #[.int .u8 70, .int .u8 0, .int .u8 (l.length : Int)] 5)) := by
    refine run_string_of_cells _ _ 5 3 3 rfl Tryz.underlying95 Tryz.underlying5 Tryz.underlying9 fun j hj => ?_
    have hj3 : j < 3 := hj
    rcases (by omega : j = 0 ∨ j = 1 ∨ j = 2) with rfl | rfl | rfl
    ·exact box_cell _ _ _ _
    ·exact box_cell _ _ _ _
    ·rw [show (w1.alloc (.cells #[.int .u8 70, .int .u8 0, .int .u8 (l.length : Int)] 5)).cell? ⟨w1.heap.size, 2, none⟩ = some (.int .u8 (l.length : Int)) from box_cell _ _ _ _]
     show _ = some (bval (UInt8.ofNat l.length))
     have : (UInt8.ofNat l.length).toNat = l.length := by simp; omega
     rw [bval, this]
   have qe := hid (rentries_any [70, 0, UInt8.ofNat l.length] (.slice ad l.length cap) l _ hF.out ((H.out.below (B := 0) B1.out).below (B := 0) bA) (by simp) (by omega))
   have BA := hid (B1.out.trans (bA.mono B1.out.size))
   have hN : Hid (txt ([70, 0, UInt8.ofNat l.length] ++ Ents.ebs l) ++ txt (List.replicate (125 - 12 * l.length) 0) = txt (Ents.nodeB l false)) := hid (by
    rw [rtxt_append]; unfold Ents.nodeB; simp)
   have hsz : (txt ([70, 0, UInt8.ofNat l.length] ++ Ents.ebs l)).size = 3 + 12 * l.length := by rw [txt_size, List.length_append, Ents.ebs_length]; simp
   clear bA
   generalize txt ([70, 0, UInt8.ofNat l.length] ++ Ents.ebs l) = Z at *
   generalize txt [70, 0, UInt8.ofNat l.length] = Y at *
   have HSZ := hid hsz
   clear hsz
   go_wp2_with fail
   refine qe.out.mono ?_
   rintro e w2 ⟨rfl, b2⟩
   have B2 := hid (BA.out.trans (b2.mono BA.out.size))
   clear b2 qe
   have hk : 125 - 12 * l.length ≤ 1000000 := by omega
   have hmk : (Instr.makeSlice 95 (.int .i64 (128 - (Z.size : Int))) (.int .i64 (128 - (Z.size : Int)))).run Tryz.prog w2 = .ok (.slice (some ⟨w2.heap.size, 0, none⟩) (125 - 12 * l.length) (125 - 12 * l.length)) (w2.alloc (.cells (bcells (List.replicate (125 - 12 * l.length) 0)).toArray 5)) := by
    rw [show (128 : Int) - (Z.size : Int) = ((125 - 12 * l.length : Nat) : Int) by rw [HSZ.out]; omega]
    exact zmake _ hk w2
   have hst := zstring (125 - 12 * l.length) w2
   have hz0 : (Z.size : Int) ≤ 128 := by rw [HSZ.out]; omega
   have hcat : ¬ 9223372036854775807 < Z.size + (txt (List.replicate (125 - 12 * l.length) 0)).size := by rw [txt_size, HSZ.out]; simp; omega
   have B3 : Hid (Below w.heap.size w (w2.alloc (.cells (bcells (List.replicate (125 - 12 * l.length) 0)).toArray 5))) := hid (B2.out.alloc B2.out.size _)
   generalize w2.alloc (.cells (bcells (List.replicate (125 - 12 * l.length) 0)).toArray 5) = wB at *
   generalize txt (List.replicate (125 - 12 * l.length) 0) = Z2 at *
   generalize 125 - 12 * l.length = K at *
   go_wp2_with fail
   go_ret2
   exact ⟨by rw [hN.out]; rfl, B3.out⟩
  case true =>
   go_enter Tryz.func11, Tryz.ntmps11
   go_wp2_with fail
   refine q.out.mono ?_
   rintro e w1 ⟨rfl, b1⟩
   have B1 := hid b1
   clear b1 q
   go_upto_region 6 with fail
   have bA : Below w1.heap.size w1 (w1.alloc (.cells #[.int .u8 70, .int .u8 1, .int .u8 (l.length : Int)] 5)) := (Below.refl _ _).alloc (Nat.le_refl _) _
   have hstr : (convert 95 9 (.slice (some ⟨w1.heap.size, 0, none⟩) 3 3)).run Tryz.prog (w1.alloc (.cells #[.int .u8 70, .int .u8 1, .int .u8 (l.length : Int)] 5)) = .ok (.string (txt [70, 1, UInt8.ofNat l.length])) (w1.alloc (.cells #[.int .u8 70, .int .u8 1, .int .u8 (l.length : Int)] 5)) := by
    refine run_string_of_cells _ _ 5 3 3 rfl Tryz.underlying95 Tryz.underlying5 Tryz.underlying9 fun j hj => ?_
    have hj3 : j < 3 := hj
    rcases (by omega : j = 0 ∨ j = 1 ∨ j = 2) with rfl | rfl | rfl
    ·exact box_cell _ _ _ _
    ·exact box_cell _ _ _ _
    ·rw [show (w1.alloc (.cells #[.int .u8 70, .int .u8 1, .int .u8 (l.length : Int)] 5)).cell? ⟨w1.heap.size, 2, none⟩ = some (.int .u8 (l.length : Int)) from box_cell _ _ _ _]
     show _ = some (bval (UInt8.ofNat l.length))
     have : (UInt8.ofNat l.length).toNat = l.length := by simp; omega
     rw [bval, this]
   have qe := hid (rentries_any [70, 1, UInt8.ofNat l.length] (.slice ad l.length cap) l _ hF.out ((H.out.below (B := 0) B1.out).below (B := 0) bA) (by simp) (by omega))
   have BA := hid (B1.out.trans (bA.mono B1.out.size))
   have hN : Hid (txt ([70, 1, UInt8.ofNat l.length] ++ Ents.ebs l) ++ txt (List.replicate (125 - 12 * l.length) 0) = txt (Ents.nodeB l true)) := hid (by
    rw [rtxt_append]; unfold Ents.nodeB; simp)
   have hsz : (txt ([70, 1, UInt8.ofNat l.length] ++ Ents.ebs l)).size = 3 + 12 * l.length := by rw [txt_size, List.length_append, Ents.ebs_length]; simp
   clear bA
   generalize txt ([70, 1, UInt8.ofNat l.length] ++ Ents.ebs l) = Z at *
   generalize txt [70, 1, UInt8.ofNat l.length] = Y at *
   have HSZ := hid hsz
   clear hsz
   go_wp2_with fail
   refine qe.out.mono ?_
   rintro e w2 ⟨rfl, b2⟩
   have B2 := hid (BA.out.trans (b2.mono BA.out.size))
   clear b2 qe
   have hk : 125 - 12 * l.length ≤ 1000000 := by omega
   have hmk : (Instr.makeSlice 95 (.int .i64 (128 - (Z.size : Int))) (.int .i64 (128 - (Z.size : Int)))).run Tryz.prog w2 = .ok (.slice (some ⟨w2.heap.size, 0, none⟩) (125 - 12 * l.length) (125 - 12 * l.length)) (w2.alloc (.cells (bcells (List.replicate (125 - 12 * l.length) 0)).toArray 5)) := by
    rw [show (128 : Int) - (Z.size : Int) = ((125 - 12 * l.length : Nat) : Int) by rw [HSZ.out]; omega]
    exact zmake _ hk w2
   have hst := zstring (125 - 12 * l.length) w2
   have hz0 : (Z.size : Int) ≤ 128 := by rw [HSZ.out]; omega
   have hcat : ¬ 9223372036854775807 < Z.size + (txt (List.replicate (125 - 12 * l.length) 0)).size := by rw [txt_size, HSZ.out]; simp; omega
   have B3 : Hid (Below w.heap.size w (w2.alloc (.cells (bcells (List.replicate (125 - 12 * l.length) 0)).toArray 5))) := hid (B2.out.alloc B2.out.size _)
   generalize w2.alloc (.cells (bcells (List.replicate (125 - 12 * l.length) 0)).toArray 5) = wB at *
   generalize txt (List.replicate (125 - 12 * l.length) 0) = Z2 at *
   generalize 125 - 12 * l.length = K at *
   go_wp2_with fail
   go_ret2
   exact ⟨by rw [hN.out]; rfl, B3.out⟩
 ·have hR : Ents.encR l leaf = ([], 2) := if_neg k
  rw [hR]
  by_cases k1 : l.length = 0
  ·have hz : (l.length : Int) < 1 := by omega
   clear hR k k1
   go_enter Tryz.func11, Tryz.ntmps11
   go_wp2_with fail
   go_ret2
   exact ⟨rfl, Below.refl _ _⟩
  ·have hz : ¬ (l.length : Int) < 1 := by omega
   by_cases k2 : l.length ≤ 10
   ·have hg : ¬ (10 : Int) < (l.length : Int) := by omega
    have k3 : Ents.okTo leaf l l.length = false := by
     cases h : Ents.okTo leaf l l.length
     ·rfl
     ·exact absurd ⟨by omega, k2, h⟩ k
    rw [k3] at q
    clear k hR k3 k1
    go_enter Tryz.func11, Tryz.ntmps11
    go_wp2_with fail
    refine q.out.mono ?_
    rintro e w1 ⟨rfl, b1⟩
    have B1 := hid b1
    clear b1
    go_wp2_with fail
    go_ret2
    exact ⟨rfl, B1.out⟩
   ·have hg : (10 : Int) < (l.length : Int) := by omega
    clear k hR k1
    go_enter Tryz.func11, Tryz.ntmps11
    go_wp2_with fail
    go_ret2
    exact ⟨rfl, Below.refl _ _⟩
set_option maxRecDepth 100000 in
set_option maxHeartbeats 4000000 in
theorem rdecode_any (s : ByteArray) (w : World) (hs : s.size ≤ 140737488351232) :
  Calls Tryz.prog 13 #[.string s] w fun e w' => DecOut w.heap.size s e w' ∧ Below w.heap.size w w' := by
 obtain ⟨i0, hi0, hz0, hz1, hz2⟩ := info_parts info_entry
 by_cases k : s.size = 128
 ·have z1 : 1 < s.size := by omega
  have z2 : 2 < s.size := by omega
  obtain ⟨m, hm⟩ : ∃ m, min (s.data.toList.getD 2 0).toNat 10 = m := ⟨_, rfl⟩
  have hm10 : m ≤ 10 := by omega
  have hg2 := getD_byte s 2 z2
  have hg1 := getD_byte s 1 z1
  have q := hid (fun p h w => number_any s p h hs w)
  have hraw : Hid (Ents.rawL s.data.toList = Ents.getL s.data.toList 3 m) := hid (by unfold Ents.rawL; rw [hm])
  have hleaf : Hid (Ents.rawLeaf s.data.toList = (s[1] == 1)) := hid (by unfold Ents.rawLeaf; rw [hg1])
  have hlen := hid (Ents.getL_length s.data.toList 3 m)
  have hsm := hid (getL_smalls s.data.toList 3 m)
  have hdec : Hid (Ents.dec s.data.toList = if Ents.EncOk (Ents.rawL s.data.toList) (Ents.rawLeaf s.data.toList) ∧ Ents.nodeB (Ents.rawL s.data.toList) (Ents.rawLeaf s.data.toList) = s.data.toList then some (Ents.rawL s.data.toList, Ents.rawLeaf s.data.toList) else none) := hid (by
   unfold Ents.dec
   rw [list_length, k]
   simp)
  rw [hraw.out, hleaf.out] at hdec
  rw [hg2] at hm
  have hb1 : (((s[1].toNat : Nat) : Int) == 1) = (s[1] == 1) := by
   rw [Bool.eq_iff_iff, beq_iff_eq, beq_iff_eq]
   constructor
   ·intro h; exact UInt8.toNat_inj.1 (by have : (1 : UInt8).toNat = 1 := rfl; omega)
   ·intro h; rw [h]; rfl
  have hk : ((s.size : Int) != 128) = false := by rw [bne_eq_false_iff_eq]; omega
  have z1' : (1 : Int) < (s.size : Int) := by omega
  have z2' : (2 : Int) < (s.size : Int) := by omega
  have hsz := hid k
  have HM := hid hm
  have HB1 := hid hb1
  clear hg1 hg2 hraw k hm hleaf hb1
  have hw2 : IntKind.i64.wrap ((s[2].toNat : Nat) : Int) = ((s[2].toNat : Nat) : Int) := by have := s[2].toNat_lt; exact IntWalk.i64_in _ (by omega)
  go_enter Tryz.func13, Tryz.ntmps13
  go_wp2_with fail
  go_loopw [5, 6] (fun p q wr => ∃ (j : Nat) (u : Value), j ≤ m ∧ u = p ∧ q = .int .i64 j ∧ Hid (OwnEnts w.heap.size wr u (Ents.getL s.data.toList 3 j)) ∧ Hid (Below w.heap.size w wr)) (fun _ q _ => m - (intOf q).toNat)
  case atStart => exact ⟨0, _, by omega, rfl, rfl, hid (World.ownsRow_nil _ _ _ _), hid (Below.refl _ _)⟩
  case round =>
   obtain ⟨j, v, hj, rfl, rfl, ho, hb⟩ := hrel
   by_cases hlt : j < m
   ·obtain ⟨ad, co, rfl⟩ := ho.out.slice
    have hmm := HM.out
    have t1 : decide (j < s[2].toNat) = true := decide_eq_true (by omega)
    have t2 : decide ((j : Int) < 10) = true := decide_eq_true (by omega)
    have q1 := hid (fun w => q.out (3 + 12 * j) (by have := hsz.out; omega) w)
    have q2 := hid (fun w => q.out (3 + 12 * j + 4) (by have := hsz.out; omega) w)
    have q3 := hid (fun w => q.out (3 + 12 * j + 8) (by have := hsz.out; omega) w)
    have hE : Hid (Ents.getL s.data.toList 3 (j + 1) = Ents.getL s.data.toList 3 j ++ [(((getW s.data.toList (3 + 12 * j) 4 : Nat) : Int), ((getW s.data.toList (3 + 12 * j + 4) 4 : Nat) : Int), ((getW s.data.toList (3 + 12 * j + 8) 4 : Nat) : Int))]) := hid rfl
    have hlj := hid (Ents.getL_length s.data.toList 3 j)
    rw [show ((3 + 12 * j : Nat) : Int) = 3 + 12 * (j : Int) by omega] at q1
    rw [show ((3 + 12 * j + 4 : Nat) : Int) = 7 + 12 * (j : Int) by omega] at q2
    rw [show ((3 + 12 * j + 8 : Nat) : Int) = 11 + 12 * (j : Int) by omega] at q3
    generalize getW s.data.toList (3 + 12 * j) 4 = y1 at *
    generalize getW s.data.toList (3 + 12 * j + 4) 4 = y2 at *
    generalize getW s.data.toList (3 + 12 * j + 8) 4 = y3 at *
    generalize hLg : Ents.getL s.data.toList 3 j = L at *
    have j0 : (0 : Int) ≤ (j : Int) := by omega
    have j1 : (j : Int) ≤ 10 := by omega
    clear hmm
    have hLn : L.length ≤ 1000000 := by rw [hlj.out]; omega
    clear hLg
    go_wp2_with fail
    refine (q1.out _).mono ?_
    rintro e w1 ⟨rfl, rfl⟩
    go_wp2_with fail
    refine (q2.out _).mono ?_
    rintro e w1 ⟨rfl, rfl⟩
    go_wp2_with fail
    refine (q3.out _).mono ?_
    rintro e w1 ⟨rfl, rfl⟩
    have hone := ecells_one [((y1 : Int), (y2 : Int), (y3 : Int))]
    have HO := hid (show World.ownsRow _ w.heap.size 31 3 (.slice ad L.length co) L.length (ecells L) from ho.out)
    clear ho
    go_wp2_with (first
     | (at_builtin; refine wpList_append_own _ rfl (.tmp 24) (.tmp 41) 22 rfl w.heap.size 31 i0 (.agg #[.int .i64 0, .int .i64 0, .int .i64 0]) 3 24 Tryz.underlying22 hi0 hz0 hz1 hz2 rfl (by decide) _ L.length _ rfl (HO.out.alloc _) ⟨wr.heap.size, 0, none⟩ 1 1 [.int .i64 y1, .int .i64 y2, .int .i64 y3] rfl rfl (World.news_of_block (heap_alloc_new _ _)) hone (by unfold maxLen; omega) (by omega) (by have := hb.out.size; simp at this ⊢; omega) ?_))
    intro v' w2 hown1 hgrow _
    have HW := hid ((hb.out.alloc hb.out.size (.cells #[.int .i64 y1, .int .i64 y2, .int .i64 y3] 31)).grown hgrow (by have := hb.out.size; simp at this ⊢; omega) (fun k hk => (HO.out.lt k hk).1))
    have HG : Hid (OwnEnts w.heap.size w2 v' (Ents.getL s.data.toList 3 (j + 1))) := hid (by
     rw [hE.out]
     unfold OwnEnts
     rw [List.length_append, ecells_append]
     exact hown1)
    clear hown1 hgrow
    go_wp2_with fail
    go_roundw
    case rel => exact ⟨j + 1, v', by omega, rfl, by go_num, HG, HW⟩
    case measure => simp [intOf]; omega
   ·obtain rfl : j = m := by omega
    have hmm := HM.out
    have hbnd : (s[2].toNat : Int) ≤ 255 := by have := s[2].toNat_lt; omega
    have t1 : decide (j < s[2].toNat) = false ∨ (decide (j < s[2].toNat) = true ∧ decide ((j : Int) < 10) = false) := by
     by_cases h : j < s[2].toNat
     ·exact .inr ⟨decide_eq_true h, decide_eq_false (by omega)⟩
     ·exact .inl (decide_eq_false h)
    clear hmm HM
    have O5 := ho
    have hS4' := hb
    clear ho hb
    have henc := hid (rencode_any (s[1] == 1) v (Ents.getL s.data.toList 3 j) wr hsm.out O5.out.at (by rw [hlen.out]; omega))
    have HLS := hid hlen.out
    obtain ⟨ad, co, rfl⟩ := O5.out.slice
    have hb1 := HB1.out
    clear hlen hsm q HB1
    generalize hlfd : (s[1] == 1) = lf' at *
    have HL := hid hlfd
    clear hlfd
    generalize Ents.getL s.data.toList 3 j = L at *
    by_cases k1 : Ents.EncOk L lf'
    ·have hR : Hid (Ents.encR L lf' = (Ents.nodeB L lf', 0)) := hid (if_pos k1)
     rw [hR.out] at henc
     by_cases k2 : Ents.nodeB L lf' = s.data.toList
     ·have hd : Hid (Ents.dec s.data.toList = some (L, lf')) := hid (by rw [hdec.out, if_pos ⟨k1, k2⟩])
      have HY := hid (fun w2 (h : OwnEnts w.heap.size w2 (.slice ad L.length co) L) => DecOut.yes (w' := w2) hd.out h)
      have hne := str_eq (show txt (Ents.nodeB L lf') = s by rw [k2, txt_of])
      clear hdec hR k1 k2 hd
      dsimp only at henc
      generalize txt (Ents.nodeB L lf') = T at *
      rcases t1 with t1 | ⟨t1, t2⟩
      all_goals
       go_wp2_with fail
       refine henc.out.mono ?_
       rintro e w5 ⟨rfl, b5⟩
       have B5 := hid (hS4'.out.trans (b5.mono hS4'.out.size))
       have HD := hid (HY.out w5 (O5.out.below b5))
       clear b5
       go_wp2_with fail
       go_ret3
       exact ⟨HD.out, B5.out⟩
     ·have hd : Hid (Ents.dec s.data.toList = none) := hid (by rw [hdec.out, if_neg (fun h => k2 h.2)])
      have hx : ¬ txt (Ents.nodeB L lf') = s := fun h => k2 (by rw [← h, txt_list])
      have HY := hid (fun w2 => DecOut.no (B := w.heap.size) (w' := w2) hd.out)
      have hne := str_ne hx
      clear hx
      clear hdec hR k1 k2 hd
      dsimp only at henc
      generalize txt (Ents.nodeB L lf') = T at *
      rcases t1 with t1 | ⟨t1, t2⟩
      all_goals
       go_wp2_with fail
       refine henc.out.mono ?_
       rintro e w5 ⟨rfl, b5⟩
       have B5 := hid (hS4'.out.trans (b5.mono hS4'.out.size))
       have HD := hid (HY.out w5)
       clear b5
       go_wp2_with fail
       go_ret3
       exact ⟨HD.out, B5.out⟩
    ·have hR : Hid (Ents.encR L lf' = ([], 2)) := hid (if_neg k1)
     rw [hR.out] at henc
     have hd : Hid (Ents.dec s.data.toList = none) := hid (by rw [hdec.out, if_neg (fun h => k1 h.1)])
     have HY := hid (fun w2 => DecOut.no (B := w.heap.size) (w' := w2) hd.out)
     clear hdec hR k1 hd
     dsimp only at henc
     generalize txt [] = T at *
     rcases t1 with t1 | ⟨t1, t2⟩
     all_goals
      go_wp2_with fail
      refine henc.out.mono ?_
      rintro e w5 ⟨rfl, b5⟩
      have B5 := hid (hS4'.out.trans (b5.mono hS4'.out.size))
      have HD := hid (HY.out w5)
      clear b5
      go_wp2_with fail
      go_ret3
      exact ⟨HD.out, B5.out⟩
 ·have hd : Ents.dec s.data.toList = none := by
   unfold Ents.dec
   rw [if_neg (by rw [list_length]; exact fun h => k h.1)]
  have hk : ((s.size : Int) != 128) = true := by rw [bne_iff_ne]; omega
  have HD := hid (DecOut.no (B := w.heap.size) (w' := w) hd)
  clear hd
  go_enter Tryz.func13, Tryz.ntmps13
  go_wp2_with fail
  go_ret3
  exact ⟨HD.out, Below.refl _ _⟩
end Go.Proofs.YtgjmeeiejcbjfaaGreat
