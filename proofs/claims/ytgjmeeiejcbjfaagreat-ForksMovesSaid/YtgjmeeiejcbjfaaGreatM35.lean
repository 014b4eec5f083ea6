/- The document's numbers: Within, Put, PutInt, put, and entries' bytes. -/
import Derived.Test.YtgjmeeiejcbjfaaGreatM07
import Derived.Deep.RegionHeld3
import Derived.Test.YtgjmeeiejcbjfaaGreatM05
set_option linter.unusedSimpArgs false
set_option linter.unusedVariables false
namespace Go.Proofs.YtgjmeeiejcbjfaaGreat
open Go.Lib (hid)
open Go Go.RowKit
theorem le_snoc : ∀ (k n : Nat), le (k + 1) n = le k n ++ [UInt8.ofNat (n / 256 ^ k % 256)]
 | 0, n => by simp [le]
 | k + 1, n => by
  rw [le, le_snoc k (n / 256), le]
  simp only [List.cons_append]
  rw [Nat.div_div_eq_div_mul, Nat.pow_succ, Nat.mul_comm 256]
set_option maxHeartbeats 1000000 in
theorem rwithin_any (k : Nat) (hk : k = 1 ∨ k = 2 ∨ k = 4 ∨ k = 8) (s : ByteArray) (hs : s.size = k) (w : World) :
  Calls Tryz.prog 167 #[.string s, .int .i64 0, .int .i64 (k : Int)] w fun e w' => e = .returned (.bool true) ∧ w = w' := by
 rcases hk with rfl | rfl | rfl | rfl
 all_goals
  go_enter Tryz.func167, Tryz.ntmps167
  go_wp2_with fail
  go_ret
  exact ⟨rfl, rfl⟩
theorem run_byte_string (w : World) (m : Nat) : (convert 95 9 (.slice (some ⟨w.heap.size, 0, none⟩) 1 1)).run Tryz.prog (w.alloc (.cells #[.int .u8 ((m : Int) % 256)] 5)) = .ok (.string (txt [UInt8.ofNat (m % 256)])) (w.alloc (.cells #[.int .u8 ((m : Int) % 256)] 5)) := by
 have e : ((m : Int) % 256) = ((UInt8.ofNat (m % 256)).toNat : Int) := by simp
 rw [e]
 generalize UInt8.ofNat (m % 256) = x
 refine run_convert_bytes_back _ _ _ 5 ⟨w.heap.size, 0, none⟩ 1 [x] Tryz.underlying95 Tryz.underlying5 Tryz.underlying9 fun j hj => ?_
 obtain rfl : j = 0 := by simp at hj; omega
 have e1 : (⟨w.heap.size, 0, none⟩ : Addr).add 0 = ⟨w.heap.size, 0, none⟩ := by unfold Addr.add; split <;> simp_all
 rw [e1]
 exact box_cell _ _ _ _
theorem rinfo_byte : (Tryz.prog.info? 5).map (fun i => (i.zero, i.size, i.bytes)) = some (some (.int .u8 0), 1, 1) := by kernel_rfl
theorem zmake (k : Nat) (hk : k ≤ 1000000) (w : World) : (Instr.makeSlice 95 (.int .i64 (k : Int)) (.int .i64 (k : Int))).run Tryz.prog w = .ok (.slice (some ⟨w.heap.size, 0, none⟩) k k) (w.alloc (.cells (bcells (List.replicate k 0)).toArray 5)) := by
 obtain ⟨ib, hib, hzb, hsb, hbb⟩ := info_parts rinfo_byte
 have hr := run_make (P := Tryz.prog) w 95 5 ib (.int .u8 0) Tryz.underlying95 hib hzb .i64 .i64 k k (by omega) (by omega) (by rw [hbb]; omega) (by omega)
 rw [show (bcells (List.replicate k 0)).toArray = madeCells #[.int .u8 0] k from by rw [← Array.toList_inj, toList_madeCells_one]; simp [bcells, bval]]
 simpa [hsb, Value.cells] using hr
theorem zstring (k : Nat) (w : World) : (convert 95 9 (.slice (some ⟨w.heap.size, 0, none⟩) k k)).run Tryz.prog (w.alloc (.cells (bcells (List.replicate k 0)).toArray 5)) = .ok (.string (txt (List.replicate k 0))) (w.alloc (.cells (bcells (List.replicate k 0)).toArray 5)) :=
 run_string_of_row _ _ 5 k k (by simp) Tryz.underlying95 Tryz.underlying5 Tryz.underlying9 (Row.new w _ _ rfl)
theorem rtxt_append (a b : Bytes) : txt a ++ txt b = txt (a ++ b) := by
 apply ByteArray.ext
 simp [txt]
set_option maxRecDepth 100000 in
set_option maxHeartbeats 2000000 in
theorem rput64_any (k : Nat) (hk : k = 1 ∨ k = 2 ∨ k = 4 ∨ k = 8) (s : ByteArray) (hs : s.size = k) (n : Nat) (hn : n < 256 ^ k) (w : World) :
  Calls Tryz.prog 152 #[.string s, .int .i64 0, .int .i64 (k : Int), .int .u64 (n : Int)] w fun e w' => e = .returned (.tuple #[.string (txt (le k n)), .bool true]) ∧ Below w.heap.size w w' := by
 have q := hid (rwithin_any k hk s hs)
 have hk8 : k ≤ 8 := by omega
 have hk0 : 0 < k := by omega
 clear hk
 go_enter Tryz.func152, Tryz.ntmps152
 go_wp2_with fail
 refine (q.out _).mono ?_
 rintro e w1 ⟨rfl, rfl⟩
 go_wp2_with fail
 go_loopw [11, 10, 3] (fun i b m wr => ∃ j : Nat, i = .int .i64 j ∧ j ≤ k ∧ b = .string (txt (le j n)) ∧ m = .int .u64 ((n / 256 ^ j : Nat) : Int) ∧ Hid (Below w.heap.size w wr)) (fun i _ _ _ => k - (intOf i).toNat)
 case atStart => exact ⟨0, rfl, Nat.zero_le _, by rfl, by simp, hid (Below.refl _ _)⟩
 case round =>
  obtain ⟨j, rfl, hj, rfl, rfl, hb⟩ := hrel
  by_cases hlt : j < k
  ·have i1 : (j : Int) < (k : Int) := by omega
   obtain ⟨m, hm⟩ : ∃ m, n / 256 ^ j = m := ⟨_, rfl⟩
   have hle := hid (le_snoc j n)
   rw [hm] at hle
   have hdm := hid (show n / 256 ^ (j + 1) = m / 256 by rw [Nat.pow_succ, ← Nat.div_div_eq_div_mul, hm])
   rw [hm]
   have hcv := run_byte_string wr m
   have hsz : ¬ 9223372036854775807 < (txt (le j n)).size + (txt [UInt8.ofNat (m % 256)]).size := by rw [txt_size, txt_size, le_length]; simp; omega
   clear hm
   go_wp2_with fail
   go_roundw
   case rel =>
    refine ⟨j + 1, by go_num, by omega, ?_, ?_, hid (hb.out.alloc (by exact hb.out.size) _)⟩
    ·rw [hle.out, ← rtxt_append]
    ·have e := hdm.out
     have hmb : m / 256 < 18446744073709551616 := by
      rw [← e]
      have h1 : n < 256 ^ 8 := Nat.lt_of_lt_of_le hn (Nat.pow_le_pow_right (by decide) hk8)
      have h2 : n / 256 ^ (j + 1) ≤ n := Nat.div_le_self _ _
      omega
     rw [e]
     have : IntKind.u64.wrap ((m : Int) / 256) = ((m / 256 : Nat) : Int) := by
      simp only [IntKind.wrap, IntKind.bits, IntKind.signed]
      rw [show ((m : Int) / 256) = ((m / 256 : Nat) : Int) by omega]
      exact Int.emod_eq_of_lt (by omega) (by omega)
     rw [this]
   case measure => simp [intOf]; omega
  ·obtain rfl : j = k := by omega
   have hz : n / 256 ^ j = 0 := Nat.div_eq_of_lt hn
   rw [hz]
   clear hz hn
   have hsz : ¬ 9223372036854775807 < (ByteArray.empty).size + (txt (le j n)).size := by rw [txt_size, le_length]; simp; omega
   generalize hbb : txt (le j n) = b at *
   have HBB := hid hbb
   clear hbb
   go_wp2_with fail
   go_region
   go_wp2_with fail
   go_ret2
   exact ⟨by rw [HBB.out]; rfl, hb.out.drew⟩
set_option maxHeartbeats 1000000 in
theorem rputint_any (k : Nat) (hk : k = 1 ∨ k = 2 ∨ k = 4 ∨ k = 8) (s : ByteArray) (hs : s.size = k) (n : Nat) (hn : n < 256 ^ k) (h63 : n < 9223372036854775808) (w : World) :
  Calls Tryz.prog 124 #[.string s, .int .i64 0, .int .i64 (k : Int), .int .i64 (n : Int)] w fun e w' => e = .returned (.tuple #[.string (txt (le k n)), .bool true]) ∧ Below w.heap.size w w' := by
 have q := hid (rput64_any k hk s hs n hn)
 have h0 : ¬ (n : Int) < 0 := by omega
 have hw : IntKind.u64.wrap (n : Int) = (n : Int) := by
  simp only [IntKind.wrap, IntKind.bits, IntKind.signed]
  exact Int.emod_eq_of_lt (by omega) (by omega)
 clear hs hn hk
 go_enter Tryz.func124, Tryz.ntmps124
 go_wp2_with fail
 refine (q.out _).mono ?_
 rintro e w1 ⟨rfl, b1⟩
 go_wp2_with fail
 go_ret2
 exact ⟨rfl, b1⟩
set_option maxRecDepth 100000 in
theorem rput_any (s : ByteArray) (n : Nat) (hn : n < 256 ^ 4) (hs : s.size ≤ 1000000) (w : World) :
  Calls Tryz.prog 92 #[.string s, .int .i64 4, .int .i64 (n : Int)] w fun e w' => e = .returned (.string (s ++ txt (le 4 n))) ∧ Below w.heap.size w w' := by
 have q : Hid (∀ (s : ByteArray), s.size = 4 → ∀ w, Calls Tryz.prog 124 #[.string s, .int .i64 0, .int .i64 4, .int .i64 (n : Int)] w fun e w' => e = .returned (.tuple #[.string (txt (le 4 n)), .bool true]) ∧ Below w.heap.size w w') := hid (fun s hs w => rputint_any 4 (by decide) s hs n hn (by omega) w)
 have hsz : ¬ 9223372036854775807 < s.size + (txt (le 4 n)).size := by rw [txt_size, le_length]; omega
 generalize txt (le 4 n) = b at *
 have hmk : (Instr.makeSlice 95 (.int .i64 4) (.int .i64 4)).run Tryz.prog w = .ok (.slice (some ⟨w.heap.size, 0, none⟩) 4 4) (w.alloc (.cells (bcells (List.replicate 4 0)).toArray 5)) := zmake 4 (by decide) w
 have hst := zstring 4 w
 have hz4 : (txt (List.replicate 4 0)).size = 4 := by rw [txt_size]; rfl
 have hbA : Below w.heap.size w (w.alloc (.cells (bcells (List.replicate 4 0)).toArray 5)) := (Below.refl _ _).alloc (Nat.le_refl _) _
 generalize w.alloc (.cells (bcells (List.replicate 4 0)).toArray 5) = wA at *
 generalize txt (List.replicate 4 0) = Z at *
 go_enter Tryz.func92, Tryz.ntmps92
 go_wp2_with fail
 refine (q.out Z hz4 _).mono ?_
 rintro e w1 ⟨rfl, b1⟩
 have hb := hid (hbA.trans (b1.mono hbA.size))
 go_wp2_with fail
 go_ret
 exact ⟨rfl, hb.out⟩
set_option maxRecDepth 100000 in
set_option maxHeartbeats 4000000 in
theorem xrow2_any (leaf : Bool) (v : Value) (l : EL) (w : World) (hs : SmallsE l) (h : ExtsAt w v l) (hl : l.length ≤ 1000000000) :
  Calls Tryz.prog 40 #[v, .bool leaf] w fun e w' => e = .returned (.bool (Ents.okTo leaf l l.length)) ∧ Below w.heap.size w w' := by
 have H := hid h
 have HS := hid hs
 obtain ⟨ad, cap, rfl⟩ : ∃ ad cap, v = .slice ad l.length cap := by
  rcases h with ⟨rfl, rfl⟩ | ⟨b, off, cap, rfl, _⟩
  ·exact ⟨_, _, rfl⟩
  ·exact ⟨_, _, rfl⟩
 clear h hs
 go_enter Tryz.func40, Tryz.ntmps40
 go_wp2_with fail
 go_loopw [5] (fun q wr => ∃ j : Nat, j ≤ l.length ∧ q = .int .i64 j ∧ Ents.okTo leaf l j = true ∧ Hid (Below w.heap.size w wr)) (fun q _ => l.length - (intOf q).toNat)
 case atStart => exact ⟨0, by omega, rfl, rfl, hid (Below.refl _ _)⟩
 case round =>
  obtain ⟨j, hj, rfl, hok, hb⟩ := hrel
  by_cases hlt : j < l.length
  ·have i0 : (0 : Int) ≤ (j : Int) := by omega
   have i1 : (j : Int) < (l.length : Int) := by omega
   obtain ⟨hll, g, off, rfl, c0, c1, c2⟩ := (H.out.below (B := 0) hb.out).cells j hlt
   clear hll
   have hsx := HS.out.at j hlt
   have hnext : Ents.okTo leaf l (j + 1) = (Ents.may leaf (l.getD j (0, 0, 0)) && (j == 0 || Ents.step (l.getD (j - 1) (0, 0, 0)) (l.getD j (0, 0, 0)))) := by
    show (Ents.okTo leaf l j && _ && _) = _
    rw [hok]
    rfl
   have hm := hid (fun w => xmay2_any leaf _ hsx w)
   have hBz := hb.out.size
   have zg : g < wr.heap.size := World.block_lt_of_cell? _ _ c0
   have hsm := fun h => Ents.may_small (leaf := leaf) (x := l.getD j (0, 0, 0)) h
   cases k : Ents.may leaf (l.getD j (0, 0, 0))
   case true =>
    rw [k] at hm hnext
    rw [Bool.true_and] at hnext
    have hsx2 := hsm k
    clear hsm
    by_cases k0 : j = 0
    ·have hok' : Ents.okTo leaf l (j + 1) = true := by rw [hnext]; simp [k0]
     have kd : (j : Int) = 0 := by omega
     have d0 : wr.cell? ⟨g, off, none⟩ = some (.int .i64 (l.getD j (0, 0, 0)).1) := by have := c0; rwa [k0, Nat.zero_mul, Nat.add_zero, ← k0] at this
     have d1 : wr.cell? ⟨g, off + 1, none⟩ = some (.int .i64 (l.getD j (0, 0, 0)).2.1) := by have := c1; rwa [k0, Nat.zero_mul, Nat.add_zero, ← k0] at this
     have d2 : wr.cell? ⟨g, off + 2, none⟩ = some (.int .i64 (l.getD j (0, 0, 0)).2.2) := by have := c2; rwa [k0, Nat.zero_mul, Nat.add_zero, ← k0] at this
     clear hnext k c0 c1 c2
     generalize l.getD j (0, 0, 0) = x at *
     obtain ⟨xa, xb, xc⟩ := x
     dsimp only at *
     go_wp2_with fail
     refine (hm.out _).mono ?_
     rintro e w4 ⟨rfl, b4⟩
     have B9 := hid (hb.out.trans (b4.mono hBz))
     clear b4 hb
     go_wp2_with fail
     go_roundw
     case rel => exact ⟨j + 1, by omega, by go_num, hok', B9⟩
     case measure => simp [intOf]; omega
    ·obtain ⟨_, g', off', e', d0, d1, d2⟩ := (H.out.below (B := 0) hb.out).cells (j - 1) (by omega)
     cases e'
     have hmp := Ents.may_small (Ents.okTo_may hok (j - 1) (by omega))
     have kn : ¬ (j : Int) = 0 := by omega
     have kw : IntKind.i64.wrap ((j : Int) - 1) = ((j - 1 : Nat) : Int) := by
      rw [IntWalk.i64_in _ (by omega)]
      omega
     have kj : ((j - 1 : Nat) : Int) < (l.length : Int) := by omega
     have kj0 : (0 : Int) ≤ ((j - 1 : Nat) : Int) := by omega
     rw [show (j == 0) = false by simpa using k0, Bool.false_or] at hnext
     unfold Ents.step at hnext
     clear k
     generalize l.getD j (0, 0, 0) = x at *
     generalize l.getD (j - 1) (0, 0, 0) = y at *
     obtain ⟨xa, xb, xc⟩ := x
     obtain ⟨ya, yb, yc⟩ := y
     dsimp only at *
     have wf : IntKind.i64.wrap (ya + yc) = ya + yc := IntWalk.i64_in _ (by omega)
     generalize hJ : j - 1 = j1 at *
     go_wp2_with fail
     refine (hm.out _).mono ?_
     rintro e w4 ⟨rfl, b4⟩
     have e0 := (b4.cell (p := ⟨g, off + j * 3, none⟩) zg).trans c0
     have f0 := (b4.cell (p := ⟨g, off + j1 * 3, none⟩) zg).trans d0
     have f1 := (b4.cell (p := ⟨g, off + j1 * 3 + 1, none⟩) zg).trans d1
     have f2 := (b4.cell (p := ⟨g, off + j1 * 3 + 2, none⟩) zg).trans d2
     have hb4 := hid (hb.out.trans (b4.mono hBz))
     have z4 := hb4.out.size
     clear b4 hb c0 c1 c2 d0 d1 d2
     go_wp2_with fail
     have bA : Below w4.heap.size w4 (w4.alloc (.cells #[.int .i64 ya, .int .i64 yb, .int .i64 yc] 31)) := (Below.refl _ _).alloc (Nat.le_refl _) _
     have E0 := (bA.cell (p := ⟨g, off + j * 3, none⟩) (World.block_lt_of_cell? _ _ e0)).trans e0
     have P0 : (w4.alloc (.cells #[.int .i64 ya, .int .i64 yb, .int .i64 yc] 31)).cell? ⟨w4.heap.size, 0, none⟩ = some (.int .i64 ya) := box_cell _ _ _ _
     have P2 : (w4.alloc (.cells #[.int .i64 ya, .int .i64 yb, .int .i64 yc] 31)).cell? ⟨w4.heap.size, 2, none⟩ = some (.int .i64 yc) := box_cell _ _ _ _
     have HBA := hid (hb4.out.trans (bA.mono z4))
     clear e0 f0 f1 f2 bA
     have HB9 : ∀ q, Below w.heap.size w ((w4.alloc (.cells #[.int .i64 ya, .int .i64 yb, .int .i64 yc] 31)).drewN q) := fun q => Below.drewN' HBA.out q
     have HB := hid HB9
     clear HB9
     by_cases m1 : xa ≤ ya
     ·have hOK := hid (Ents.okTo_false (n := l.length) leaf l (j + 1) (by rw [hnext, decide_eq_false (by omega : ¬ 0 < xa - ya)]; rfl) (by omega))
      have n1d : decide (xa ≤ ya) = true := decide_eq_true m1
      clear hnext
      go_quiet (fail)
      go_wp2_with fail
      go_ret
      exact ⟨by rw [hOK.out]; rfl, HB.out _⟩
     ·have n1d : decide (xa ≤ ya) = false := decide_eq_false m1
      by_cases m2 : xa < ya + yc
      ·have hOK := hid (Ents.okTo_false (n := l.length) leaf l (j + 1) (by rw [hnext, decide_eq_false (by omega : ¬ yc ≤ xa - ya), Bool.and_false]) (by omega))
       have n2d : decide (xa < ya + yc) = true := decide_eq_true m2
       clear hnext
       go_quiet (fail)
       go_wp2_with fail
       go_ret
       exact ⟨by rw [hOK.out]; rfl, HB.out _⟩
      ·have hok' : Ents.okTo leaf l (j + 1) = true := by rw [hnext, decide_eq_true (by omega : 0 < xa - ya), decide_eq_true (by omega : yc ≤ xa - ya)]; rfl
       have n2d : decide (xa < ya + yc) = false := decide_eq_false m2
       clear hnext
       go_quiet (fail)
       go_wp2_with fail
       go_roundw
       case rel => exact ⟨j + 1, by omega, by go_num, hok', hid (HB.out _)⟩
       case measure => simp [intOf]; omega
   case false =>
    rw [k] at hm hnext
    rw [Bool.false_and] at hnext
    have hOK := hid (Ents.okTo_false (n := l.length) leaf l (j + 1) hnext (by omega))
    clear hnext k hsm
    generalize l.getD j (0, 0, 0) = x at *
    obtain ⟨xa, xb, xc⟩ := x
    dsimp only at *
    go_wp2_with fail
    refine (hm.out _).mono ?_
    rintro e w4 ⟨rfl, b4⟩
    have B9 := hid (hb.out.trans (b4.mono hBz))
    clear b4 hb
    go_wp2_with fail
    go_ret
    exact ⟨by rw [hOK.out]; rfl, B9.out⟩
  ·obtain rfl : j = l.length := by omega
   go_wp2_with fail
   go_ret
   exact ⟨by rw [hok]; rfl, hb.out⟩
end Go.Proofs.YtgjmeeiejcbjfaaGreat
