/- BuffersLast: the walk. -/
import Derived.Test.YtlickjaopbcanaaCacheD
import Derived.Test.YtlickjaopbcanaaLastMath
import Derived.Test.YtlickjaopbcanaaReadBytes
namespace Go.Proofs.Ytlickjaopbcanaa
open Go Go.RowKit Bufs
variable {B : Nat} {w : World}

theorem int_out (O : List Nat) (b : Nat) : ((O.map fun (n : Nat) => (n : Int)).filter fun x => x != (b : Int)) = (outOf O b).map fun (n : Nat) => (n : Int) := by
  unfold outOf
  rw [List.filter_map]
  congr 1
  apply List.filter_congr
  intro x _
  show ((x : Int) != (b : Int)) = (x != b)
  by_cases h : x = b
  · simp [h]
  · have h2 : ¬ (x : Int) = (b : Int) := by omega
    rw [bne_iff_ne.2 h2, bne_iff_ne.2 h]
theorem intVs_nat (O : List Nat) : intVs (O.map fun (n : Nat) => (n : Int)) = natVs O := by simp [intVs, natVs]
/-- A list of one's own, of those numbers without one. -/
theorem without_nat (v : Value) (O : List Nat) (b : Nat) (h : w.ownsRow B 3 1 v O.length (natVs O)) (hl : O.length ≤ 1000000) : Calls Try.prog 12 #[v, .int .i64 b] w fun e w' => ∃ v', e = .returned v' ∧ w'.ownsRow w.heap.size 3 1 v' (outOf O b).length (natVs (outOf O b)) ∧ Below w.heap.size w w' := by
  obtain ⟨ad, c, rfl, _⟩ := own_opens h
  have := without_any ad c (O.map fun (n : Nat) => (n : Int)) b (intsIn_own h) (by simpa using hl)
  rw [int_out, intVs_nat, List.length_map, List.length_map] at this
  exact this

set_option maxRecDepth 100000 in
set_option maxHeartbeats 4000000 in
theorem BuffersLast_walk (a c : UInt8) (ad : Option Addr) (cap : Nat) (l : List UInt8) (h : BytesIn w ad cap l) : Calls Try.prog 3 #[.agg #[bval a, bval c], .slice ad l.length cap] w fun e w' => e = .returned (.bool true) ∧ Below w.heap.size w w' := by
  obtain ⟨i0, hi0, hz0, hz1, hz2⟩ := info_parts info_int
  have hcap := h.2
  have H := Lib.hid h
  clear h
  by_cases hgr : 300 < (l.length : Int)
  · unfold bval
    go_enter Try.func3, Try.ntmps3
    go_wp2_with fail
    go_ret
    exact ⟨rfl, (Below.refl _ _).alloc (Nat.le_refl _) _⟩
  have qm := Lib.hid (made_cache a c)
  have qal := Lib.hid alive_any
  have hc0 := c.toNat_lt
  have hm : sizeOf1 c = 1 + c.toNat % 8 := rfl
  have hm1 : 1 ≤ sizeOf1 c := by omega
  have hm8 : sizeOf1 c ≤ 8 := by omega
  have hn : 1 ≤ sizeOf0 a ∧ sizeOf0 a ≤ 16 := by unfold sizeOf0; omega
  have hzk : Hid ((zeros (sizeOf0 a)).kept.length = sizeOf0 a) := Lib.hid (by simp [zeros, Dev.fresh])
  have hza : Hid ((zeros (sizeOf0 a)).acts = 0) := Lib.hid rfl
  have hct : wrap64 (Int.tmod (c.toNat : Int) 8) = (sizeOf1 c : Int) - 1 := by
    rw [Int.tmod_eq_emod_of_nonneg (by omega)]; unfold wrap64 sizeOf1; omega
  generalize sizeOf0 a = n at *
  generalize sizeOf1 c = m at *
  clear hm
  unfold bval at *
  generalize (a.toNat : Int) = ai at *
  generalize hci : (c.toNat : Int) = ci at *
  clear hci
  have b0 : Below w.heap.size w (w.alloc (.cells #[.int .u8 ai, .int .u8 ci] 22)) := (Below.refl _ _).alloc (Nat.le_refl _) _
  have B0 := Lib.hid b0
  have H0 := Lib.hid (H.out.below b0)
  clear b0
  go_enter Try.func3, Try.ntmps3
  go_wp2_with fail
  refine (qm.out _).mono ?_
  rintro e w1 ⟨db, cb, y, rfl, c1, b1⟩
  have kc : Hid ((w.alloc (.cells #[.int .u8 ai, .int .u8 ci] 22)).cell? ⟨w.heap.size, 1, none⟩ = some (.int .u8 ci)) := Lib.hid (by
    rw [cell_of_row _ _ _ _ _ _ (heap_alloc_new w _)]
    rfl)
  have hsz : (w.alloc (.cells #[.int .u8 ai, .int .u8 ci] 22)).heap.size = w.heap.size + 1 := by simp
  generalize w.alloc (.cells #[.int .u8 ai, .int .u8 ci] 22) = W at *
  have HS := Lib.hid hsz
  rw [hsz] at c1 b1
  have C1 := Lib.hid c1
  have B1 := Lib.hid b1
  clear c1 b1 qm hsz
  go_wp2_with fail
  go_loopw [7, 8] (fun v q wr => ∃ (j : Nat) (u : Value) (O : List Nat) (L : PL), j ≤ l.length ∧ O.length ≤ j ∧ u = v ∧ q = .int .i64 j ∧ Hid (CS (w.heap.size + 1) wr cb db y (zeros n) m L u.ownBlock.toList j) ∧ Hid (wr.ownsRow (w.heap.size + 1) 3 1 u O.length (natVs O)) ∧ Hid (LastInv n m L O) ∧ Hid (Below (w.heap.size + 1) W wr)) (fun _ q _ => l.length - (intOf q).toNat)
  case atStart => exact ⟨0, _, [], [], by omega, by simp, rfl, rfl, C1, Lib.hid (World.ownsRow_nil _ _ _ _), Lib.hid ⟨(fun _ h => nomatch h), (by simp), List.Pairwise.nil, (fun _ h => nomatch h)⟩, B1⟩
  case round =>
    obtain ⟨j, v, O, L, hj, hOj, rfl, rfl, hC, hO, hI, hB⟩ := hrel
    by_cases hlt : j < l.length
    · have hbW : Below W.heap.size W wr := by rw [HS.out]; exact hB.out
      obtain ⟨g, off, rfl, k1⟩ := (H0.out.below hbW).at j hlt
      have i0' : (0 : Int) ≤ (j : Int) := by omega
      have i1 : (j : Int) < (l.length : Int) := by omega
      obtain ⟨xb, hxb⟩ : ∃ xb, l.getD j 0 = xb := ⟨_, rfl⟩
      rw [hxb] at k1
      clear hxb
      have hxl := xb.toNat_lt
      obtain ⟨bb, hbb⟩ : ∃ bb, xb.toNat % n = bb := ⟨_, rfl⟩
      have hbn : bb < n := by rw [← hbb]; exact Nat.mod_lt _ (by omega)
      have htm : Int.tmod (wrap64 (xb.toNat : Int)) (n : Int) = (bb : Int) := by
        rw [show wrap64 (xb.toNat : Int) = (xb.toNat : Int) by unfold wrap64; omega, Int.tmod_eq_emod_of_nonneg (by omega), ← hbb]; omega
      have hn0 : ¬ ((n : Int) = 0) := by omega
      unfold bval at k1
      generalize (xb.toNat : Int) = xi at *
      clear hbb hxl
      have qb : Hid (∀ k, Calls Try.prog 10 #[.pointer (some ⟨db, 0, none⟩)] (wr.drewN k) fun e w' => e = .returned (.int .i64 n) ∧ w' = wr.drewN k) := Lib.hid (fun k => by
        have := blocks_any (hC.out.below (below_drewN (Below.refl _ _) k)).dev
        rw [hzk.out] at this
        exact this.mono (fun e w' h => ⟨h.1, h.2.symm⟩))
      obtain ⟨s, L2, hs, hI2⟩ := last_get (D := zeros n) hC.out.bufs (by rw [hzk.out]; exact hI.out) (by rw [hzk.out]; exact hbn) hm1
      rw [hzk.out] at hI2
      have HG : Hid (∀ k, Calls Try.prog 11 #[.pointer (some ⟨cb, 0, none⟩), .int .i64 bb] (wr.drewN k) fun e w' => e = .returned (.tuple #[.string s, .int .i64 0]) ∧ CS (w.heap.size + 1) w' cb db y (zeros n) m L2 v.ownBlock.toList (j + 1) ∧ Fr (w.heap.size + 1) v.ownBlock.toList (wr.drewN k) w') := Lib.hid (fun k => by
        have := cs_get (hC.out.below (below_drewN (Below.refl _ _) k)) (by omega) bb
        rw [hs] at this
        exact this)
      have HI2 := Lib.hid hI2
      have hb0 : (0 : Int) ≤ (bb : Int) := by omega
      clear hs hI2 hI hC hbW
      go_wp2_with fail
      go_quiet ((go_at_call 10; exact Calls.quiet_of_same (qb.out _)))
      go_wp2_with fail
      (with_reducible refine (HG.out _).mono ?_)
      rintro e w2 ⟨rfl, c2, f2⟩
      have hO2 := own_keep hO.out (w' := w2) (fun k hk => f2.block k (hO.out.lt k hk).2 (.inr (by simp [hk])))
      have hB2 := Lib.hid (fr_below (w0 := W) (below_drewN hB.out _) (by rw [HS.out]; exact Nat.le_refl _) f2)
      have C2 := Lib.hid c2
      have qw := Lib.hid (without_nat v O bb hO2 (by omega))
      have HO2 := Lib.hid hO2
      clear c2 f2 hB HG qb hO hO2
      go_wp2_with fail
      refine qw.out.mono ?_
      rintro e w3 ⟨v3, rfl, o3, b3⟩
      have HO3 := Lib.hid o3
      have HB3 := Lib.hid b3
      have hle := outOf_le O bb
      have hs3 := b3.size
      have hcE : Hid (outOf O bb ++ [bb] = outOf O bb ++ [bb]) := Lib.hid rfl
      generalize outOf O bb = Q at *
      have hone : ∀ u ∈ ([.int .i64 (bb : Int)] : List Value), u.oneCell' = true := by simp [Value.oneCell']
      clear qw o3 b3
      go_wp2_with (first
        | (at_builtin; refine wpList_append_own _ rfl _ _ 28 rfl w2.heap.size 3 i0 (.int .i64 0) 1 8 Try.underlying28 hi0 hz0 hz1 hz2 rfl (by decide) _ Q.length _ rfl (HO3.out.alloc _) ⟨w3.heap.size, 0, none⟩ 1 1 [.int .i64 bb] rfl rfl
            (World.news_of_block (heap_alloc_new _ _)) hone (by unfold maxLen; omega) (by omega) (by have := HB3.out.size; simp; omega) ?_))
      intro v4 w4 hown hgrow _
      have hW : Below w2.heap.size w2 w4 := (HB3.out.alloc HB3.out.size (.cells #[.int .i64 bb] 3)).grown hgrow (by have := HB3.out.size; simp; omega) (fun k hk => (HO3.out.lt k hk).1)
      have hb2 : w.heap.size + 1 ≤ w2.heap.size := by have := hB2.out.size; have := HS.out; omega
      have O4 : Hid (w4.ownsRow w2.heap.size 3 1 v4 (Q ++ [bb]).length (natVs (Q ++ [bb]))) := Lib.hid (by
        have e : natVs (Q ++ [bb]) = natVs Q ++ [.int .i64 (bb : Int)] := by simp [natVs]
        rw [e, List.length_append]; exact hown)
      have C4 := Lib.hid (C2.out.more (S := []) (Only.ofBelow hW) (fun _ h => nomatch h) v4.ownBlock.toList (fun k hk => by
        have := O4.out.lt k (by simpa using hk)
        exact ⟨this.2, .inr this.1⟩))
      have B4 := Lib.hid (hB2.out.trans (hW.mono hb2))
      have kc4 := Lib.hid ((B4.out.cell (p := ⟨w.heap.size, 1, none⟩) (by dsimp only; omega)).trans kc.out)
      have hlQ : (Q ++ [bb]).length ≤ j + 1 := by simp; omega
      clear hown hgrow C2 hB2 HO2 HO3 HB3 hW hone
      generalize Q ++ [bb] = O5 at *
      have O6 := Lib.hid (own_mono O4.out hb2)
      obtain ⟨ad4, cp4, rfl, _⟩ := own_opens O4.out
      have kc5 := kc4.out
      go_wp2_with fail
      obtain ⟨f, hf⟩ : ∃ f : Nat, O5.length - m = f := ⟨_, rfl⟩
      have hF : max 0 ((O5.length : Int) - 1 - ((m : Int) - 1)) = (f : Int) := by
        rw [← hf]
        omega
      rw [hF]
      have HH : Hid (∀ k : Nat, k < O5.length → ∃ (g2 off2 : Nat) (x : Int), ad4 = some ⟨g2, off2, none⟩ ∧ w4.cell? ⟨g2, off2 + k, none⟩ = some (.int .i64 x) ∧ Calls Try.prog 13 #[.pointer (some ⟨cb, 0, none⟩), .int .i64 x] w4 fun e w' => e = .returned (.bool (decide (f ≤ k))) ∧ w4 = w') := Lib.hid (fun k hk => by
        obtain ⟨g2, off2, e1, e2⟩ := intsIn_own O4.out k (by simpa using hk)
        have q := cs_has C4.out (O5.getD k 0 : Nat)
        rw [hzk.out, last_has HI2.out hk, hf] at q
        rw [natInts_at _ _ hk] at e2
        exact ⟨g2, off2, _, e1, e2, q⟩)
      clear hF hf kc5 hct
      go_loopw [13] (fun q wx => ∃ k : Nat, k ≤ O5.length ∧ q = .int .i64 k ∧ w4 = wx) (fun q _ => O5.length - (intOf q).toNat)
      case atStart => exact ⟨0, by omega, rfl, rfl⟩
      case round =>
        obtain ⟨k, hk, rfl, rfl⟩ := hrel
        by_cases hkl : k < O5.length
        · obtain ⟨g2, off2, x, rfl, kx, qh⟩ := HH.out k hkl
          have qh := Lib.hid qh
          have j0 : (0 : Int) ≤ (k : Int) := by omega
          have j1 : (k : Int) < (O5.length : Int) := by omega
          have j2 : k < O5.length := hkl
          by_cases hfk : f ≤ k
          · have hd : decide (f ≤ k) = true := by simp [hfk]
            rw [hd] at qh
            have hd2 : (f : Int) ≤ (k : Int) := by omega
            have hd3 : decide ((f : Int) ≤ (k : Int)) = true := by simp [hfk]
            clear hd
            go_wp2_with fail
            (with_reducible refine qh.out.mono ?_)
            rintro e w5 ⟨rfl, rfl⟩
            clear qh HH
            go_wp2_with fail
            go_roundw
            case rel => exact ⟨k + 1, by omega, by go_num, trivial⟩
            case measure => simp [intOf]; omega
          · have hd : decide (f ≤ k) = false := by simp [hfk]
            rw [hd] at qh
            have hd2 : ¬ (f : Int) ≤ (k : Int) := by omega
            have hd3 : decide ((f : Int) ≤ (k : Int)) = false := by simp [hfk]
            clear hd
            go_wp2_with fail
            (with_reducible refine qh.out.mono ?_)
            rintro e w5 ⟨rfl, rfl⟩
            clear qh HH
            go_wp2_with fail
            go_roundw
            case rel => exact ⟨k + 1, by omega, by go_num, trivial⟩
            case measure => simp [intOf]; omega
        · obtain rfl : k = O5.length := by omega
          clear HH
          go_wp2_with fail
          go_roundw
          case rel => exact ⟨j + 1, _, O5, L2, by omega, hlQ, rfl, by go_num, C4, O6, HI2, B4⟩
          case measure => simp [intOf]; omega
    · obtain rfl : j = l.length := by omega
      have qa := acts_any hC.out.dev
      rw [hza.out] at qa
      have qa := Lib.hid qa
      have qd := cs_dirty hC.out
      rw [last_dirty hI.out] at qd
      have qd := Lib.hid qd
      have hbW : w.heap.size ≤ wr.heap.size := by have := hB.out.size; have := HS.out; omega
      clear hI hO
      go_wp2_with fail
      (with_reducible refine qa.out.mono ?_)
      rintro e w5 ⟨rfl, rfl⟩
      clear qa
      go_wp2_with fail
      (with_reducible refine qd.out.mono ?_)
      rintro e w5 ⟨⟨u, rfl, hu⟩, b5⟩
      obtain ⟨ad5, c5, rfl, _⟩ := hu.form
      have B5 := Lib.hid b5
      clear qd b5 hu
      go_wp2_with fail
      (with_reducible refine (qal.out _).mono ?_)
      rintro e w6 ⟨rfl, b6⟩
      have B6 := Lib.hid (B5.out.trans (b6.mono B5.out.size))
      clear b6 B5
      go_wp2_with fail
      go_ret
      exact ⟨rfl, (B0.out.trans (hB.out.mono (by omega))).trans (B6.out.mono hbW)⟩

end Go.Proofs.Ytlickjaopbcanaa
