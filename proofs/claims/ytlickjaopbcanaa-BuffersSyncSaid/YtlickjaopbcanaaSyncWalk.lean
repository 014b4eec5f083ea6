/- BuffersSync: the walk. -/
import Derived.Test.YtlickjaopbcanaaSyncMath
import Derived.Test.YtlickjaopbcanaaInList
namespace Go.Proofs.Ytlickjaopbcanaa
open Go Go.RowKit Bufs
variable {w : World}

theorem HeadAt.fr {B B' : Nat} {E : List Nat} {w w' : World} {v : Value} {l : List Nat} (h : HeadAt w B' v l) (hf : Fr B E w w') (hE : ∀ k ∈ v.ownBlock.toList, k ∈ E) : HeadAt w' B' v l := by
  rcases h with h | ⟨g, c, cur, rfl, hg, hh, r⟩
  · exact .inl h
  · exact .inr ⟨g, c, cur, rfl, hg, by rw [hf.block g (lt_of_block hh) (.inr (hE g (by simp [Value.ownBlock])))]; exact hh, r⟩
theorem HeadAt.lt {B : Nat} {w : World} {v : Value} {l : List Nat} (h : HeadAt w B v l) : ∀ k ∈ v.ownBlock.toList, B ≤ k ∧ k < w.heap.size := by
  intro k hk
  rcases h with ⟨rfl, _⟩ | ⟨g, c, cur, rfl, hg, hh, r⟩
  · simp [Value.ownBlock] at hk
  · have : k = g := by simpa [Value.ownBlock] using hk
    subst this
    exact ⟨hg, lt_of_block hh⟩
theorem intsIn_ownI {B n : Nat} {T : TypeId} {ad : Option Addr} {cap : Nat} {l : List Int} (h : w.ownsRow B T 1 (.slice ad n cap) n (intVs l)) : IntsIn w ad l := by
  intro i hi
  have hn : l.length = n := by have := h.1; simpa [intVs] using this
  obtain ⟨g, c, e⟩ := own_some h (by omega)
  cases e
  refine ⟨g, 0, rfl, ?_⟩
  rw [Nat.zero_add]
  refine own_cellAt h ?_
  simp [intVs, List.getD, hi]

set_option maxRecDepth 100000 in
set_option maxHeartbeats 8000000 in
theorem BuffersSync_walk (a c : UInt8) (ad : Option Addr) (cap : Nat) (l : List ActC) (b : Int) (h : ActsIn w ad cap l) (hbb : -9223372036854775808 ≤ b ∧ b ≤ 9223372036854775807) : Calls Try.prog 7 #[.agg #[bval a, bval c], .slice ad l.length cap, .int .i64 b] w fun e w' => e = .returned (.bool true) ∧ Below w.heap.size w w' := by
  have hcap := h.len
  have qal := Lib.hid alive_any
  have qm := Lib.hid (made_cache a c)
  have hm1 : 1 ≤ sizeOf1 c ∧ sizeOf1 c ≤ 8 := by unfold sizeOf1; omega
  have hn : 1 ≤ sizeOf0 a ∧ sizeOf0 a ≤ 16 := by unfold sizeOf0; omega
  have hzk : Hid ((zeros (sizeOf0 a)).kept.length = sizeOf0 a) := Lib.hid (by simp [zeros, Dev.fresh])
  have hzn : Hid ((zeros (sizeOf0 a)).now = List.replicate (sizeOf0 a) (blk 0)) := Lib.hid rfl
  generalize sizeOf0 a = n at *
  generalize sizeOf1 c = m at *
  unfold bval at *
  generalize (a.toNat : Int) = ai at *
  generalize (c.toNat : Int) = ci at *
  have b0' : Below w.heap.size w (w.alloc (.cells #[.int .u8 ai, .int .u8 ci] 22)) := (Below.refl _ _).alloc (Nat.le_refl _) _
  have hg := Lib.hid (great_any ad cap l (h.below b0'))
  have H0 := Lib.hid (h.below b0')
  have kc : Hid (∀ wx, Below (w.heap.size + 1) (w.alloc (.cells #[.int .u8 ai, .int .u8 ci] 22)) wx → wx.cell? ⟨w.heap.size, 0, none⟩ = some (.int .u8 ai) ∧ wx.cell? ⟨w.heap.size, 1, none⟩ = some (.int .u8 ci)) := Lib.hid (fun wx hb => by
    have e : ∀ k, wx.cell? ⟨w.heap.size, k, none⟩ = _ := fun k => (hb.cell (p := ⟨w.heap.size, k, none⟩) (by dsimp only; omega)).trans (cell_of_row _ _ _ _ _ _ (heap_alloc_new w _))
    exact ⟨(e 0).trans rfl, (e 1).trans rfl⟩)
  have hsz : Hid ((w.alloc (.cells #[.int .u8 ai, .int .u8 ci] 22)).heap.size = w.heap.size + 1) := Lib.hid (by simp)
  have B0 := Lib.hid b0'
  clear h b0'
  go_enter Try.func7, Try.ntmps7
  go_wp2_with fail
  refine hg.out.mono ?_
  generalize w.alloc (.cells #[.int .u8 ai, .int .u8 ci] 22) = W at *
  rintro e w1 ⟨gb, rfl, b1, hgt⟩
  have H1 := Lib.hid (H0.out.below b1)
  have B1 := Lib.hid (B0.out.trans (b1.mono B0.out.size))
  obtain ⟨k0, k1⟩ := kc.out w1 (by have := b1; rw [hsz.out] at this; exact this)
  clear hg H0 kc B0 hsz b1
  cases gb
  case true =>
    go_wp2_with fail
    go_ret
    exact ⟨rfl, B1.out⟩
  have hl150 : l.length ≤ 150 := hgt.out rfl
  clear hgt
  go_wp2_with fail
  refine (qm.out _).mono ?_
  rintro e w2 ⟨db, cb, y, rfl, c2, b2⟩
  have C2 := Lib.hid (c2.mono (k' := 6000 * 0) (by omega))
  have B2 := Lib.hid b2
  have I2 : Hid (CleanInv n (zeros n) []) := Lib.hid ⟨List.replicate n (blk 0), hzk.out, by rw [hzn.out]; simp, List.Pairwise.nil, (fun _ h => nomatch h), by simp, (fun _ h => nomatch h), fun b _ _ => by rw [hzn.out]⟩
  have K2 : Hid ((zeros n).kept.length = n) := hzk
  clear c2 b2 qm k0 k1
  go_wp2_with fail
  go_loopw [9] (fun q wr => ∃ (i : Nat) (D : Dev) (L : PL), i ≤ l.length ∧ q = .int .i64 i ∧ Hid (CS w1.heap.size wr cb db y D m L [] (6000 * i)) ∧ Hid (CleanInv n D L) ∧ Hid (Below w1.heap.size w1 wr)) (fun q _ => l.length - (intOf q).toNat)
  case atStart => exact ⟨0, _, _, by omega, rfl, C2, I2, B2⟩
  case round =>
    obtain ⟨i, D, L, hi, rfl, hC, hI, hB⟩ := hrel
    by_cases hil : i < l.length
    · have i0 : (0 : Int) ≤ (i : Int) := by omega
      have i1 : (i : Int) < (l.length : Int) := by omega
      obtain ⟨ga, off, rfl, c0, c1, c2, c3, c4, c5⟩ := (H1.out.below hB.out).at i hil
      have hok := H1.out.okAt i hil
      generalize l.getD i default = x at *
      obtain ⟨r, hr⟩ : ∃ r, x.kind.toNat % 13 = r := ⟨_, rfl⟩
      have hr13 : r < 13 := by omega
      have hkz := x.kind.toNat_lt
      have htm : Int.tmod (x.kind.toNat : Int) 13 = ((r : Nat) : Int) := by rw [Int.tmod_eq_emod_of_nonneg (by omega)]; omega
      have hS : doesS D L m x = doesR r D L m x := by unfold doesS; rw [hr]
      have HD := does_any hC.out (by omega) x hok
      rw [hS] at HD
      have hM := hI.out.does m r x
      clear hS hr hkz hok
      obtain ⟨kind, xb, xn, fill, pin, data⟩ := x
      dsimp only [actCells] at c0 c1 c2 c3 c4 c5 htm HD hM
      unfold bval at c0 c3 HD
      generalize doesR r D L m ⟨kind, xb, xn, fill, pin, data⟩ = Z at *
      generalize (kind.toNat : Int) = kz at *
      generalize (fill.toNat : Int) = fz at *
      have q := Lib.hid HD
      have HM := Lib.hid hM
      clear HD hM
      by_cases h12 : r = 12
      · have s12 : ((r : Int) != 12) = false := by simp; omega
        have s12a : (r : Int) = 12 := by omega
        have HSK := Lib.hid (hC.out.mono (k' := 6000 * (i + 1)) (by omega))
        clear q HM hC h12
        go_wp2_with fail
        go_roundw
        case rel => exact ⟨i + 1, D, L, by omega, by go_num, HSK, hI, hB⟩
        case measure => simp [intOf]; omega
      · have s12 : ((r : Int) != 12) = true := by rw [bne_iff_ne]; omega
        have s12a : ¬ (r : Int) = 12 := by omega
        have MI := Lib.hid (HM.out (by omega))
        clear HM hI h12
        go_wp2_with fail
        (with_reducible refine q.out.mono ?_)
        rintro e w5 ⟨rfl, d1, d2⟩
        have E1 := Lib.hid (d1.mono (k' := 6000 * (i + 1)) (by omega))
        have E3 := Lib.hid (fr_below hB.out (Nat.le_refl _) d2)
        clear q d1 d2 hC hB
        go_wp2_with fail
        go_roundw
        case rel => exact ⟨i + 1, _, _, by omega, by go_num, E1, MI, E3⟩
        case measure => simp [intOf]; omega
    · obtain rfl : i = l.length := by omega
      have q := Lib.hid (cs_arm hC.out (-1) (by omega))
      clear C2 B2 I2
      go_wp2_with fail
      (with_reducible refine q.out.mono ?_)
      rintro e w3 ⟨rfl, c3, f3⟩
      have C3 := Lib.hid c3
      have B3 := Lib.hid (fr_below hB.out (Nat.le_refl _) f3)
      have I3 : Hid (CleanInv n (D.arm (-1)) L) := Lib.hid (by obtain ⟨want, hw⟩ := hI.out; exact ⟨want, hw.dev rfl rfl⟩)
      have harm : Hid ((D.arm (-1)).armed = false) := Lib.hid rfl
      have hkl : Hid ((D.arm (-1)).kept.length = n) := Lib.hid (by obtain ⟨want, hw⟩ := I3.out; exact hw.klen)
      clear q c3 f3 hC hB hI
      generalize D.arm (-1) = D at *
      have qa := Lib.hid (acts_any C3.out.dev)
      have qd := cs_dirty C3.out
      rw [hkl.out] at qd
      have qd := Lib.hid qd
      have hac := C3.out.ok.acts
      have hac0 := C3.out.dev.acts
      go_wp2_with fail
      (with_reducible refine qa.out.mono ?_)
      rintro e w4 ⟨rfl, rfl⟩
      clear qa
      go_wp2_with fail
      (with_reducible refine qd.out.mono ?_)
      rintro e w4 ⟨⟨v1, rfl, h1⟩, b4⟩
      have C4 := Lib.hid (C3.out.below b4)
      have B4 := Lib.hid (B3.out.trans (b4.mono B3.out.size))
      have L1 := Lib.hid h1
      have qp := cs_pinned C4.out
      rw [hkl.out] at qp
      have qp := Lib.hid qp
      clear qd h1 b4 C3 B3
      go_wp2_with fail
      (with_reducible refine qp.out.mono ?_)
      rintro e w5 ⟨⟨v2, rfl, h2⟩, b5⟩
      have C5 := Lib.hid (C4.out.more (S := []) (Only.ofBelow b5) (fun _ h => nomatch h) v2.ownBlock.toList (fun k hk => ⟨(h2.lt k hk).2, .inr (h2.lt k hk).1⟩))
      have B5 := Lib.hid (B4.out.trans (b5.mono B4.out.size))
      have L2 := Lib.hid h2
      have L1 := Lib.hid (L1.out.below b5)
      obtain ⟨ad1, cp1, rfl, hi1⟩ := L1.out.form
      have J1 := Lib.hid hi1
      have hdl := blocksOf_length L PB.dirty n
      have hpl : (blocksOf L PB.pinned n).length ≤ 5000 := by have := blocksOf_length L PB.pinned n; omega
      have HCN := Lib.hid (cntN_all L n)
      have HPD : Hid (∀ b, b ∈ blocksOf (L.map (wash 0 n)) PB.dirty n → b ∈ blocksOf L PB.pinned n) := Lib.hid (fun b => washed_dirty (by rw [← hkl.out]; exact C5.out.bufs.lt))
      have HPP : Hid (∀ c, ((Bufs.get (L.map (wash 0 n)) c).map PB.pinned).getD false = ((Bufs.get L c).map PB.pinned).getD false) := Lib.hid (fun c => washed_pinned (by rw [← hkl.out]; exact C5.out.bufs.lt) c)
      have HPL : Hid (blocksOf L PB.pinned n = blocksOf L PB.pinned n) := Lib.hid rfl
      obtain ⟨dl, hdle⟩ : ∃ dl, blocksOf L PB.dirty n = dl := ⟨_, rfl⟩
      obtain ⟨pl, hple⟩ : ∃ pl, blocksOf L PB.pinned n = pl := ⟨_, rfl⟩
      rw [hdle] at L1 J1 hdl HCN
      rw [hple] at L2 hpl HCN HPD
      have HPL : Hid (blocksOf L PB.pinned n = pl) := Lib.hid hple
      rw [hdle]
      clear qp h2 b5 hi1 C4 B4 hdle hple
      have ms : Hid (∀ k, cntN dl pl (k + 1) = cntN dl pl k + if decide ((dl.getD k 0 : Int) ∈ pl.map fun (n : Nat) => (n : Int)) then 0 else 1) := Lib.hid (fun k => rfl)
      have ml := Lib.hid (cntN_le dl pl)
      have m0 : Hid (cntN dl pl 0 = 0) := Lib.hid rfl
      have hda : D.acts ≤ 1000000 ∧ 0 ≤ D.acts := by omega
      clear hac hac0
      obtain ⟨da, hda2⟩ : ∃ da, D.acts = da := ⟨_, rfl⟩
      rw [hda2] at hda
      rw [hda2]
      have HDA := Lib.hid hda2
      clear hda2
      go_wp2_with fail
      go_loopw [11, 14] (fun u q wx => ∃ j : Nat, j ≤ dl.length ∧ u = .int .i64 (cntN dl pl j) ∧ q = .int .i64 j ∧ w5 = wx) (fun _ q _ => dl.length - (intOf q).toNat)
      case atStart => exact ⟨0, by omega, by rw [m0.out]; rfl, rfl, rfl⟩
      case round =>
        obtain ⟨j, hj, rfl, rfl, rfl⟩ := hrel
        have hmj := ml.out j
        by_cases hjl : j < dl.length
        · obtain ⟨g1, o1, rfl, k1⟩ := J1.out j (by simpa using hjl)
          rw [natInts_at _ _ hjl] at k1
          have i0 : (0 : Int) ≤ (j : Int) := by omega
          have j1 : (j : Int) < (dl.length : Int) := by omega
          have qi := in_head L2.out hpl (dl.getD j 0 : Int)
          have hms := ms.out j
          generalize decide ((dl.getD j 0 : Int) ∈ pl.map fun (n : Nat) => (n : Int)) = dd at *
          generalize ((dl.getD j 0 : Nat) : Int) = bj at *
          have qi := Lib.hid qi
          have HMS := Lib.hid hms
          clear hms
          generalize cntN dl pl j = mk at *
          cases dd
          · have hms2 : Hid (cntN dl pl (j + 1) = mk + 1) := Lib.hid (by rw [HMS.out]; simp)
            clear HMS ms
            go_wp2_with fail
            (with_reducible refine qi.out.mono ?_)
            rintro e w6 ⟨rfl, rfl⟩
            clear qi
            go_wp2_with fail
            go_roundw
            case rel => exact ⟨j + 1, by omega, by rw [hms2.out]; go_num, by go_num, trivial⟩
            case measure => simp [intOf]; omega
          · have hms2 : Hid (cntN dl pl (j + 1) = mk) := Lib.hid (by rw [HMS.out]; simp)
            clear HMS ms
            go_wp2_with fail
            (with_reducible refine qi.out.mono ?_)
            rintro e w6 ⟨rfl, rfl⟩
            clear qi
            go_wp2_with fail
            go_roundw
            case rel => exact ⟨j + 1, by omega, by rw [hms2.out], by go_num, trivial⟩
            case measure => simp [intOf]; omega
        · obtain rfl : j = dl.length := by omega
          have hW := washed n 0 D L C5.out.bufs harm.out (by rw [hkl.out]; omega)
          have q := cs_sync C5.out (by omega)
          rw [hkl.out] at q
          have I6 : CleanInv n (syncN n 0 D L).2.1 (syncN n 0 D L).2.2 := by obtain ⟨want, hw⟩ := I3.out; exact ⟨want, ReadInv.sync _ _ _ _ hw⟩
          obtain ⟨w1', w2', w3', w4'⟩ := hW
          rw [HDA.out, ← HCN.out] at w2'
          rw [← w4'] at HPD HPP
          generalize syncN n 0 D L = R at *
          obtain ⟨R1, D2, LL⟩ := R
          dsimp only at q I6 w1' w2' w3' HPD HPP
          subst w1'
          have q := Lib.hid q
          have I6 := Lib.hid I6
          have hk2 : Hid (D2.kept.length = n) := Lib.hid (by obtain ⟨want, hw⟩ := I6.out; exact hw.klen)
          have HA2 := Lib.hid w2'
          clear w2' w3' w4' ms m0 ml HCN I3 harm
          generalize cntN dl pl dl.length = cn at *
          go_wp2_with fail
          (with_reducible refine q.out.mono ?_)
          rintro e w6 ⟨rfl, c6, f6⟩
          have C6 := Lib.hid c6
          have B6 := Lib.hid (fr_below B5.out (Nat.le_refl _) f6)
          have L6 := Lib.hid (L2.out.fr f6 (fun _ hk => hk))
          have qa := acts_any c6.dev
          rw [HA2.out] at qa
          have qa := Lib.hid qa
          have qd := cs_dirty c6
          rw [hk2.out] at qd
          have qd := Lib.hid qd
          clear q c6 f6 C5 B5 L2 L1 J1
          go_wp2_with fail
          (with_reducible refine qa.out.mono ?_)
          rintro e w7 ⟨rfl, rfl⟩
          clear qa
          go_wp2_with fail
          (with_reducible refine qd.out.mono ?_)
          rintro e w7 ⟨⟨v3, rfl, h3⟩, b7⟩
          have L7 := Lib.hid (L6.out.below b7)
          have M7 := Lib.hid h3
          have C7 := Lib.hid ((C6.out.more (S := []) (Only.ofBelow b7) (fun _ h => nomatch h) (v3.ownBlock.toList ++ v2.ownBlock.toList) (fun k hk => by
            rcases List.mem_append.1 hk with h | h
            · exact ⟨(h3.lt k h).2, .inr (h3.lt k h).1⟩
            · exact ⟨Nat.lt_of_lt_of_le (C6.out.elt k h) b7.size, .inl h⟩)).mono (k' := 6000 * l.length + 5000 + 0) (by omega))
          have B7 := Lib.hid (B6.out.trans (b7.mono B6.out.size))
          obtain ⟨ad3, cp3, rfl, hi3⟩ := M7.out.form
          have J3 := Lib.hid hi3
          have hdl3 := blocksOf_length LL PB.dirty n
          have hdl5 : (blocksOf LL PB.dirty n).length ≤ 5000 := by omega
          have HBD : Hid (∀ k, k < n → decide ((k : Int) ∈ (blocksOf LL PB.dirty n).map fun (n : Nat) => (n : Int)) = ((Bufs.get LL k).map PB.dirty).getD false) := Lib.hid (fun k hk => by
            rw [Bool.eq_iff_iff, decide_eq_true_iff]
            exact blocks_mem LL PB.dirty n k hk)
          clear qd h3 b7 C6 B6 L6 hi3
          generalize blocksOf LL PB.dirty n = dl3 at *
          go_wp2_with fail
          go_loopw [15] (fun q wx => ∃ j : Nat, j ≤ dl3.length ∧ q = .int .i64 j ∧ w7 = wx) (fun q _ => dl3.length - (intOf q).toNat)
          case atStart => exact ⟨0, by omega, rfl, rfl⟩
          case round =>
            obtain ⟨j, hj, rfl, rfl⟩ := hrel
            by_cases hjl : j < dl3.length
            · obtain ⟨g1, o1, rfl, k1⟩ := J3.out j (by simpa using hjl)
              rw [natInts_at _ _ hjl] at k1
              have i0 : (0 : Int) ≤ (j : Int) := by omega
              have j1 : (j : Int) < (dl3.length : Int) := by omega
              have qi := in_head L7.out hpl (dl3.getD j 0 : Int)
              rw [decide_eq_true ((int_mem pl _).2 (HPD.out _ (by
                have : dl3.getD j 0 = dl3[j] := by simp [List.getD, hjl]
                rw [this]; exact List.getElem_mem hjl)))] at qi
              generalize ((dl3.getD j 0 : Nat) : Int) = bj at *
              have qi := Lib.hid qi
              go_wp2_with fail
              (with_reducible refine qi.out.mono ?_)
              rintro e w8 ⟨rfl, rfl⟩
              clear qi
              go_wp2_with fail
              go_roundw
              case rel => exact ⟨j + 1, by omega, by go_num, trivial⟩
              case measure => simp [intOf]; omega
            · obtain rfl : j = dl3.length := by omega
              clear HPD J3
              go_wp2_with fail
              go_loopw [16] (fun q wx => ∃ (k : Nat) (Lk : PL), k ≤ n ∧ q = .int .i64 k ∧ Hid (CS w1.heap.size wx cb db y D2 m Lk ((Value.slice ad3 dl3.length cp3).ownBlock.toList ++ v2.ownBlock.toList) (6000 * l.length + 5000 + k)) ∧ Hid (∀ c, Bufs.get Lk c = Bufs.get LL c) ∧ Hid (HeadAt wx w6.heap.size (.slice ad3 dl3.length cp3) dl3) ∧ Hid (HeadAt wx w4.heap.size v2 pl) ∧ Hid (Below w1.heap.size w1 wx)) (fun q _ => n - (intOf q).toNat)
              case atStart => exact ⟨0, LL, by omega, rfl, C7, Lib.hid (fun _ => rfl), M7, L7, B7⟩
              case round =>
                obtain ⟨k, Lk, hk, rfl, hC, hE, hM, hL, hB⟩ := hrel
                have qb := blocks_any hC.out.dev
                rw [hk2.out] at qb
                have qb := Lib.hid qb
                by_cases hkn : k < n
                · have j1 : (k : Int) < (n : Int) := by omega
                  have qh := cs_has hC.out (k : Int)
                  rw [hk2.out, has_some Lk n k hkn] at qh
                  have HSK := Lib.hid (hC.out.mono (k' := 6000 * l.length + 5000 + (k + 1)) (by omega))
                  have hbd := HBD.out k hkn
                  cases hg : Bufs.get Lk k with
                  | none =>
                    rw [hg] at qh
                    have qh : Hid (Calls Try.prog 13 #[.pointer (some ⟨cb, 0, none⟩), .int .i64 (k : Int)] wr fun e w' => e = .returned (.bool false) ∧ wr = w') := Lib.hid qh
                    clear hg hbd hC
                    go_wp2_with fail
                    (with_reducible refine qb.out.mono ?_)
                    rintro e w8 ⟨rfl, rfl⟩
                    clear qb
                    go_wp2_with fail
                    (with_reducible refine qh.out.mono ?_)
                    rintro e w8 ⟨rfl, rfl⟩
                    clear qh
                    go_wp2_with fail
                    go_roundw
                    case rel => exact ⟨k + 1, Lk, by omega, by go_num, HSK, hE, hM, hL, hB⟩
                    case measure => simp [intOf]; omega
                  | some x =>
                    rw [hg] at qh
                    have qh : Hid (Calls Try.prog 13 #[.pointer (some ⟨cb, 0, none⟩), .int .i64 (k : Int)] wr fun e w' => e = .returned (.bool true) ∧ wr = w') := Lib.hid qh
                    have hgL : Bufs.get LL k = some x := by rw [← hE.out]; exact hg
                    have qi := in_head hM.out hdl5 (k : Int)
                    rw [hbd, hgL] at qi
                    have qi : Calls Try.prog 29 #[.slice ad3 dl3.length cp3, .int .i64 (k : Int)] wr fun e w' => e = .returned (.bool x.dirty) ∧ wr = w' := qi
                    cases hxd : x.dirty
                    · rw [hxd] at qi
                      have qi := Lib.hid qi
                      obtain ⟨ga1, ga2⟩ := get_again (D := D2) (most := m) (by rw [hk2.out]; exact hkn) hg
                      have qg := cs_get hC.out (by omega) (k : Int)
                      rw [ga1] at qg
                      have qg := Lib.hid qg
                      have hE2 : Hid (∀ c, Bufs.get (but Lk k ++ [x]) c = Bufs.get LL c) := Lib.hid (fun c => (ga2 c).trans (hE.out c))
                      have hnow : Hid (D2.readS (k : Int) = x.data ∧ D2.ask (k : Int) = 0) := Lib.hid (by
                        obtain ⟨want, hw⟩ := I6.out
                        obtain ⟨hx, hxb⟩ := get_some hgL
                        constructor
                        · unfold Dev.readS
                          rw [hk2.out, if_neg (by omega), Int.toNat_natCast, ← hxb]
                          exact (hw.has x hx).2 hxd
                        · unfold Dev.ask
                          rw [hk2.out, if_neg (by omega)])
                      clear hg hgL hbd hC HSK ga1 ga2 hxd hE
                      generalize x.data = S at *
                      generalize but Lk k ++ [x] = Lk2 at *
                      go_wp2_with fail
                      (with_reducible refine qb.out.mono ?_)
                      rintro e w8 ⟨rfl, rfl⟩
                      clear qb
                      go_wp2_with fail
                      (with_reducible refine qh.out.mono ?_)
                      rintro e w8 ⟨rfl, rfl⟩
                      clear qh
                      go_wp2_with fail
                      (with_reducible refine qi.out.mono ?_)
                      rintro e w8 ⟨rfl, rfl⟩
                      clear qi
                      go_wp2_with fail
                      (with_reducible refine qg.out.mono ?_)
                      rintro e w8 ⟨rfl, c8, f8⟩
                      have C8 := Lib.hid c8
                      have M8 := Lib.hid (hM.out.fr f8 (fun k hk => List.mem_append.2 (.inl hk)))
                      have L8 := Lib.hid (hL.out.fr f8 (fun k hk => List.mem_append.2 (.inr hk)))
                      have B8 := Lib.hid (fr_below hB.out (Nat.le_refl _) f8)
                      have qr := read_any c8.dev (k : Int)
                      rw [hnow.out.1, hnow.out.2] at qr
                      have qr := Lib.hid qr
                      clear qg c8 f8 hM hL hB
                      go_wp2_with fail
                      (with_reducible refine qr.out.mono ?_)
                      rintro e w9 ⟨rfl, rfl⟩
                      clear qr
                      go_wp2_with fail
                      go_roundw
                      case rel => exact ⟨k + 1, _, by omega, by go_num, C8, hE2, M8, L8, B8⟩
                      case measure => simp [intOf]; omega
                    · rw [hxd] at qi
                      have qi := Lib.hid qi
                      clear hg hgL hbd hC hxd
                      go_wp2_with fail
                      (with_reducible refine qb.out.mono ?_)
                      rintro e w8 ⟨rfl, rfl⟩
                      clear qb
                      go_wp2_with fail
                      (with_reducible refine qh.out.mono ?_)
                      rintro e w8 ⟨rfl, rfl⟩
                      clear qh
                      go_wp2_with fail
                      (with_reducible refine qi.out.mono ?_)
                      rintro e w8 ⟨rfl, rfl⟩
                      clear qi
                      go_wp2_with fail
                      go_roundw
                      case rel => exact ⟨k + 1, Lk, by omega, by go_num, HSK, hE, hM, hL, hB⟩
                      case measure => simp [intOf]; omega
                · obtain rfl : k = n := by omega
                  have qf := Lib.hid (cs_forget hC.out b)
                  have hF1 := forget_has D2 Lk b
                  have hF2 := forget_not D2 Lk b PB.dirty
                  have hF3 := forget_not D2 Lk b PB.pinned
                  have hF4 := forget_pinned D2 Lk L b (fun c => by rw [hE.out]; exact HPP.out c)
                  rw [hk2.out] at hF1 hF2 hF3 hF4
                  rw [HPL.out] at hF4
                  have F1 := Lib.hid hF1; have F2 := Lib.hid hF2; have F3 := Lib.hid hF3; have F4 := Lib.hid hF4
                  clear hF1 hF2 hF3 hF4 hE HPP HPL
                  generalize forgetS D2 Lk b = LF at *
                  go_wp2_with fail
                  (with_reducible refine qb.out.mono ?_)
                  rintro e w8 ⟨rfl, rfl⟩
                  clear qb
                  go_wp2_with fail
                  (with_reducible refine qf.out.mono ?_)
                  rintro e w9 ⟨rfl, c9, f9⟩
                  have C9 := Lib.hid c9
                  have B9 := Lib.hid (fr_below hB.out (Nat.le_refl _) f9)
                  have L9 := Lib.hid (hL.out.fr f9 (fun k hk => List.mem_append.2 (.inr (List.mem_append.2 (.inr hk)))))
                  have qh := cs_has c9 b
                  rw [hk2.out, F1.out] at qh
                  have qh := Lib.hid qh
                  have qd := cs_dirty c9
                  rw [hk2.out] at qd
                  have qd := Lib.hid qd
                  clear qf c9 f9 hC hB hL hM
                  go_wp2_with fail
                  (with_reducible refine qh.out.mono ?_)
                  rintro e w10 ⟨rfl, rfl⟩
                  clear qh
                  go_wp2_with fail
                  (with_reducible refine qd.out.mono ?_)
                  rintro e w10 ⟨⟨v4, rfl, h4⟩, b10⟩
                  have qi := in_head h4 (by have := blocksOf_length LF PB.dirty k; omega) b
                  rw [decide_eq_false F2.out] at qi
                  have qi := Lib.hid qi
                  have C10 := Lib.hid (C9.out.below b10)
                  have L10 := Lib.hid (L9.out.below b10)
                  have B10 := Lib.hid (B9.out.trans (b10.mono B9.out.size))
                  have qp := cs_pinned C10.out
                  rw [hk2.out] at qp
                  have qp := Lib.hid qp
                  clear qd h4 b10 C9 L9 B9
                  go_wp2_with fail
                  (with_reducible refine qi.out.mono ?_)
                  rintro e w11 ⟨rfl, rfl⟩
                  clear qi
                  go_wp2_with fail
                  (with_reducible refine qp.out.mono ?_)
                  rintro e w11 ⟨⟨v5, rfl, h5⟩, b11⟩
                  have qi := in_head h5 (by have := blocksOf_length LF PB.pinned k; omega) b
                  rw [decide_eq_false F3.out] at qi
                  have qi := Lib.hid qi
                  have C11 := Lib.hid (C10.out.below b11)
                  have L11 := L10.out.below b11
                  have B11 := Lib.hid (B10.out.trans (b11.mono B10.out.size))
                  obtain ⟨ad2, cp2, rfl, hi2⟩ := L11.form
                  have qw := without_any ad2 cp2 _ b hi2 (by rw [List.length_map]; omega)
                  rw [F4.out, List.length_map] at qw
                  have qw := Lib.hid qw
                  clear qp h5 b11 C10 L10 B10 L11 hi2
                  go_wp2_with fail
                  (with_reducible refine qi.out.mono ?_)
                  rintro e w12 ⟨rfl, rfl⟩
                  clear qi
                  go_wp2_with fail
                  (with_reducible refine qw.out.mono ?_)
                  rintro e w12 ⟨v6, rfl, h6, b12⟩
                  have C12 := Lib.hid (C11.out.below b12)
                  have B12 := Lib.hid (B11.out.trans (b12.mono B11.out.size))
                  obtain ⟨ad6, cp6, rfl, _⟩ := own_opens h6
                  have J6 := Lib.hid (intsIn_ownI h6)
                  have qp := cs_pinned C12.out
                  rw [hk2.out] at qp
                  have qp := Lib.hid qp
                  clear qw h6 b12 C11 B11
                  go_wp2_with fail
                  (with_reducible refine qp.out.mono ?_)
                  rintro e w13 ⟨⟨v7, rfl, h7⟩, b13⟩
                  obtain ⟨ad7, cp7, rfl, hi7⟩ := h7.form
                  have J7 := J6.out.below b13
                  have B13 := Lib.hid (B12.out.trans (b13.mono B12.out.size))
                  have qs := sameInts_any ad6 ad7 cp6 cp7 _ _ J7 hi7 (by rw [List.length_map]; have := blocksOf_length LF PB.pinned k; omega) (by rw [List.length_map]; have := blocksOf_length LF PB.pinned k; omega)
                  rw [decide_eq_true rfl, List.length_map] at qs
                  have qs := Lib.hid qs
                  clear qp h7 b13 C12 B12 J6 J7 hi7
                  go_wp2_with fail
                  (with_reducible refine qs.out.mono ?_)
                  rintro e w14 ⟨rfl, b14⟩
                  have B14 := Lib.hid (B13.out.trans (b14.mono B13.out.size))
                  clear qs b14
                  go_wp2_with fail
                  (with_reducible refine (qal.out _).mono ?_)
                  rintro e w15 ⟨rfl, b15⟩
                  have B15 := Lib.hid (B14.out.trans (b15.mono B14.out.size))
                  clear b15
                  go_wp2_with fail
                  go_ret
                  exact ⟨rfl, B1.out.trans (B15.out.mono B1.out.size)⟩

end Go.Proofs.Ytlickjaopbcanaa
