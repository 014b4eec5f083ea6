/- BuffersPins: the walk. -/
import Derived.Test.YtlickjaopbcanaaPinsMath
import Derived.Test.YtlickjaopbcanaaInList
namespace Go.Proofs.Ytlickjaopbcanaa
open Go Go.RowKit Bufs
variable {w : World}

set_option maxRecDepth 100000 in
set_option maxHeartbeats 8000000 in
theorem BuffersPins_walk (a c : UInt8) (ad : Option Addr) (cap : Nat) (l : List ActC) (b0 : UInt8) (h : ActsIn w ad cap l) : Calls Try.prog 6 #[.agg #[bval a, bval c], .slice ad l.length cap, bval b0] w fun e w' => e = .returned (.bool true) ∧ Below w.heap.size w w' := by
  have hcap := h.len
  have qal := Lib.hid alive_any
  have qm := Lib.hid (made_cache a c)
  have hc0 := c.toNat_lt
  have hb0 := b0.toNat_lt
  have hm1 : 1 ≤ sizeOf1 c ∧ sizeOf1 c ≤ 8 := by unfold sizeOf1; omega
  have hn : 1 ≤ sizeOf0 a ∧ sizeOf0 a ≤ 16 := by unfold sizeOf0; omega
  have hzk : Hid ((zeros (sizeOf0 a)).kept.length = sizeOf0 a) := Lib.hid (by simp [zeros, Dev.fresh])
  have hct : Hid (wrap64 (1 + wrap64 (Int.tmod (c.toNat : Int) 8)) = (sizeOf1 c : Int)) := Lib.hid (by
    rw [Int.tmod_eq_emod_of_nonneg (by omega)]; unfold wrap64 sizeOf1; omega)
  generalize sizeOf0 a = n at *
  generalize sizeOf1 c = m at *
  obtain ⟨at0, hat0⟩ : ∃ at0, b0.toNat % n = at0 := ⟨_, rfl⟩
  have hatn : at0 < n := by rw [← hat0]; exact Nat.mod_lt _ (by omega)
  have htm0 : Int.tmod (wrap64 (b0.toNat : Int)) (n : Int) = (at0 : Int) := by
    rw [show wrap64 (b0.toNat : Int) = (b0.toNat : Int) by unfold wrap64; omega, Int.tmod_eq_emod_of_nonneg (by omega), ← hat0]; omega
  have hn0 : ¬ ((n : Int) = 0) := by omega
  unfold bval at *
  generalize (a.toNat : Int) = ai at *
  generalize (c.toNat : Int) = ci at *
  generalize (b0.toNat : Int) = bi at *
  have b0' : Below w.heap.size w (w.alloc (.cells #[.int .u8 ai, .int .u8 ci] 22)) := (Below.refl _ _).alloc (Nat.le_refl _) _
  have hg := Lib.hid (great_any ad cap l (h.below b0'))
  have H0 := Lib.hid (h.below b0')
  have kc : Hid (∀ wx, Below (w.heap.size + 1) (w.alloc (.cells #[.int .u8 ai, .int .u8 ci] 22)) wx → wx.cell? ⟨w.heap.size, 0, none⟩ = some (.int .u8 ai) ∧ wx.cell? ⟨w.heap.size, 1, none⟩ = some (.int .u8 ci)) := Lib.hid (fun wx hb => by
    have e : ∀ k, wx.cell? ⟨w.heap.size, k, none⟩ = _ := fun k => (hb.cell (p := ⟨w.heap.size, k, none⟩) (by dsimp only; omega)).trans (cell_of_row _ _ _ _ _ _ (heap_alloc_new w _))
    exact ⟨(e 0).trans rfl, (e 1).trans rfl⟩)
  have hsz : Hid ((w.alloc (.cells #[.int .u8 ai, .int .u8 ci] 22)).heap.size = w.heap.size + 1) := Lib.hid (by simp)
  have B0 := Lib.hid b0'
  clear h b0' hc0 hb0 hat0
  have HT0 := Lib.hid htm0
  clear htm0
  go_enter Try.func6, Try.ntmps6
  go_wp2_with fail
  refine hg.out.mono ?_
  generalize w.alloc (.cells #[.int .u8 ai, .int .u8 ci] 22) = W at *
  rintro e w1 ⟨gb, rfl, b1, hgt⟩
  have H1 := Lib.hid (H0.out.below b1)
  have B1 := Lib.hid (B0.out.trans (b1.mono B0.out.size))
  have hWs : W.heap.size ≤ w1.heap.size := b1.size
  have HX : w.heap.size < w1.heap.size := by have := hsz.out; omega
  obtain ⟨k0, k1⟩ := kc.out w1 (by have := b1; rw [hsz.out] at this; exact this)
  have K1 := Lib.hid k1
  clear hg H0 kc B0 hsz b1 hWs
  cases gb
  case true =>
    go_wp2_with fail
    go_ret
    exact ⟨rfl, B1.out⟩
  have hl150 : l.length ≤ 150 := hgt.out rfl
  clear hgt
  go_wp2_with fail
  refine (qm.out _).mono ?_
  rintro e w2 ⟨db, cb, y, rfl, c2, b2⟩
  have C2 := Lib.hid c2
  have B2 := Lib.hid b2
  have qb := blocks_any c2.dev
  rw [hzk.out] at qb
  have qb := Lib.hid qb
  have hf112 : Hid (∀ w, Calls Try.prog 21 #[.int .u8 112] w fun e w' => e = .returned (.string (blk 112)) ∧ Below w.heap.size w w') := Lib.hid (fun w => fill_any 112 w)
  have hf0 : Hid (∀ w, Calls Try.prog 21 #[.int .u8 0] w fun e w' => e = .returned (.string (blk 0)) ∧ Below w.heap.size w w') := Lib.hid (fun w => fill_any 0 w)
  have htm := HT0.out
  clear c2 b2 qm k0 k1
  go_wp2_with fail
  (with_reducible refine qb.out.mono ?_)
  rintro e w3 ⟨rfl, rfl⟩
  clear qb
  go_wp2_with fail
  refine (hf112.out _).mono ?_
  rintro e w3 ⟨rfl, b3⟩
  have C3 := C2.out.below b3
  have q := cs_put C3 (by omega) (at0 : Int) (blk 112) true
  rw [(PinInv.start n at0 m hatn hm1.1).1] at q
  have q := Lib.hid q
  have B3 := Lib.hid (B2.out.trans (b3.mono B2.out.size))
  clear C3 b3 C2 B2
  go_wp2_with fail
  (with_reducible refine q.out.mono ?_)
  rintro e w4 ⟨rfl, c4, f4⟩
  have C4 := Lib.hid c4
  have B4 := Lib.hid (fr_below B3.out (Nat.le_refl _) f4)
  clear q c4 f4 B3
  go_wp2_with fail
  refine (hf112.out _).mono ?_
  rintro e w5 ⟨rfl, b5⟩
  have C5 := Lib.hid ((C4.out.below b5).mono (k' := 1 + 6000 * 0) (by omega))
  have B5 := Lib.hid (B4.out.trans (b5.mono B4.out.size))
  have I5 := Lib.hid (PinInv.start n at0 m hatn hm1.1).2
  clear b5 C4 B4 hf112
  generalize blk 112 = S0 at *
  clear htm
  go_wp2_with fail
  go_loopw [10, 11] (fun u q wr => ∃ (i : Nat) (D : Dev) (L : PL) (S : ByteArray), i ≤ l.length ∧ u = .string S ∧ q = .int .i64 i ∧ Hid (CS w1.heap.size wr cb db y D m L [] (1 + 6000 * i)) ∧ Hid (PinInv n at0 D L S) ∧ Hid (Below w1.heap.size w1 wr)) (fun _ q _ => l.length - (intOf q).toNat)
  case atStart => exact ⟨0, _, _, _, by omega, rfl, rfl, C5, I5, B5⟩
  case round =>
    obtain ⟨i, D, L, S, hi, rfl, rfl, hC, hI, hB⟩ := hrel
    by_cases hil : i < l.length
    · have i0 : (0 : Int) ≤ (i : Int) := by omega
      have i1 : (i : Int) < (l.length : Int) := by omega
      obtain ⟨ga, off, rfl, c0, c1, c2, c3, c4, c5⟩ := (H1.out.below hB.out).at i hil
      have hok := H1.out.okAt i hil
      generalize l.getD i default = x at *
      obtain ⟨r, hr⟩ : ∃ r, x.kind.toNat % 13 = r := ⟨_, rfl⟩
      have hr13 : r < 13 := by omega
      have hkz := x.kind.toNat_lt
      have htm : Int.tmod (x.kind.toNat : Int) 13 = ((r : Nat) : Int) := by rw [Int.tmod_eq_emod_of_nonneg (by omega)]; omega
      have hS : doesS D L m x = doesR r D L m x := by unfold doesS; rw [hr]
      have HD := Lib.hid (fun E w' (h : CS w1.heap.size w' cb db y D m L E (1 + 6000 * i)) => does_any h (by omega) x hok)
      rw [hS] at HD
      have hM := hI.out.does m r hr13 x
      have hwhat := fun w => Lib.hid (what_any x w)
      clear hS hr hkz hok
      obtain ⟨kind, xb, xn, fill, pin, data⟩ := x
      dsimp only [actCells] at c0 c1 c2 c3 c4 c5 htm HD hM hwhat
      unfold bval at c0 c3 HD hwhat
      generalize (ActC.what ⟨kind, xb, xn, fill, pin, data⟩) = TT at *
      generalize doesR r D L m ⟨kind, xb, xn, fill, pin, data⟩ = Z at *
      generalize (kind.toNat : Int) = kz at *
      generalize (fill.toNat : Int) = fz at *
      have hat := ActAt.new wr kz xb xn fz pin data
      have cW := Lib.hid (hC.out.plus (.cells #[.int .u8 kz, .int .i64 xb, .int .i64 xn, .int .u8 fz, .bool pin, .string data] 57))
      have bW : Hid (Below w1.heap.size w1 (wr.alloc (.cells #[.int .u8 kz, .int .i64 xb, .int .i64 xn, .int .u8 fz, .bool pin, .string data] 57))) := Lib.hid (hB.out.alloc hB.out.size _)
      have HSK := Lib.hid ((cW.out.less (E' := []) (fun _ h => nomatch h)).mono (k' := 1 + 6000 * (i + 1)) (by omega))
      have q := Lib.hid (HD _ _ cW.out)
      obtain ⟨⟨s, e⟩, D2, L2⟩ := Z
      have HM := Lib.hid hM
      clear HD hC hB hM
      have STEP : Hid (∀ wy, CS w1.heap.size wy cb db y D2 m L2 (wr.heap.size :: []) (1 + 6000 * i + 6000) → Fr w1.heap.size (wr.heap.size :: []) (wr.alloc (.cells #[.int .u8 kz, .int .i64 xb, .int .i64 xn, .int .u8 fz, .bool pin, .string data] 57)) wy → CS w1.heap.size wy cb db y D2 m L2 [] (1 + 6000 * (i + 1)) ∧ Below w1.heap.size w1 wy ∧ ActAt wy wr.heap.size kz xb xn fz pin data) := Lib.hid (fun wy h1 h2 => ⟨(h1.less (fun j hj => List.mem_cons_of_mem _ hj)).mono (by omega), fr_below bW.out (Nat.le_refl _) h2, hat.fr h2⟩)
      have p3a : r < 3 ∨ 3 ≤ r := by omega
      by_cases hs6 : r = 6 ∧ xb = (at0 : Int)
      · obtain ⟨hs6, rfl⟩ := hs6
        have s6 : ((r : Int) == 6) = true := by rw [beq_iff_eq]; omega
        have s6a : (r : Int) = 6 := by omega
        clear q hwhat HM cW hat hs6 STEP 
        go_wp2_with fail
        go_roundw
        case rel => exact ⟨i + 1, D, L, S, by omega, rfl, by go_num, HSK, hI, bW⟩
        case measure => simp [intOf]; omega
      by_cases hs7 : r = 7 ∧ xb = (at0 : Int)
      · obtain ⟨hs7, rfl⟩ := hs7
        have s6 : ((r : Int) == 6) = false := by rw [beq_eq_false_iff_ne]; omega
        have s6a : ¬ (r : Int) = 6 := by omega
        have s7 : ((r : Int) == 7) = true := by rw [beq_iff_eq]; omega
        have s7a : (r : Int) = 7 := by omega
        clear q hwhat HM cW hat hs7 STEP 
        go_wp2_with fail
        go_roundw
        case rel => exact ⟨i + 1, D, L, S, by omega, rfl, by go_num, HSK, hI, bW⟩
        case measure => simp [intOf]; omega
      by_cases hs12 : r = 12 ∧ xb = (at0 : Int)
      · obtain ⟨hs12, rfl⟩ := hs12
        have s6 : ((r : Int) == 6) = false := by rw [beq_eq_false_iff_ne]; omega
        have s6a : ¬ (r : Int) = 6 := by omega
        have s7 : ((r : Int) == 7) = false := by rw [beq_eq_false_iff_ne]; omega
        have s7a : ¬ (r : Int) = 7 := by omega
        have s12 : ((r : Int) == 12) = true := by rw [beq_iff_eq]; omega
        have s12a : (r : Int) = 12 := by omega
        clear q hwhat HM cW hat hs12 STEP 
        go_wp2_with fail
        go_roundw
        case rel => exact ⟨i + 1, D, L, S, by omega, rfl, by go_num, HSK, hI, bW⟩
        case measure => simp [intOf]; omega
      have hsk : ¬ ((r = 6 ∨ r = 7 ∨ r = 12) ∧ xb = (at0 : Int)) := by omega
      have mi := HM.out hsk
      dsimp only at mi
      clear HM HSK cW bW hI hat
      have XE : Hid (∀ wy, ActAt wy wr.heap.size kz xb xn fz pin data → wy.cell? ⟨wr.heap.size, 1, none⟩ = some (.int .i64 xb)) := Lib.hid (fun _ h => h.x1)
      have FORK : (xb == (at0 : Int)) = false ∧ ¬ xb = (at0 : Int) ∨ (((r : Int) == 6) = false ∧ ¬ (r : Int) = 6) ∧ (((r : Int) == 7) = false ∧ ¬ (r : Int) = 7) ∧ (((r : Int) == 12) = false ∧ ¬ (r : Int) = 12) := by
        by_cases hx : xb = (at0 : Int)
        · right
          refine ⟨⟨?_, ?_⟩, ⟨?_, ?_⟩, ?_, ?_⟩ <;> first | (rw [beq_eq_false_iff_ne]; omega) | omega
        · left
          exact ⟨by rw [beq_eq_false_iff_ne]; exact hx, hx⟩
      clear FORK
      by_cases h3 : r < 3
      · rw [if_neg (by omega)] at mi
        have MI := Lib.hid mi
        clear mi
        have s6 : ((r : Int) == 6) = false := by rw [beq_eq_false_iff_ne]; omega
        have s6a : ¬ (r : Int) = 6 := by omega
        have s7 : ((r : Int) == 7) = false := by rw [beq_eq_false_iff_ne]; omega
        have s7a : ¬ (r : Int) = 7 := by omega
        have s12 : ((r : Int) == 12) = false := by rw [beq_eq_false_iff_ne]; omega
        have s12a : ¬ (r : Int) = 12 := by omega
        have k3 : ¬ (3 : Int) ≤ (r : Int) := by omega
        have k3a : decide ((3 : Int) ≤ (r : Int)) = false := decide_eq_false k3
        go_wp2_with fail
        (with_reducible refine q.out.mono ?_)
        rintro e5 w5 ⟨rfl, d1, d2⟩
        obtain ⟨e1, e3, e4⟩ := STEP.out w5 d1 d2
        have E1 := Lib.hid e1; have E3 := Lib.hid e3
        clear d1 d2 e1 e3 q STEP
        obtain ⟨y0, y1, y2, y3, y4, y5⟩ := e4
        clear hwhat
        have q1 := read_any E1.out.dev (at0 : Int)
        rw [MI.out.reads.1, MI.out.reads.2] at q1
        have q1 := Lib.hid q1
        go_wp2_with fail
        (with_reducible refine q1.out.mono ?_)
        rintro e w6 ⟨rfl, rfl⟩
        clear q1
        have qb := blocks_any E1.out.dev
        rw [MI.out.klen] at qb
        have qb := Lib.hid qb
        have HH : Hid (∀ k : Nat, k < n → Calls Try.prog 13 #[.pointer (some ⟨cb, 0, none⟩), .int .i64 k] w5 fun e w' => e = .returned (.bool (get L2 k).isSome) ∧ w5 = w') := Lib.hid (fun k hk => by
          have := cs_has E1.out (k : Int)
          rw [MI.out.klen, has_some L2 n k hk] at this
          exact this)
        have mm : Hid (∀ k, manyTo L2 k ≤ m) := Lib.hid (fun k => Nat.le_trans (many_most L2 k) E1.out.bufs.len)
        have ms : Hid (∀ k, manyTo L2 (k + 1) = manyTo L2 k + if (get L2 k).isSome then 1 else 0) := Lib.hid (fun k => rfl)
        go_wp2_with fail
        go_loopw [18, 19] (fun u q wx => ∃ k : Nat, k ≤ n ∧ u = .int .i64 (manyTo L2 k) ∧ q = .int .i64 k ∧ w5 = wx) (fun _ q _ => n - (intOf q).toNat)
        case atStart => exact ⟨0, by omega, rfl, rfl, rfl⟩
        case round =>
          obtain ⟨k, hk, rfl, rfl, rfl⟩ := hrel
          have hmk := mm.out k
          by_cases hkn : k < n
          · have j1 : (k : Int) < (n : Int) := by omega
            have qh := Lib.hid (HH.out k hkn)
            have hms := Lib.hid (ms.out k)
            generalize manyTo L2 k = mk at *
            cases hgs : (Bufs.get L2 k).isSome
            · rw [hgs] at qh hms
              have hms2 : Hid (manyTo L2 (k + 1) = mk) := Lib.hid (by rw [hms.out]; simp)
              clear hgs hms HH ms
              go_wp2_with fail
              (with_reducible refine qb.out.mono ?_)
              rintro e w6 ⟨rfl, rfl⟩
              go_wp2_with fail
              (with_reducible refine qh.out.mono ?_)
              rintro e w6 ⟨rfl, rfl⟩
              clear qh qb
              go_wp2_with fail
              go_roundw
              case rel => exact ⟨k + 1, by omega, by rw [hms2.out], by go_num, trivial⟩
              case measure => simp [intOf]; omega
            · rw [hgs] at qh hms
              have hms2 : Hid (manyTo L2 (k + 1) = mk + 1) := Lib.hid (by rw [hms.out]; simp)
              clear hgs hms HH ms
              go_wp2_with fail
              (with_reducible refine qb.out.mono ?_)
              rintro e w6 ⟨rfl, rfl⟩
              go_wp2_with fail
              (with_reducible refine qh.out.mono ?_)
              rintro e w6 ⟨rfl, rfl⟩
              clear qh qb
              go_wp2_with fail
              go_roundw
              case rel => exact ⟨k + 1, by omega, by rw [hms2.out]; go_num, by go_num, trivial⟩
              case measure => simp [intOf]; omega
          · obtain rfl : k = n := by omega
            clear HH ms mm
            have qh := cs_has E1.out (at0 : Int)
            rw [MI.out.klen, MI.out.isHere] at qh
            have qh := Lib.hid qh
            have hkc := K1.out
            go_wp2_with fail
            (with_reducible refine qb.out.mono ?_)
            rintro e w6 ⟨rfl, rfl⟩
            go_wp2_with fail
            refine (hf0.out _).mono ?_
            rintro e w7 ⟨rfl, b7⟩
            have E7 := Lib.hid (E1.out.below b7)
            have B7 := Lib.hid (E3.out.trans (b7.mono E3.out.size))
            have qh := cs_has E7.out (at0 : Int)
            rw [MI.out.klen, MI.out.isHere] at qh
            have qh := Lib.hid qh
            have qp := cs_pinned E7.out
            rw [MI.out.klen] at qp
            have qp := Lib.hid qp
            clear b7 E1 E3
            go_wp2_with fail
            (with_reducible refine qh.out.mono ?_)
            rintro e w8 ⟨rfl, rfl⟩
            clear qh
            go_wp2_with fail
            (with_reducible refine qp.out.mono ?_)
            rintro e w8 ⟨⟨v, rfl, h5⟩, b8⟩
            have E8 := Lib.hid (E7.out.below b8)
            have B8 := Lib.hid (B7.out.trans (b8.mono B7.out.size))
            have q7 := in_head h5 (by have := blocksOf_length L2 PB.pinned k; omega) (at0 : Int)
            rw [decide_eq_true MI.out.isPinned] at q7
            have q7 := Lib.hid q7
            have qd := cs_dirty E8.out
            rw [MI.out.klen] at qd
            have qd := Lib.hid qd
            clear qp h5 b8 E7 B7
            go_wp2_with fail
            (with_reducible refine q7.out.mono ?_)
            rintro e w9 ⟨rfl, rfl⟩
            clear q7
            go_wp2_with fail
            (with_reducible refine qd.out.mono ?_)
            rintro e w9 ⟨⟨v2, rfl, h5⟩, b9⟩
            have E9 := Lib.hid (E8.out.below b9)
            have B9 := Lib.hid (B8.out.trans (b9.mono B8.out.size))
            have q7 := in_head h5 (by have := blocksOf_length L2 PB.dirty k; omega) (at0 : Int)
            rw [decide_eq_true MI.out.isDirty] at q7
            have q7 := Lib.hid q7
            have kc9 := (B9.out.cell (p := ⟨w.heap.size, 1, none⟩) HX).trans K1.out
            have hle : ¬ ((m : Int) < (manyTo L2 k : Int)) := by omega
            clear qd h5 b9 E8 B8
            go_wp2_with fail
            (with_reducible refine q7.out.mono ?_)
            rintro e w10 ⟨rfl, rfl⟩
            clear q7
            have hct2 := hct.out
            generalize manyTo L2 k = mk at *
            go_wp2_with fail
            go_roundw
            case rel => exact ⟨i + 1, D2, L2, S, by omega, rfl, by go_num, E9, MI, B9⟩
            case measure => simp [intOf]; omega
      by_cases h6 : r < 6
      · by_cases hx : xb = (at0 : Int)
        · by_cases he : e = 0
          · rw [if_pos ⟨by omega, hx, he⟩] at mi
            have MI := Lib.hid mi
            subst he hx
            clear mi
            have s6 : ((r : Int) == 6) = false := by rw [beq_eq_false_iff_ne]; omega
            have s6a : ¬ (r : Int) = 6 := by omega
            have s7 : ((r : Int) == 7) = false := by rw [beq_eq_false_iff_ne]; omega
            have s7a : ¬ (r : Int) = 7 := by omega
            have s12 : ((r : Int) == 12) = false := by rw [beq_eq_false_iff_ne]; omega
            have s12a : ¬ (r : Int) = 12 := by omega
            have k3 : (3 : Int) ≤ (r : Int) := by omega
            have k3a : decide ((3 : Int) ≤ (r : Int)) = true := decide_eq_true k3
            have k6 : (r : Int) < 6 := by omega
            have k6a : decide ((r : Int) < 6) = true := decide_eq_true k6
            go_wp2_with fail
            (with_reducible refine q.out.mono ?_)
            rintro e5 w5 ⟨rfl, d1, d2⟩
            obtain ⟨e1, e3, e4⟩ := STEP.out w5 d1 d2
            have E1 := Lib.hid e1; have E3 := Lib.hid e3
            clear d1 d2 e1 e3 q STEP
            obtain ⟨y0, y1, y2, y3, y4, y5⟩ := e4
            go_wp2_with fail
            refine ((hwhat _).out).mono ?_
            rintro e6 w6 ⟨rfl, b6⟩
            have E1 := Lib.hid (E1.out.below b6); have E3 := Lib.hid (E3.out.trans (b6.mono E3.out.size))
            clear b6 y0 y1 y2 y3 y4 y5 hwhat
            have q1 := read_any E1.out.dev (at0 : Int)
            rw [MI.out.reads.1, MI.out.reads.2] at q1
            have q1 := Lib.hid q1
            go_wp2_with fail
            (with_reducible refine q1.out.mono ?_)
            rintro e w6 ⟨rfl, rfl⟩
            clear q1
            have qb := blocks_any E1.out.dev
            rw [MI.out.klen] at qb
            have qb := Lib.hid qb
            have HH : Hid (∀ k : Nat, k < n → Calls Try.prog 13 #[.pointer (some ⟨cb, 0, none⟩), .int .i64 k] w6 fun e w' => e = .returned (.bool (get L2 k).isSome) ∧ w6 = w') := Lib.hid (fun k hk => by
              have := cs_has E1.out (k : Int)
              rw [MI.out.klen, has_some L2 n k hk] at this
              exact this)
            have mm : Hid (∀ k, manyTo L2 k ≤ m) := Lib.hid (fun k => Nat.le_trans (many_most L2 k) E1.out.bufs.len)
            have ms : Hid (∀ k, manyTo L2 (k + 1) = manyTo L2 k + if (get L2 k).isSome then 1 else 0) := Lib.hid (fun k => rfl)
            go_wp2_with fail
            go_loopw [18, 19] (fun u q wx => ∃ k : Nat, k ≤ n ∧ u = .int .i64 (manyTo L2 k) ∧ q = .int .i64 k ∧ w6 = wx) (fun _ q _ => n - (intOf q).toNat)
            case atStart => exact ⟨0, by omega, rfl, rfl, rfl⟩
            case round =>
              obtain ⟨k, hk, rfl, rfl, rfl⟩ := hrel
              have hmk := mm.out k
              by_cases hkn : k < n
              · have j1 : (k : Int) < (n : Int) := by omega
                have qh := Lib.hid (HH.out k hkn)
                have hms := Lib.hid (ms.out k)
                generalize manyTo L2 k = mk at *
                cases hgs : (Bufs.get L2 k).isSome
                · rw [hgs] at qh hms
                  have hms2 : Hid (manyTo L2 (k + 1) = mk) := Lib.hid (by rw [hms.out]; simp)
                  clear hgs hms HH ms
                  go_wp2_with fail
                  (with_reducible refine qb.out.mono ?_)
                  rintro e w6 ⟨rfl, rfl⟩
                  go_wp2_with fail
                  (with_reducible refine qh.out.mono ?_)
                  rintro e w6 ⟨rfl, rfl⟩
                  clear qh qb
                  go_wp2_with fail
                  go_roundw
                  case rel => exact ⟨k + 1, by omega, by rw [hms2.out], by go_num, trivial⟩
                  case measure => simp [intOf]; omega
                · rw [hgs] at qh hms
                  have hms2 : Hid (manyTo L2 (k + 1) = mk + 1) := Lib.hid (by rw [hms.out]; simp)
                  clear hgs hms HH ms
                  go_wp2_with fail
                  (with_reducible refine qb.out.mono ?_)
                  rintro e w6 ⟨rfl, rfl⟩
                  go_wp2_with fail
                  (with_reducible refine qh.out.mono ?_)
                  rintro e w6 ⟨rfl, rfl⟩
                  clear qh qb
                  go_wp2_with fail
                  go_roundw
                  case rel => exact ⟨k + 1, by omega, by rw [hms2.out]; go_num, by go_num, trivial⟩
                  case measure => simp [intOf]; omega
              · obtain rfl : k = n := by omega
                clear HH ms mm
                have qh := cs_has E1.out (at0 : Int)
                rw [MI.out.klen, MI.out.isHere] at qh
                have qh := Lib.hid qh
                have hkc := K1.out
                go_wp2_with fail
                (with_reducible refine qb.out.mono ?_)
                rintro e w6 ⟨rfl, rfl⟩
                go_wp2_with fail
                refine (hf0.out _).mono ?_
                rintro e w7 ⟨rfl, b7⟩
                have E7 := Lib.hid (E1.out.below b7)
                have B7 := Lib.hid (E3.out.trans (b7.mono E3.out.size))
                have qh := cs_has E7.out (at0 : Int)
                rw [MI.out.klen, MI.out.isHere] at qh
                have qh := Lib.hid qh
                have qp := cs_pinned E7.out
                rw [MI.out.klen] at qp
                have qp := Lib.hid qp
                clear b7 E1 E3
                go_wp2_with fail
                (with_reducible refine qh.out.mono ?_)
                rintro e w8 ⟨rfl, rfl⟩
                clear qh
                go_wp2_with fail
                (with_reducible refine qp.out.mono ?_)
                rintro e w8 ⟨⟨v, rfl, h5⟩, b8⟩
                have E8 := Lib.hid (E7.out.below b8)
                have B8 := Lib.hid (B7.out.trans (b8.mono B7.out.size))
                have q7 := in_head h5 (by have := blocksOf_length L2 PB.pinned k; omega) (at0 : Int)
                rw [decide_eq_true MI.out.isPinned] at q7
                have q7 := Lib.hid q7
                have qd := cs_dirty E8.out
                rw [MI.out.klen] at qd
                have qd := Lib.hid qd
                clear qp h5 b8 E7 B7
                go_wp2_with fail
                (with_reducible refine q7.out.mono ?_)
                rintro e w9 ⟨rfl, rfl⟩
                clear q7
                go_wp2_with fail
                (with_reducible refine qd.out.mono ?_)
                rintro e w9 ⟨⟨v2, rfl, h5⟩, b9⟩
                have E9 := Lib.hid (E8.out.below b9)
                have B9 := Lib.hid (B8.out.trans (b9.mono B8.out.size))
                have q7 := in_head h5 (by have := blocksOf_length L2 PB.dirty k; omega) (at0 : Int)
                rw [decide_eq_true MI.out.isDirty] at q7
                have q7 := Lib.hid q7
                have kc9 := (B9.out.cell (p := ⟨w.heap.size, 1, none⟩) HX).trans K1.out
                have hle : ¬ ((m : Int) < (manyTo L2 k : Int)) := by omega
                clear qd h5 b9 E8 B8
                go_wp2_with fail
                (with_reducible refine q7.out.mono ?_)
                rintro e w10 ⟨rfl, rfl⟩
                clear q7
                have hct2 := hct.out
                generalize manyTo L2 k = mk at *
                go_wp2_with fail
                go_roundw
                case rel => exact ⟨i + 1, D2, L2, TT, by omega, rfl, by go_num, E9, MI, B9⟩
                case measure => simp [intOf]; omega
          · rw [if_neg (fun k => he k.2.2)] at mi
            have MI := Lib.hid mi
            have he' : (e == 0) = false := by rw [beq_eq_false_iff_ne]; exact he
            subst hx
            clear mi
            have s6 : ((r : Int) == 6) = false := by rw [beq_eq_false_iff_ne]; omega
            have s6a : ¬ (r : Int) = 6 := by omega
            have s7 : ((r : Int) == 7) = false := by rw [beq_eq_false_iff_ne]; omega
            have s7a : ¬ (r : Int) = 7 := by omega
            have s12 : ((r : Int) == 12) = false := by rw [beq_eq_false_iff_ne]; omega
            have s12a : ¬ (r : Int) = 12 := by omega
            have k3 : (3 : Int) ≤ (r : Int) := by omega
            have k3a : decide ((3 : Int) ≤ (r : Int)) = true := decide_eq_true k3
            have k6 : (r : Int) < 6 := by omega
            have k6a : decide ((r : Int) < 6) = true := decide_eq_true k6
            go_wp2_with fail
            (with_reducible refine q.out.mono ?_)
            rintro e5 w5 ⟨rfl, d1, d2⟩
            obtain ⟨e1, e3, e4⟩ := STEP.out w5 d1 d2
            have E1 := Lib.hid e1; have E3 := Lib.hid e3
            clear d1 d2 e1 e3 q STEP
            obtain ⟨y0, y1, y2, y3, y4, y5⟩ := e4
            clear hwhat
            have q1 := read_any E1.out.dev (at0 : Int)
            rw [MI.out.reads.1, MI.out.reads.2] at q1
            have q1 := Lib.hid q1
            go_wp2_with fail
            (with_reducible refine q1.out.mono ?_)
            rintro e w6 ⟨rfl, rfl⟩
            clear q1
            have qb := blocks_any E1.out.dev
            rw [MI.out.klen] at qb
            have qb := Lib.hid qb
            have HH : Hid (∀ k : Nat, k < n → Calls Try.prog 13 #[.pointer (some ⟨cb, 0, none⟩), .int .i64 k] w5 fun e w' => e = .returned (.bool (get L2 k).isSome) ∧ w5 = w') := Lib.hid (fun k hk => by
              have := cs_has E1.out (k : Int)
              rw [MI.out.klen, has_some L2 n k hk] at this
              exact this)
            have mm : Hid (∀ k, manyTo L2 k ≤ m) := Lib.hid (fun k => Nat.le_trans (many_most L2 k) E1.out.bufs.len)
            have ms : Hid (∀ k, manyTo L2 (k + 1) = manyTo L2 k + if (get L2 k).isSome then 1 else 0) := Lib.hid (fun k => rfl)
            go_wp2_with fail
            go_loopw [18, 19] (fun u q wx => ∃ k : Nat, k ≤ n ∧ u = .int .i64 (manyTo L2 k) ∧ q = .int .i64 k ∧ w5 = wx) (fun _ q _ => n - (intOf q).toNat)
            case atStart => exact ⟨0, by omega, rfl, rfl, rfl⟩
            case round =>
              obtain ⟨k, hk, rfl, rfl, rfl⟩ := hrel
              have hmk := mm.out k
              by_cases hkn : k < n
              · have j1 : (k : Int) < (n : Int) := by omega
                have qh := Lib.hid (HH.out k hkn)
                have hms := Lib.hid (ms.out k)
                generalize manyTo L2 k = mk at *
                cases hgs : (Bufs.get L2 k).isSome
                · rw [hgs] at qh hms
                  have hms2 : Hid (manyTo L2 (k + 1) = mk) := Lib.hid (by rw [hms.out]; simp)
                  clear hgs hms HH ms
                  go_wp2_with fail
                  (with_reducible refine qb.out.mono ?_)
                  rintro e w6 ⟨rfl, rfl⟩
                  go_wp2_with fail
                  (with_reducible refine qh.out.mono ?_)
                  rintro e w6 ⟨rfl, rfl⟩
                  clear qh qb
                  go_wp2_with fail
                  go_roundw
                  case rel => exact ⟨k + 1, by omega, by rw [hms2.out], by go_num, trivial⟩
                  case measure => simp [intOf]; omega
                · rw [hgs] at qh hms
                  have hms2 : Hid (manyTo L2 (k + 1) = mk + 1) := Lib.hid (by rw [hms.out]; simp)
                  clear hgs hms HH ms
                  go_wp2_with fail
                  (with_reducible refine qb.out.mono ?_)
                  rintro e w6 ⟨rfl, rfl⟩
                  go_wp2_with fail
                  (with_reducible refine qh.out.mono ?_)
                  rintro e w6 ⟨rfl, rfl⟩
                  clear qh qb
                  go_wp2_with fail
                  go_roundw
                  case rel => exact ⟨k + 1, by omega, by rw [hms2.out]; go_num, by go_num, trivial⟩
                  case measure => simp [intOf]; omega
              · obtain rfl : k = n := by omega
                clear HH ms mm
                have qh := cs_has E1.out (at0 : Int)
                rw [MI.out.klen, MI.out.isHere] at qh
                have qh := Lib.hid qh
                have hkc := K1.out
                go_wp2_with fail
                (with_reducible refine qb.out.mono ?_)
                rintro e w6 ⟨rfl, rfl⟩
                go_wp2_with fail
                refine (hf0.out _).mono ?_
                rintro e w7 ⟨rfl, b7⟩
                have E7 := Lib.hid (E1.out.below b7)
                have B7 := Lib.hid (E3.out.trans (b7.mono E3.out.size))
                have qh := cs_has E7.out (at0 : Int)
                rw [MI.out.klen, MI.out.isHere] at qh
                have qh := Lib.hid qh
                have qp := cs_pinned E7.out
                rw [MI.out.klen] at qp
                have qp := Lib.hid qp
                clear b7 E1 E3
                go_wp2_with fail
                (with_reducible refine qh.out.mono ?_)
                rintro e w8 ⟨rfl, rfl⟩
                clear qh
                go_wp2_with fail
                (with_reducible refine qp.out.mono ?_)
                rintro e w8 ⟨⟨v, rfl, h5⟩, b8⟩
                have E8 := Lib.hid (E7.out.below b8)
                have B8 := Lib.hid (B7.out.trans (b8.mono B7.out.size))
                have q7 := in_head h5 (by have := blocksOf_length L2 PB.pinned k; omega) (at0 : Int)
                rw [decide_eq_true MI.out.isPinned] at q7
                have q7 := Lib.hid q7
                have qd := cs_dirty E8.out
                rw [MI.out.klen] at qd
                have qd := Lib.hid qd
                clear qp h5 b8 E7 B7
                go_wp2_with fail
                (with_reducible refine q7.out.mono ?_)
                rintro e w9 ⟨rfl, rfl⟩
                clear q7
                go_wp2_with fail
                (with_reducible refine qd.out.mono ?_)
                rintro e w9 ⟨⟨v2, rfl, h5⟩, b9⟩
                have E9 := Lib.hid (E8.out.below b9)
                have B9 := Lib.hid (B8.out.trans (b9.mono B8.out.size))
                have q7 := in_head h5 (by have := blocksOf_length L2 PB.dirty k; omega) (at0 : Int)
                rw [decide_eq_true MI.out.isDirty] at q7
                have q7 := Lib.hid q7
                have kc9 := (B9.out.cell (p := ⟨w.heap.size, 1, none⟩) HX).trans K1.out
                have hle : ¬ ((m : Int) < (manyTo L2 k : Int)) := by omega
                clear qd h5 b9 E8 B8
                go_wp2_with fail
                (with_reducible refine q7.out.mono ?_)
                rintro e w10 ⟨rfl, rfl⟩
                clear q7
                have hct2 := hct.out
                generalize manyTo L2 k = mk at *
                go_wp2_with fail
                go_roundw
                case rel => exact ⟨i + 1, D2, L2, S, by omega, rfl, by go_num, E9, MI, B9⟩
                case measure => simp [intOf]; omega
        · rw [if_neg (fun k => hx k.2.1)] at mi
          have MI := Lib.hid mi
          have hx' : (xb == (at0 : Int)) = false := by rw [beq_eq_false_iff_ne]; exact hx
          clear mi
          have s6 : ((r : Int) == 6) = false := by rw [beq_eq_false_iff_ne]; omega
          have s6a : ¬ (r : Int) = 6 := by omega
          have s7 : ((r : Int) == 7) = false := by rw [beq_eq_false_iff_ne]; omega
          have s7a : ¬ (r : Int) = 7 := by omega
          have s12 : ((r : Int) == 12) = false := by rw [beq_eq_false_iff_ne]; omega
          have s12a : ¬ (r : Int) = 12 := by omega
          have k3 : (3 : Int) ≤ (r : Int) := by omega
          have k3a : decide ((3 : Int) ≤ (r : Int)) = true := decide_eq_true k3
          have k6 : (r : Int) < 6 := by omega
          have k6a : decide ((r : Int) < 6) = true := decide_eq_true k6
          go_wp2_with fail
          (with_reducible refine q.out.mono ?_)
          rintro e5 w5 ⟨rfl, d1, d2⟩
          obtain ⟨e1, e3, e4⟩ := STEP.out w5 d1 d2
          have E1 := Lib.hid e1; have E3 := Lib.hid e3
          clear d1 d2 e1 e3 q STEP
          obtain ⟨y0, y1, y2, y3, y4, y5⟩ := e4
          clear hwhat
          have q1 := read_any E1.out.dev (at0 : Int)
          rw [MI.out.reads.1, MI.out.reads.2] at q1
          have q1 := Lib.hid q1
          go_wp2_with fail
          (with_reducible refine q1.out.mono ?_)
          rintro e w6 ⟨rfl, rfl⟩
          clear q1
          have qb := blocks_any E1.out.dev
          rw [MI.out.klen] at qb
          have qb := Lib.hid qb
          have HH : Hid (∀ k : Nat, k < n → Calls Try.prog 13 #[.pointer (some ⟨cb, 0, none⟩), .int .i64 k] w5 fun e w' => e = .returned (.bool (get L2 k).isSome) ∧ w5 = w') := Lib.hid (fun k hk => by
            have := cs_has E1.out (k : Int)
            rw [MI.out.klen, has_some L2 n k hk] at this
            exact this)
          have mm : Hid (∀ k, manyTo L2 k ≤ m) := Lib.hid (fun k => Nat.le_trans (many_most L2 k) E1.out.bufs.len)
          have ms : Hid (∀ k, manyTo L2 (k + 1) = manyTo L2 k + if (get L2 k).isSome then 1 else 0) := Lib.hid (fun k => rfl)
          go_wp2_with fail
          go_loopw [18, 19] (fun u q wx => ∃ k : Nat, k ≤ n ∧ u = .int .i64 (manyTo L2 k) ∧ q = .int .i64 k ∧ w5 = wx) (fun _ q _ => n - (intOf q).toNat)
          case atStart => exact ⟨0, by omega, rfl, rfl, rfl⟩
          case round =>
            obtain ⟨k, hk, rfl, rfl, rfl⟩ := hrel
            have hmk := mm.out k
            by_cases hkn : k < n
            · have j1 : (k : Int) < (n : Int) := by omega
              have qh := Lib.hid (HH.out k hkn)
              have hms := Lib.hid (ms.out k)
              generalize manyTo L2 k = mk at *
              cases hgs : (Bufs.get L2 k).isSome
              · rw [hgs] at qh hms
                have hms2 : Hid (manyTo L2 (k + 1) = mk) := Lib.hid (by rw [hms.out]; simp)
                clear hgs hms HH ms
                go_wp2_with fail
                (with_reducible refine qb.out.mono ?_)
                rintro e w6 ⟨rfl, rfl⟩
                go_wp2_with fail
                (with_reducible refine qh.out.mono ?_)
                rintro e w6 ⟨rfl, rfl⟩
                clear qh qb
                go_wp2_with fail
                go_roundw
                case rel => exact ⟨k + 1, by omega, by rw [hms2.out], by go_num, trivial⟩
                case measure => simp [intOf]; omega
              · rw [hgs] at qh hms
                have hms2 : Hid (manyTo L2 (k + 1) = mk + 1) := Lib.hid (by rw [hms.out]; simp)
                clear hgs hms HH ms
                go_wp2_with fail
                (with_reducible refine qb.out.mono ?_)
                rintro e w6 ⟨rfl, rfl⟩
                go_wp2_with fail
                (with_reducible refine qh.out.mono ?_)
                rintro e w6 ⟨rfl, rfl⟩
                clear qh qb
                go_wp2_with fail
                go_roundw
                case rel => exact ⟨k + 1, by omega, by rw [hms2.out]; go_num, by go_num, trivial⟩
                case measure => simp [intOf]; omega
            · obtain rfl : k = n := by omega
              clear HH ms mm
              have qh := cs_has E1.out (at0 : Int)
              rw [MI.out.klen, MI.out.isHere] at qh
              have qh := Lib.hid qh
              have hkc := K1.out
              go_wp2_with fail
              (with_reducible refine qb.out.mono ?_)
              rintro e w6 ⟨rfl, rfl⟩
              go_wp2_with fail
              refine (hf0.out _).mono ?_
              rintro e w7 ⟨rfl, b7⟩
              have E7 := Lib.hid (E1.out.below b7)
              have B7 := Lib.hid (E3.out.trans (b7.mono E3.out.size))
              have qh := cs_has E7.out (at0 : Int)
              rw [MI.out.klen, MI.out.isHere] at qh
              have qh := Lib.hid qh
              have qp := cs_pinned E7.out
              rw [MI.out.klen] at qp
              have qp := Lib.hid qp
              clear b7 E1 E3
              go_wp2_with fail
              (with_reducible refine qh.out.mono ?_)
              rintro e w8 ⟨rfl, rfl⟩
              clear qh
              go_wp2_with fail
              (with_reducible refine qp.out.mono ?_)
              rintro e w8 ⟨⟨v, rfl, h5⟩, b8⟩
              have E8 := Lib.hid (E7.out.below b8)
              have B8 := Lib.hid (B7.out.trans (b8.mono B7.out.size))
              have q7 := in_head h5 (by have := blocksOf_length L2 PB.pinned k; omega) (at0 : Int)
              rw [decide_eq_true MI.out.isPinned] at q7
              have q7 := Lib.hid q7
              have qd := cs_dirty E8.out
              rw [MI.out.klen] at qd
              have qd := Lib.hid qd
              clear qp h5 b8 E7 B7
              go_wp2_with fail
              (with_reducible refine q7.out.mono ?_)
              rintro e w9 ⟨rfl, rfl⟩
              clear q7
              go_wp2_with fail
              (with_reducible refine qd.out.mono ?_)
              rintro e w9 ⟨⟨v2, rfl, h5⟩, b9⟩
              have E9 := Lib.hid (E8.out.below b9)
              have B9 := Lib.hid (B8.out.trans (b9.mono B8.out.size))
              have q7 := in_head h5 (by have := blocksOf_length L2 PB.dirty k; omega) (at0 : Int)
              rw [decide_eq_true MI.out.isDirty] at q7
              have q7 := Lib.hid q7
              have kc9 := (B9.out.cell (p := ⟨w.heap.size, 1, none⟩) HX).trans K1.out
              have hle : ¬ ((m : Int) < (manyTo L2 k : Int)) := by omega
              clear qd h5 b9 E8 B8
              go_wp2_with fail
              (with_reducible refine q7.out.mono ?_)
              rintro e w10 ⟨rfl, rfl⟩
              clear q7
              have hct2 := hct.out
              generalize manyTo L2 k = mk at *
              go_wp2_with fail
              go_roundw
              case rel => exact ⟨i + 1, D2, L2, S, by omega, rfl, by go_num, E9, MI, B9⟩
              case measure => simp [intOf]; omega
      rw [if_neg (by omega)] at mi
      have MI := Lib.hid mi
      clear mi
      by_cases hv6 : r = 6
      · have hx : ¬ xb = (at0 : Int) := by omega
        have hx' : (xb == (at0 : Int)) = false := by rw [beq_eq_false_iff_ne]; exact hx
        have s6 : ((r : Int) == 6) = true := by rw [beq_iff_eq]; omega
        have s6a : (r : Int) = 6 := by omega
        have s7 : ((r : Int) == 7) = false := by rw [beq_eq_false_iff_ne]; omega
        have s7a : ¬ (r : Int) = 7 := by omega
        have s12 : ((r : Int) == 12) = false := by rw [beq_eq_false_iff_ne]; omega
        have s12a : ¬ (r : Int) = 12 := by omega
        have k3 : (3 : Int) ≤ (r : Int) := by omega
        have k3a : decide ((3 : Int) ≤ (r : Int)) = true := decide_eq_true k3
        have k6 : ¬ (r : Int) < 6 := by omega
        have k6a : decide ((r : Int) < 6) = false := decide_eq_false k6
        go_wp2_with fail
        (with_reducible refine q.out.mono ?_)
        rintro e5 w5 ⟨rfl, d1, d2⟩
        obtain ⟨e1, e3, e4⟩ := STEP.out w5 d1 d2
        have E1 := Lib.hid e1; have E3 := Lib.hid e3
        clear d1 d2 e1 e3 q STEP
        obtain ⟨y0, y1, y2, y3, y4, y5⟩ := e4
        clear hwhat
        have q1 := read_any E1.out.dev (at0 : Int)
        rw [MI.out.reads.1, MI.out.reads.2] at q1
        have q1 := Lib.hid q1
        go_wp2_with fail
        (with_reducible refine q1.out.mono ?_)
        rintro e w6 ⟨rfl, rfl⟩
        clear q1
        have qb := blocks_any E1.out.dev
        rw [MI.out.klen] at qb
        have qb := Lib.hid qb
        have HH : Hid (∀ k : Nat, k < n → Calls Try.prog 13 #[.pointer (some ⟨cb, 0, none⟩), .int .i64 k] w5 fun e w' => e = .returned (.bool (get L2 k).isSome) ∧ w5 = w') := Lib.hid (fun k hk => by
          have := cs_has E1.out (k : Int)
          rw [MI.out.klen, has_some L2 n k hk] at this
          exact this)
        have mm : Hid (∀ k, manyTo L2 k ≤ m) := Lib.hid (fun k => Nat.le_trans (many_most L2 k) E1.out.bufs.len)
        have ms : Hid (∀ k, manyTo L2 (k + 1) = manyTo L2 k + if (get L2 k).isSome then 1 else 0) := Lib.hid (fun k => rfl)
        go_wp2_with fail
        go_loopw [18, 19] (fun u q wx => ∃ k : Nat, k ≤ n ∧ u = .int .i64 (manyTo L2 k) ∧ q = .int .i64 k ∧ w5 = wx) (fun _ q _ => n - (intOf q).toNat)
        case atStart => exact ⟨0, by omega, rfl, rfl, rfl⟩
        case round =>
          obtain ⟨k, hk, rfl, rfl, rfl⟩ := hrel
          have hmk := mm.out k
          by_cases hkn : k < n
          · have j1 : (k : Int) < (n : Int) := by omega
            have qh := Lib.hid (HH.out k hkn)
            have hms := Lib.hid (ms.out k)
            generalize manyTo L2 k = mk at *
            cases hgs : (Bufs.get L2 k).isSome
            · rw [hgs] at qh hms
              have hms2 : Hid (manyTo L2 (k + 1) = mk) := Lib.hid (by rw [hms.out]; simp)
              clear hgs hms HH ms
              go_wp2_with fail
              (with_reducible refine qb.out.mono ?_)
              rintro e w6 ⟨rfl, rfl⟩
              go_wp2_with fail
              (with_reducible refine qh.out.mono ?_)
              rintro e w6 ⟨rfl, rfl⟩
              clear qh qb
              go_wp2_with fail
              go_roundw
              case rel => exact ⟨k + 1, by omega, by rw [hms2.out], by go_num, trivial⟩
              case measure => simp [intOf]; omega
            · rw [hgs] at qh hms
              have hms2 : Hid (manyTo L2 (k + 1) = mk + 1) := Lib.hid (by rw [hms.out]; simp)
              clear hgs hms HH ms
              go_wp2_with fail
              (with_reducible refine qb.out.mono ?_)
              rintro e w6 ⟨rfl, rfl⟩
              go_wp2_with fail
              (with_reducible refine qh.out.mono ?_)
              rintro e w6 ⟨rfl, rfl⟩
              clear qh qb
              go_wp2_with fail
              go_roundw
              case rel => exact ⟨k + 1, by omega, by rw [hms2.out]; go_num, by go_num, trivial⟩
              case measure => simp [intOf]; omega
          · obtain rfl : k = n := by omega
            clear HH ms mm
            have qh := cs_has E1.out (at0 : Int)
            rw [MI.out.klen, MI.out.isHere] at qh
            have qh := Lib.hid qh
            have hkc := K1.out
            go_wp2_with fail
            (with_reducible refine qb.out.mono ?_)
            rintro e w6 ⟨rfl, rfl⟩
            go_wp2_with fail
            refine (hf0.out _).mono ?_
            rintro e w7 ⟨rfl, b7⟩
            have E7 := Lib.hid (E1.out.below b7)
            have B7 := Lib.hid (E3.out.trans (b7.mono E3.out.size))
            have qh := cs_has E7.out (at0 : Int)
            rw [MI.out.klen, MI.out.isHere] at qh
            have qh := Lib.hid qh
            have qp := cs_pinned E7.out
            rw [MI.out.klen] at qp
            have qp := Lib.hid qp
            clear b7 E1 E3
            go_wp2_with fail
            (with_reducible refine qh.out.mono ?_)
            rintro e w8 ⟨rfl, rfl⟩
            clear qh
            go_wp2_with fail
            (with_reducible refine qp.out.mono ?_)
            rintro e w8 ⟨⟨v, rfl, h5⟩, b8⟩
            have E8 := Lib.hid (E7.out.below b8)
            have B8 := Lib.hid (B7.out.trans (b8.mono B7.out.size))
            have q7 := in_head h5 (by have := blocksOf_length L2 PB.pinned k; omega) (at0 : Int)
            rw [decide_eq_true MI.out.isPinned] at q7
            have q7 := Lib.hid q7
            have qd := cs_dirty E8.out
            rw [MI.out.klen] at qd
            have qd := Lib.hid qd
            clear qp h5 b8 E7 B7
            go_wp2_with fail
            (with_reducible refine q7.out.mono ?_)
            rintro e w9 ⟨rfl, rfl⟩
            clear q7
            go_wp2_with fail
            (with_reducible refine qd.out.mono ?_)
            rintro e w9 ⟨⟨v2, rfl, h5⟩, b9⟩
            have E9 := Lib.hid (E8.out.below b9)
            have B9 := Lib.hid (B8.out.trans (b9.mono B8.out.size))
            have q7 := in_head h5 (by have := blocksOf_length L2 PB.dirty k; omega) (at0 : Int)
            rw [decide_eq_true MI.out.isDirty] at q7
            have q7 := Lib.hid q7
            have kc9 := (B9.out.cell (p := ⟨w.heap.size, 1, none⟩) HX).trans K1.out
            have hle : ¬ ((m : Int) < (manyTo L2 k : Int)) := by omega
            clear qd h5 b9 E8 B8
            go_wp2_with fail
            (with_reducible refine q7.out.mono ?_)
            rintro e w10 ⟨rfl, rfl⟩
            clear q7
            have hct2 := hct.out
            generalize manyTo L2 k = mk at *
            go_wp2_with fail
            go_roundw
            case rel => exact ⟨i + 1, D2, L2, S, by omega, rfl, by go_num, E9, MI, B9⟩
            case measure => simp [intOf]; omega
      by_cases hv7 : r = 7
      · have hx : ¬ xb = (at0 : Int) := by omega
        have hx' : (xb == (at0 : Int)) = false := by rw [beq_eq_false_iff_ne]; exact hx
        have s6 : ((r : Int) == 6) = false := by rw [beq_eq_false_iff_ne]; omega
        have s6a : ¬ (r : Int) = 6 := by omega
        have s7 : ((r : Int) == 7) = true := by rw [beq_iff_eq]; omega
        have s7a : (r : Int) = 7 := by omega
        have s12 : ((r : Int) == 12) = false := by rw [beq_eq_false_iff_ne]; omega
        have s12a : ¬ (r : Int) = 12 := by omega
        have k3 : (3 : Int) ≤ (r : Int) := by omega
        have k3a : decide ((3 : Int) ≤ (r : Int)) = true := decide_eq_true k3
        have k6 : ¬ (r : Int) < 6 := by omega
        have k6a : decide ((r : Int) < 6) = false := decide_eq_false k6
        go_wp2_with fail
        (with_reducible refine q.out.mono ?_)
        rintro e5 w5 ⟨rfl, d1, d2⟩
        obtain ⟨e1, e3, e4⟩ := STEP.out w5 d1 d2
        have E1 := Lib.hid e1; have E3 := Lib.hid e3
        clear d1 d2 e1 e3 q STEP
        obtain ⟨y0, y1, y2, y3, y4, y5⟩ := e4
        clear hwhat
        have q1 := read_any E1.out.dev (at0 : Int)
        rw [MI.out.reads.1, MI.out.reads.2] at q1
        have q1 := Lib.hid q1
        go_wp2_with fail
        (with_reducible refine q1.out.mono ?_)
        rintro e w6 ⟨rfl, rfl⟩
        clear q1
        have qb := blocks_any E1.out.dev
        rw [MI.out.klen] at qb
        have qb := Lib.hid qb
        have HH : Hid (∀ k : Nat, k < n → Calls Try.prog 13 #[.pointer (some ⟨cb, 0, none⟩), .int .i64 k] w5 fun e w' => e = .returned (.bool (get L2 k).isSome) ∧ w5 = w') := Lib.hid (fun k hk => by
          have := cs_has E1.out (k : Int)
          rw [MI.out.klen, has_some L2 n k hk] at this
          exact this)
        have mm : Hid (∀ k, manyTo L2 k ≤ m) := Lib.hid (fun k => Nat.le_trans (many_most L2 k) E1.out.bufs.len)
        have ms : Hid (∀ k, manyTo L2 (k + 1) = manyTo L2 k + if (get L2 k).isSome then 1 else 0) := Lib.hid (fun k => rfl)
        go_wp2_with fail
        go_loopw [18, 19] (fun u q wx => ∃ k : Nat, k ≤ n ∧ u = .int .i64 (manyTo L2 k) ∧ q = .int .i64 k ∧ w5 = wx) (fun _ q _ => n - (intOf q).toNat)
        case atStart => exact ⟨0, by omega, rfl, rfl, rfl⟩
        case round =>
          obtain ⟨k, hk, rfl, rfl, rfl⟩ := hrel
          have hmk := mm.out k
          by_cases hkn : k < n
          · have j1 : (k : Int) < (n : Int) := by omega
            have qh := Lib.hid (HH.out k hkn)
            have hms := Lib.hid (ms.out k)
            generalize manyTo L2 k = mk at *
            cases hgs : (Bufs.get L2 k).isSome
            · rw [hgs] at qh hms
              have hms2 : Hid (manyTo L2 (k + 1) = mk) := Lib.hid (by rw [hms.out]; simp)
              clear hgs hms HH ms
              go_wp2_with fail
              (with_reducible refine qb.out.mono ?_)
              rintro e w6 ⟨rfl, rfl⟩
              go_wp2_with fail
              (with_reducible refine qh.out.mono ?_)
              rintro e w6 ⟨rfl, rfl⟩
              clear qh qb
              go_wp2_with fail
              go_roundw
              case rel => exact ⟨k + 1, by omega, by rw [hms2.out], by go_num, trivial⟩
              case measure => simp [intOf]; omega
            · rw [hgs] at qh hms
              have hms2 : Hid (manyTo L2 (k + 1) = mk + 1) := Lib.hid (by rw [hms.out]; simp)
              clear hgs hms HH ms
              go_wp2_with fail
              (with_reducible refine qb.out.mono ?_)
              rintro e w6 ⟨rfl, rfl⟩
              go_wp2_with fail
              (with_reducible refine qh.out.mono ?_)
              rintro e w6 ⟨rfl, rfl⟩
              clear qh qb
              go_wp2_with fail
              go_roundw
              case rel => exact ⟨k + 1, by omega, by rw [hms2.out]; go_num, by go_num, trivial⟩
              case measure => simp [intOf]; omega
          · obtain rfl : k = n := by omega
            clear HH ms mm
            have qh := cs_has E1.out (at0 : Int)
            rw [MI.out.klen, MI.out.isHere] at qh
            have qh := Lib.hid qh
            have hkc := K1.out
            go_wp2_with fail
            (with_reducible refine qb.out.mono ?_)
            rintro e w6 ⟨rfl, rfl⟩
            go_wp2_with fail
            refine (hf0.out _).mono ?_
            rintro e w7 ⟨rfl, b7⟩
            have E7 := Lib.hid (E1.out.below b7)
            have B7 := Lib.hid (E3.out.trans (b7.mono E3.out.size))
            have qh := cs_has E7.out (at0 : Int)
            rw [MI.out.klen, MI.out.isHere] at qh
            have qh := Lib.hid qh
            have qp := cs_pinned E7.out
            rw [MI.out.klen] at qp
            have qp := Lib.hid qp
            clear b7 E1 E3
            go_wp2_with fail
            (with_reducible refine qh.out.mono ?_)
            rintro e w8 ⟨rfl, rfl⟩
            clear qh
            go_wp2_with fail
            (with_reducible refine qp.out.mono ?_)
            rintro e w8 ⟨⟨v, rfl, h5⟩, b8⟩
            have E8 := Lib.hid (E7.out.below b8)
            have B8 := Lib.hid (B7.out.trans (b8.mono B7.out.size))
            have q7 := in_head h5 (by have := blocksOf_length L2 PB.pinned k; omega) (at0 : Int)
            rw [decide_eq_true MI.out.isPinned] at q7
            have q7 := Lib.hid q7
            have qd := cs_dirty E8.out
            rw [MI.out.klen] at qd
            have qd := Lib.hid qd
            clear qp h5 b8 E7 B7
            go_wp2_with fail
            (with_reducible refine q7.out.mono ?_)
            rintro e w9 ⟨rfl, rfl⟩
            clear q7
            go_wp2_with fail
            (with_reducible refine qd.out.mono ?_)
            rintro e w9 ⟨⟨v2, rfl, h5⟩, b9⟩
            have E9 := Lib.hid (E8.out.below b9)
            have B9 := Lib.hid (B8.out.trans (b9.mono B8.out.size))
            have q7 := in_head h5 (by have := blocksOf_length L2 PB.dirty k; omega) (at0 : Int)
            rw [decide_eq_true MI.out.isDirty] at q7
            have q7 := Lib.hid q7
            have kc9 := (B9.out.cell (p := ⟨w.heap.size, 1, none⟩) HX).trans K1.out
            have hle : ¬ ((m : Int) < (manyTo L2 k : Int)) := by omega
            clear qd h5 b9 E8 B8
            go_wp2_with fail
            (with_reducible refine q7.out.mono ?_)
            rintro e w10 ⟨rfl, rfl⟩
            clear q7
            have hct2 := hct.out
            generalize manyTo L2 k = mk at *
            go_wp2_with fail
            go_roundw
            case rel => exact ⟨i + 1, D2, L2, S, by omega, rfl, by go_num, E9, MI, B9⟩
            case measure => simp [intOf]; omega
      by_cases hv12 : r = 12
      · have hx : ¬ xb = (at0 : Int) := by omega
        have hx' : (xb == (at0 : Int)) = false := by rw [beq_eq_false_iff_ne]; exact hx
        have s6 : ((r : Int) == 6) = false := by rw [beq_eq_false_iff_ne]; omega
        have s6a : ¬ (r : Int) = 6 := by omega
        have s7 : ((r : Int) == 7) = false := by rw [beq_eq_false_iff_ne]; omega
        have s7a : ¬ (r : Int) = 7 := by omega
        have s12 : ((r : Int) == 12) = true := by rw [beq_iff_eq]; omega
        have s12a : (r : Int) = 12 := by omega
        have k3 : (3 : Int) ≤ (r : Int) := by omega
        have k3a : decide ((3 : Int) ≤ (r : Int)) = true := decide_eq_true k3
        have k6 : ¬ (r : Int) < 6 := by omega
        have k6a : decide ((r : Int) < 6) = false := decide_eq_false k6
        go_wp2_with fail
        (with_reducible refine q.out.mono ?_)
        rintro e5 w5 ⟨rfl, d1, d2⟩
        obtain ⟨e1, e3, e4⟩ := STEP.out w5 d1 d2
        have E1 := Lib.hid e1; have E3 := Lib.hid e3
        clear d1 d2 e1 e3 q STEP
        obtain ⟨y0, y1, y2, y3, y4, y5⟩ := e4
        clear hwhat
        have q1 := read_any E1.out.dev (at0 : Int)
        rw [MI.out.reads.1, MI.out.reads.2] at q1
        have q1 := Lib.hid q1
        go_wp2_with fail
        (with_reducible refine q1.out.mono ?_)
        rintro e w6 ⟨rfl, rfl⟩
        clear q1
        have qb := blocks_any E1.out.dev
        rw [MI.out.klen] at qb
        have qb := Lib.hid qb
        have HH : Hid (∀ k : Nat, k < n → Calls Try.prog 13 #[.pointer (some ⟨cb, 0, none⟩), .int .i64 k] w5 fun e w' => e = .returned (.bool (get L2 k).isSome) ∧ w5 = w') := Lib.hid (fun k hk => by
          have := cs_has E1.out (k : Int)
          rw [MI.out.klen, has_some L2 n k hk] at this
          exact this)
        have mm : Hid (∀ k, manyTo L2 k ≤ m) := Lib.hid (fun k => Nat.le_trans (many_most L2 k) E1.out.bufs.len)
        have ms : Hid (∀ k, manyTo L2 (k + 1) = manyTo L2 k + if (get L2 k).isSome then 1 else 0) := Lib.hid (fun k => rfl)
        go_wp2_with fail
        go_loopw [18, 19] (fun u q wx => ∃ k : Nat, k ≤ n ∧ u = .int .i64 (manyTo L2 k) ∧ q = .int .i64 k ∧ w5 = wx) (fun _ q _ => n - (intOf q).toNat)
        case atStart => exact ⟨0, by omega, rfl, rfl, rfl⟩
        case round =>
          obtain ⟨k, hk, rfl, rfl, rfl⟩ := hrel
          have hmk := mm.out k
          by_cases hkn : k < n
          · have j1 : (k : Int) < (n : Int) := by omega
            have qh := Lib.hid (HH.out k hkn)
            have hms := Lib.hid (ms.out k)
            generalize manyTo L2 k = mk at *
            cases hgs : (Bufs.get L2 k).isSome
            · rw [hgs] at qh hms
              have hms2 : Hid (manyTo L2 (k + 1) = mk) := Lib.hid (by rw [hms.out]; simp)
              clear hgs hms HH ms
              go_wp2_with fail
              (with_reducible refine qb.out.mono ?_)
              rintro e w6 ⟨rfl, rfl⟩
              go_wp2_with fail
              (with_reducible refine qh.out.mono ?_)
              rintro e w6 ⟨rfl, rfl⟩
              clear qh qb
              go_wp2_with fail
              go_roundw
              case rel => exact ⟨k + 1, by omega, by rw [hms2.out], by go_num, trivial⟩
              case measure => simp [intOf]; omega
            · rw [hgs] at qh hms
              have hms2 : Hid (manyTo L2 (k + 1) = mk + 1) := Lib.hid (by rw [hms.out]; simp)
              clear hgs hms HH ms
              go_wp2_with fail
              (with_reducible refine qb.out.mono ?_)
              rintro e w6 ⟨rfl, rfl⟩
              go_wp2_with fail
              (with_reducible refine qh.out.mono ?_)
              rintro e w6 ⟨rfl, rfl⟩
              clear qh qb
              go_wp2_with fail
              go_roundw
              case rel => exact ⟨k + 1, by omega, by rw [hms2.out]; go_num, by go_num, trivial⟩
              case measure => simp [intOf]; omega
          · obtain rfl : k = n := by omega
            clear HH ms mm
            have qh := cs_has E1.out (at0 : Int)
            rw [MI.out.klen, MI.out.isHere] at qh
            have qh := Lib.hid qh
            have hkc := K1.out
            go_wp2_with fail
            (with_reducible refine qb.out.mono ?_)
            rintro e w6 ⟨rfl, rfl⟩
            go_wp2_with fail
            refine (hf0.out _).mono ?_
            rintro e w7 ⟨rfl, b7⟩
            have E7 := Lib.hid (E1.out.below b7)
            have B7 := Lib.hid (E3.out.trans (b7.mono E3.out.size))
            have qh := cs_has E7.out (at0 : Int)
            rw [MI.out.klen, MI.out.isHere] at qh
            have qh := Lib.hid qh
            have qp := cs_pinned E7.out
            rw [MI.out.klen] at qp
            have qp := Lib.hid qp
            clear b7 E1 E3
            go_wp2_with fail
            (with_reducible refine qh.out.mono ?_)
            rintro e w8 ⟨rfl, rfl⟩
            clear qh
            go_wp2_with fail
            (with_reducible refine qp.out.mono ?_)
            rintro e w8 ⟨⟨v, rfl, h5⟩, b8⟩
            have E8 := Lib.hid (E7.out.below b8)
            have B8 := Lib.hid (B7.out.trans (b8.mono B7.out.size))
            have q7 := in_head h5 (by have := blocksOf_length L2 PB.pinned k; omega) (at0 : Int)
            rw [decide_eq_true MI.out.isPinned] at q7
            have q7 := Lib.hid q7
            have qd := cs_dirty E8.out
            rw [MI.out.klen] at qd
            have qd := Lib.hid qd
            clear qp h5 b8 E7 B7
            go_wp2_with fail
            (with_reducible refine q7.out.mono ?_)
            rintro e w9 ⟨rfl, rfl⟩
            clear q7
            go_wp2_with fail
            (with_reducible refine qd.out.mono ?_)
            rintro e w9 ⟨⟨v2, rfl, h5⟩, b9⟩
            have E9 := Lib.hid (E8.out.below b9)
            have B9 := Lib.hid (B8.out.trans (b9.mono B8.out.size))
            have q7 := in_head h5 (by have := blocksOf_length L2 PB.dirty k; omega) (at0 : Int)
            rw [decide_eq_true MI.out.isDirty] at q7
            have q7 := Lib.hid q7
            have kc9 := (B9.out.cell (p := ⟨w.heap.size, 1, none⟩) HX).trans K1.out
            have hle : ¬ ((m : Int) < (manyTo L2 k : Int)) := by omega
            clear qd h5 b9 E8 B8
            go_wp2_with fail
            (with_reducible refine q7.out.mono ?_)
            rintro e w10 ⟨rfl, rfl⟩
            clear q7
            have hct2 := hct.out
            generalize manyTo L2 k = mk at *
            go_wp2_with fail
            go_roundw
            case rel => exact ⟨i + 1, D2, L2, S, by omega, rfl, by go_num, E9, MI, B9⟩
            case measure => simp [intOf]; omega
      have s6 : ((r : Int) == 6) = false := by rw [beq_eq_false_iff_ne]; omega
      have s6a : ¬ (r : Int) = 6 := by omega
      have s7 : ((r : Int) == 7) = false := by rw [beq_eq_false_iff_ne]; omega
      have s7a : ¬ (r : Int) = 7 := by omega
      have s12 : ((r : Int) == 12) = false := by rw [beq_eq_false_iff_ne]; omega
      have s12a : ¬ (r : Int) = 12 := by omega
      have k3 : (3 : Int) ≤ (r : Int) := by omega
      have k3a : decide ((3 : Int) ≤ (r : Int)) = true := decide_eq_true k3
      have k6 : ¬ (r : Int) < 6 := by omega
      have k6a : decide ((r : Int) < 6) = false := decide_eq_false k6
      go_wp2_with fail
      (with_reducible refine q.out.mono ?_)
      rintro e5 w5 ⟨rfl, d1, d2⟩
      obtain ⟨e1, e3, e4⟩ := STEP.out w5 d1 d2
      have E1 := Lib.hid e1; have E3 := Lib.hid e3
      clear d1 d2 e1 e3 q STEP
      obtain ⟨y0, y1, y2, y3, y4, y5⟩ := e4
      clear hwhat
      have q1 := read_any E1.out.dev (at0 : Int)
      rw [MI.out.reads.1, MI.out.reads.2] at q1
      have q1 := Lib.hid q1
      go_wp2_with fail
      (with_reducible refine q1.out.mono ?_)
      rintro e w6 ⟨rfl, rfl⟩
      clear q1
      have qb := blocks_any E1.out.dev
      rw [MI.out.klen] at qb
      have qb := Lib.hid qb
      have HH : Hid (∀ k : Nat, k < n → Calls Try.prog 13 #[.pointer (some ⟨cb, 0, none⟩), .int .i64 k] w5 fun e w' => e = .returned (.bool (get L2 k).isSome) ∧ w5 = w') := Lib.hid (fun k hk => by
        have := cs_has E1.out (k : Int)
        rw [MI.out.klen, has_some L2 n k hk] at this
        exact this)
      have mm : Hid (∀ k, manyTo L2 k ≤ m) := Lib.hid (fun k => Nat.le_trans (many_most L2 k) E1.out.bufs.len)
      have ms : Hid (∀ k, manyTo L2 (k + 1) = manyTo L2 k + if (get L2 k).isSome then 1 else 0) := Lib.hid (fun k => rfl)
      go_wp2_with fail
      go_loopw [18, 19] (fun u q wx => ∃ k : Nat, k ≤ n ∧ u = .int .i64 (manyTo L2 k) ∧ q = .int .i64 k ∧ w5 = wx) (fun _ q _ => n - (intOf q).toNat)
      case atStart => exact ⟨0, by omega, rfl, rfl, rfl⟩
      case round =>
        obtain ⟨k, hk, rfl, rfl, rfl⟩ := hrel
        have hmk := mm.out k
        by_cases hkn : k < n
        · have j1 : (k : Int) < (n : Int) := by omega
          have qh := Lib.hid (HH.out k hkn)
          have hms := Lib.hid (ms.out k)
          generalize manyTo L2 k = mk at *
          cases hgs : (Bufs.get L2 k).isSome
          · rw [hgs] at qh hms
            have hms2 : Hid (manyTo L2 (k + 1) = mk) := Lib.hid (by rw [hms.out]; simp)
            clear hgs hms HH ms
            go_wp2_with fail
            (with_reducible refine qb.out.mono ?_)
            rintro e w6 ⟨rfl, rfl⟩
            go_wp2_with fail
            (with_reducible refine qh.out.mono ?_)
            rintro e w6 ⟨rfl, rfl⟩
            clear qh qb
            go_wp2_with fail
            go_roundw
            case rel => exact ⟨k + 1, by omega, by rw [hms2.out], by go_num, trivial⟩
            case measure => simp [intOf]; omega
          · rw [hgs] at qh hms
            have hms2 : Hid (manyTo L2 (k + 1) = mk + 1) := Lib.hid (by rw [hms.out]; simp)
            clear hgs hms HH ms
            go_wp2_with fail
            (with_reducible refine qb.out.mono ?_)
            rintro e w6 ⟨rfl, rfl⟩
            go_wp2_with fail
            (with_reducible refine qh.out.mono ?_)
            rintro e w6 ⟨rfl, rfl⟩
            clear qh qb
            go_wp2_with fail
            go_roundw
            case rel => exact ⟨k + 1, by omega, by rw [hms2.out]; go_num, by go_num, trivial⟩
            case measure => simp [intOf]; omega
        · obtain rfl : k = n := by omega
          clear HH ms mm
          have qh := cs_has E1.out (at0 : Int)
          rw [MI.out.klen, MI.out.isHere] at qh
          have qh := Lib.hid qh
          have hkc := K1.out
          go_wp2_with fail
          (with_reducible refine qb.out.mono ?_)
          rintro e w6 ⟨rfl, rfl⟩
          go_wp2_with fail
          refine (hf0.out _).mono ?_
          rintro e w7 ⟨rfl, b7⟩
          have E7 := Lib.hid (E1.out.below b7)
          have B7 := Lib.hid (E3.out.trans (b7.mono E3.out.size))
          have qh := cs_has E7.out (at0 : Int)
          rw [MI.out.klen, MI.out.isHere] at qh
          have qh := Lib.hid qh
          have qp := cs_pinned E7.out
          rw [MI.out.klen] at qp
          have qp := Lib.hid qp
          clear b7 E1 E3
          go_wp2_with fail
          (with_reducible refine qh.out.mono ?_)
          rintro e w8 ⟨rfl, rfl⟩
          clear qh
          go_wp2_with fail
          (with_reducible refine qp.out.mono ?_)
          rintro e w8 ⟨⟨v, rfl, h5⟩, b8⟩
          have E8 := Lib.hid (E7.out.below b8)
          have B8 := Lib.hid (B7.out.trans (b8.mono B7.out.size))
          have q7 := in_head h5 (by have := blocksOf_length L2 PB.pinned k; omega) (at0 : Int)
          rw [decide_eq_true MI.out.isPinned] at q7
          have q7 := Lib.hid q7
          have qd := cs_dirty E8.out
          rw [MI.out.klen] at qd
          have qd := Lib.hid qd
          clear qp h5 b8 E7 B7
          go_wp2_with fail
          (with_reducible refine q7.out.mono ?_)
          rintro e w9 ⟨rfl, rfl⟩
          clear q7
          go_wp2_with fail
          (with_reducible refine qd.out.mono ?_)
          rintro e w9 ⟨⟨v2, rfl, h5⟩, b9⟩
          have E9 := Lib.hid (E8.out.below b9)
          have B9 := Lib.hid (B8.out.trans (b9.mono B8.out.size))
          have q7 := in_head h5 (by have := blocksOf_length L2 PB.dirty k; omega) (at0 : Int)
          rw [decide_eq_true MI.out.isDirty] at q7
          have q7 := Lib.hid q7
          have kc9 := (B9.out.cell (p := ⟨w.heap.size, 1, none⟩) HX).trans K1.out
          have hle : ¬ ((m : Int) < (manyTo L2 k : Int)) := by omega
          clear qd h5 b9 E8 B8
          go_wp2_with fail
          (with_reducible refine q7.out.mono ?_)
          rintro e w10 ⟨rfl, rfl⟩
          clear q7
          have hct2 := hct.out
          generalize manyTo L2 k = mk at *
          go_wp2_with fail
          go_roundw
          case rel => exact ⟨i + 1, D2, L2, S, by omega, rfl, by go_num, E9, MI, B9⟩
          case measure => simp [intOf]; omega
    · obtain rfl : i = l.length := by omega
      have g1 := hI.out.gets m
      have q1 := cs_get hC.out (by omega) (at0 : Int)
      have I1 := Lib.hid (hI.out.getS m (at0 : Int))
      rw [g1.1] at q1
      have g2 := g1.2
      generalize getS D L m (at0 : Int) = Z at *
      obtain ⟨Z1, D1, L1⟩ := Z
      dsimp only at q1 g1 g2 I1
      subst g2
      have q1 := Lib.hid q1
      have I1 := Lib.hid (I1.out)
      clear hI g1
      go_wp2_with fail
      (with_reducible refine q1.out.mono ?_)
      rintro e w6 ⟨rfl, c6, f6⟩
      have C6 := Lib.hid c6
      have B6 := Lib.hid (fr_below hB.out (Nat.le_refl _) f6)
      have q2 := Lib.hid (cs_arm c6 (-1) (by omega))
      clear q1 c6 f6 hC hB
      go_wp2_with fail
      (with_reducible refine q2.out.mono ?_)
      rintro e w7 ⟨rfl, c7, f7⟩
      have B7 := Lib.hid (fr_below B6.out (Nat.le_refl _) f7)
      have I2 := (I1.out.dev (D' := D1.arm (-1)) rfl rfl)
      have hE := I2.ends rfl
      have hkl : (D1.arm (-1)).kept.length = n := I2.klen
      have q3 := Lib.hid (cs_unpin c7 (at0 : Int))
      clear q2 c7 f7 C6 B6 I1 I2
      generalize D1.arm (-1) = D2 at *
      generalize unpinS D2 L1 (at0 : Int) = L2 at *
      go_wp2_with fail
      (with_reducible refine q3.out.mono ?_)
      rintro e w8 ⟨rfl, c8, f8⟩
      have B8 := Lib.hid (fr_below B7.out (Nat.le_refl _) f8)
      have q4 := cs_out c8 (by omega) (at0 : Int)
      rw [hE.1] at q4
      have q4 := Lib.hid q4
      have hkl2 := outB_len D2 L2 (at0 : Int)
      rw [hkl] at hkl2
      have hE := hE.2
      generalize outB D2 L2 (at0 : Int) = Z at *
      obtain ⟨Z3, D3, L3⟩ := Z
      dsimp only at hE hkl2
      have q4 : Hid (Calls Try.prog 22 #[.pointer (some ⟨cb, 0, none⟩), .int .i64 (at0 : Int)] w8 fun e w' => e = .returned (.int .i64 0) ∧ CS w1.heap.size w' cb db y D3 m L3 [] (1 + 6000 * l.length + 1 + 1) ∧ Fr w1.heap.size [] w8 w') := q4
      clear q3 c8 f8 B7
      obtain ⟨h1, h2, h3⟩ := hE
      have H3 := Lib.hid h3
      clear h3
      go_wp2_with fail
      (with_reducible refine q4.out.mono ?_)
      rintro e w9 ⟨rfl, c9, f9⟩
      have C9 := Lib.hid c9
      have B9 := Lib.hid (fr_below B8.out (Nat.le_refl _) f9)
      have q5 := read_any c9.dev (at0 : Int)
      rw [h1, h2] at q5
      have q5 := Lib.hid q5
      have q6 := cs_dirty c9
      rw [hkl2] at q6
      have q6 := Lib.hid q6
      clear q4 c9 f9 B8 h1 h2 hkl hkl2
      go_wp2_with fail
      (with_reducible refine q5.out.mono ?_)
      rintro e w10 ⟨rfl, rfl⟩
      clear q5
      go_wp2_with fail
      (with_reducible refine q6.out.mono ?_)
      rintro e w11 ⟨⟨v, rfl, h5⟩, b11⟩
      have B11 := Lib.hid (B9.out.trans (b11.mono B9.out.size))
      have q7 := in_head h5 (by have := blocksOf_length L3 PB.dirty n; omega) (at0 : Int)
      rw [decide_eq_false H3.out] at q7
      have q7 := Lib.hid q7
      clear q6 h5 b11 B9 H3
      go_wp2_with fail
      (with_reducible refine q7.out.mono ?_)
      rintro e w12 ⟨rfl, rfl⟩
      clear q7
      go_wp2_with fail
      (with_reducible refine (qal.out _).mono ?_)
      rintro e w13 ⟨rfl, b13⟩
      have B13 := Lib.hid (B11.out.trans (b13.mono B11.out.size))
      clear b13
      go_wp2_with fail
      go_ret
      exact ⟨rfl, B1.out.trans (B13.out.mono B1.out.size)⟩

end Go.Proofs.Ytlickjaopbcanaa
