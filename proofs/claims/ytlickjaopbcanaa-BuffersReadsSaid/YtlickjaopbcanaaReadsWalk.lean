/- BuffersReads: the walk. -/
import Derived.Test.YtlickjaopbcanaaReadsMath
import Derived.Test.YtlickjaopbcanaaCacheD
namespace Go.Proofs.Ytlickjaopbcanaa
open Go Go.RowKit Bufs
variable {w : World}

theorem info_str : (Try.prog.info? 9).map (fun i => (i.zero, i.size, i.bytes)) = some (some (.string ByteArray.empty), 1, 16) := by kernel_rfl
/-- The first j of n are blocks of zeros. -/
def zerosTo (n j : Nat) : List ByteArray := List.replicate j (blk 0) ++ List.replicate (n - j) noB
theorem zerosTo_len (n j : Nat) (h : j ≤ n) : (zerosTo n j).length = n := by simp [zerosTo]; omega
theorem zerosTo_set (n j : Nat) (h : j < n) : (zerosTo n j).set j (blk 0) = zerosTo n (j + 1) := by
  unfold zerosTo
  rw [List.set_append_right _ _ (by simp), List.length_replicate, Nat.sub_self, show n - j = (n - (j + 1)) + 1 by omega, List.replicate_succ, List.set_cons_zero, List.replicate_succ']
  simp
theorem zerosTo_all (n : Nat) : zerosTo n n = List.replicate n (blk 0) := by simp [zerosTo]
theorem strs_at (l : List ByteArray) (j : Nat) (h : j < l.length) : (strs l)[j]? = some (.string (l.getD j noB)) := by simp [strs, List.getD, h]
theorem strs_len (l : List ByteArray) : (strs l).length = l.length := by simp [strs]
theorem strs_set (l : List ByteArray) (j : Nat) (s : ByteArray) : (strs l).set j (.string s) = strs (l.set j s) := by simp [strs, List.map_set]
theorem row_fr {B g : Nat} {E : List Nat} {w w' : World} {T : TypeId} {cs : List Value} (h : Row w g T cs) (hf : Fr B E w w') (hg : g ∈ E) : Row w' g T cs := by
  obtain ⟨fr, h1, h2⟩ := h
  exact ⟨fr, by rw [hf.block g (lt_of_block h1) (.inr hg)]; exact h1, h2⟩
theorem ActAt.set {w : World} {X g j : Nat} {kz xb xn fz : Int} {pin : Bool} {data : ByteArray} (h : ActAt w X kz xb xn fz pin data) (hne : X ≠ g) (v : Value) : ActAt (w.setCell ⟨g, j, none⟩ v) X kz xb xn fz pin data := h.same (Below.heap_setCell _ _ _ _ hne)

set_option maxRecDepth 100000 in
set_option maxHeartbeats 8000000 in
theorem BuffersReads_walk (a c : UInt8) (ad : Option Addr) (cap : Nat) (l : List ActC) (h : ActsIn w ad cap l) : Calls Try.prog 5 #[.agg #[bval a, bval c], .slice ad l.length cap] w fun e w' => e = .returned (.bool true) ∧ Below w.heap.size w w' := by
  obtain ⟨ib, hib, hzb, hsb, hbb⟩ := info_parts info_str
  have hcap := h.len
  have qal := Lib.hid alive_any
  have qm := Lib.hid (made_cache a c)
  have hc0 := c.toNat_lt
  have hm1 : 1 ≤ sizeOf1 c ∧ sizeOf1 c ≤ 8 := by unfold sizeOf1; omega
  have hn : 1 ≤ sizeOf0 a ∧ sizeOf0 a ≤ 16 := by unfold sizeOf0; omega
  have hzk : Hid ((zeros (sizeOf0 a)).kept.length = sizeOf0 a) := Lib.hid (by simp [zeros, Dev.fresh])
  have hzn : Hid ((zeros (sizeOf0 a)).now = List.replicate (sizeOf0 a) (blk 0)) := Lib.hid rfl
  generalize sizeOf0 a = n at *
  generalize sizeOf1 c = m at *
  unfold bval at *
  generalize (a.toNat : Int) = ai at *
  generalize (c.toNat : Int) = ci at *
  have b0 : Below w.heap.size w (w.alloc (.cells #[.int .u8 ai, .int .u8 ci] 22)) := (Below.refl _ _).alloc (Nat.le_refl _) _
  have hg := Lib.hid (great_any ad cap l (h.below b0))
  have H0 := Lib.hid (h.below b0)
  have kc : Hid (∀ wx, Below (w.heap.size + 1) (w.alloc (.cells #[.int .u8 ai, .int .u8 ci] 22)) wx → wx.cell? ⟨w.heap.size, 0, none⟩ = some (.int .u8 ai) ∧ wx.cell? ⟨w.heap.size, 1, none⟩ = some (.int .u8 ci)) := Lib.hid (fun wx hb => by
    have e : ∀ k, wx.cell? ⟨w.heap.size, k, none⟩ = _ := fun k => (hb.cell (p := ⟨w.heap.size, k, none⟩) (by dsimp only; omega)).trans (cell_of_row _ _ _ _ _ _ (heap_alloc_new w _))
    exact ⟨(e 0).trans rfl, (e 1).trans rfl⟩)
  have hsz : Hid ((w.alloc (.cells #[.int .u8 ai, .int .u8 ci] 22)).heap.size = w.heap.size + 1) := Lib.hid (by simp)
  have B0 := Lib.hid b0
  clear h b0 hc0
  go_enter Try.func5, Try.ntmps5
  go_wp2_with fail
  refine hg.out.mono ?_
  generalize w.alloc (.cells #[.int .u8 ai, .int .u8 ci] 22) = W at *
  rintro e w1 ⟨gb, rfl, b1, hgt⟩
  have H1 := Lib.hid (H0.out.below b1)
  have B1 := Lib.hid (B0.out.trans (b1.mono B0.out.size))
  obtain ⟨k0, k1⟩ := kc.out w1 (by have := b1; rw [hsz.out] at this; exact this)
  clear hg H0 kc B0 hsz b1
  cases gb
  case true =>
    go_wp2_with fail
    go_ret
    exact ⟨rfl, B1.out⟩
  have hl150 : l.length ≤ 150 := hgt.out rfl
  clear hgt
  go_wp2_with fail
  refine (qm.out _).mono ?_
  rintro e w2 ⟨db, cb, y, rfl, c2, b2⟩
  have C2 := Lib.hid c2
  have B2 := Lib.hid b2
  have qb := blocks_any c2.dev
  rw [hzk.out] at qb
  have qb := Lib.hid qb
  have hmk : ∀ wx : World, (Instr.makeSlice 42 (.int .i64 (n : Int)) (.int .i64 (n : Int))).run Try.prog wx = .ok (.slice (some ⟨wx.heap.size, 0, none⟩) n n) (wx.alloc (.cells (strs (zerosTo n 0)).toArray 9)) := fun wx => by
    have hr := run_make (P := Try.prog) wx 42 9 ib (.string ByteArray.empty) Try.underlying42 hib hzb .i64 .i64 n n (by omega) (by omega) (by rw [hbb]; omega) (by omega)
    have e : strs (zerosTo n 0) = List.replicate n (.string ByteArray.empty) := by
      rw [show zerosTo n 0 = List.replicate n noB by simp [zerosTo]]
      simp only [strs, List.map_replicate]
      rfl
    rw [e]
    simpa [hsb, Value.cells, madeCells_one] using hr
  clear c2 b2 qm k0 k1
  go_wp2_with fail
  (with_reducible refine qb.out.mono ?_)
  rintro e w3 ⟨rfl, rfl⟩
  clear qb
  go_wp2_with fail
  have C3 := Lib.hid (C2.out.plus (.cells (strs (zerosTo n 0)).toArray 9))
  have R3 : Hid (Row (w2.alloc (.cells (strs (zerosTo n 0)).toArray 9)) w2.heap.size 9 (strs (zerosTo n 0))) := Lib.hid (Row.new w2 _ _ rfl)
  have B3 : Hid (Below w1.heap.size w1 (w2.alloc (.cells (strs (zerosTo n 0)).toArray 9))) := Lib.hid (B2.out.alloc B2.out.size _)
  have hf : Hid (∀ w, Calls Try.prog 21 #[.int .u8 0] w fun e w' => e = .returned (.string (blk 0)) ∧ Below w.heap.size w w') := Lib.hid (fun w => fill_any 0 w)
  have hgB : Hid (w1.heap.size ≤ w2.heap.size) := Lib.hid B2.out.size
  generalize w2.alloc (.cells (strs (zerosTo n 0)).toArray 9) = w3 at *
  generalize w2.heap.size = g at *
  clear C2 B2 hmk
  go_loopw [8] (fun q wr => ∃ j : Nat, j ≤ n ∧ q = .int .i64 j ∧ Hid (CS w1.heap.size wr cb db y (zeros n) m [] [g] 0) ∧ Hid (Row wr g 9 (strs (zerosTo n j))) ∧ Hid (Below w1.heap.size w1 wr)) (fun q _ => n - (intOf q).toNat)
  case atStart => exact ⟨0, by omega, rfl, C3, R3, B3⟩
  case round =>
    obtain ⟨j, hj, rfl, hC, hR, hB⟩ := hrel
    by_cases hlt : j < n
    · have i0 : (0 : Int) ≤ (j : Int) := by omega
      have i1 : (j : Int) < (n : Int) := by omega
      have hjl : j < (strs (zerosTo n j)).length := by rw [strs_len, zerosTo_len n j hj]; exact hlt
      go_wp2_with fail
      refine (hf.out _).mono ?_
      rintro e w4 ⟨rfl, b4⟩
      have hR4 := hR.out.below b4 hR.out.lt
      obtain ⟨u, cu⟩ := Row.has hR4 hjl
      have zu := hR4.free j hjl
      have C4 := Lib.hid ((hC.out.below b4).only (S := [g]) (Only.setCell w4 ⟨g, j, none⟩ (.string (blk 0)) (List.mem_singleton.2 rfl)) (fun _ h => h))
      have R4 : Hid (Row (w4.setCell ⟨g, j, none⟩ (.string (blk 0))) g 9 (strs (zerosTo n (j + 1)))) := Lib.hid (by
        have := hR4.set j (.string (blk 0))
        rwa [strs_set, zerosTo_set n j hlt] at this)
      have B4 := Lib.hid ((hB.out.trans (b4.mono hB.out.size)).setCell (p := ⟨g, j, none⟩) hgB.out (.string (blk 0)))
      clear hR4 b4 hC hR hB hjl
      go_wp2_with fail
      go_roundw
      case rel => exact ⟨j + 1, by omega, by go_num, C4, R4, B4⟩
      case measure => simp [intOf]; omega
    · obtain rfl : j = n := by omega
      have R5 : Hid (Row wr g 9 (strs (List.replicate j (blk 0)))) := Lib.hid (by rw [← zerosTo_all]; exact hR.out)
      have I5 : Hid (ReadInv j (zeros j) [] (List.replicate j (blk 0))) := Lib.hid ⟨hzk.out, by rw [hzn.out]; simp, List.Pairwise.nil, (fun _ h => nomatch h), by simp, (fun _ h => nomatch h), fun b _ _ => by rw [hzn.out]⟩
      clear hR C3 R3 B3
      go_wp2_with fail
      go_loopw [9] (fun q wx => ∃ (i : Nat) (D : Dev) (L : PL) (want : List ByteArray), i ≤ l.length ∧ q = .int .i64 i ∧ Hid (CS w1.heap.size wx cb db y D m L [g] (6000 * i)) ∧ Hid (Row wx g 9 (strs want)) ∧ Hid (ReadInv j D L want) ∧ Hid (Below w1.heap.size w1 wx)) (fun q _ => l.length - (intOf q).toNat)
      case atStart => exact ⟨0, _, _, _, by omega, rfl, hC, R5, I5, hB⟩
      case round =>
        obtain ⟨i, D, L, want, hi, rfl, hC, hR, hI, hB⟩ := hrel
        by_cases hil : i < l.length
        · have i0 : (0 : Int) ≤ (i : Int) := by omega
          have i1 : (i : Int) < (l.length : Int) := by omega
          obtain ⟨ga, off, rfl, c0, c1, c2, c3, c4, c5⟩ := (H1.out.below hB.out).at i hil
          have hok := H1.out.okAt i hil
          generalize l.getD i default = x at *
          obtain ⟨r, hr⟩ : ∃ r, x.kind.toNat % 13 = r := ⟨_, rfl⟩
          have hr13 : r < 13 := by omega
          have hkz := x.kind.toNat_lt
          have htm : Int.tmod (x.kind.toNat : Int) 13 = ((r : Nat) : Int) := by rw [Int.tmod_eq_emod_of_nonneg (by omega)]; omega
          have hS : doesS D L m x = doesR r D L m x := by unfold doesS; rw [hr]
          have HD := Lib.hid (fun E w' (h : CS w1.heap.size w' cb db y D m L E (6000 * i)) => does_any h (by omega) x hok)
          rw [hS] at HD
          have hM := hI.out.does (by rw [hI.out.len, hI.out.klen]) m r x
          have hwhat := fun w => Lib.hid (what_any x w)
          clear hS hr hkz hok
          obtain ⟨kind, xb, xn, fill, pin, data⟩ := x
          dsimp only [actCells] at c0 c1 c2 c3 c4 c5 htm HD hM hwhat
          unfold bval at c0 c3 HD hwhat
          generalize (ActC.what ⟨kind, xb, xn, fill, pin, data⟩) = T at *
          generalize doesR r D L m ⟨kind, xb, xn, fill, pin, data⟩ = Z at *
          generalize (kind.toNat : Int) = kz at *
          generalize (fill.toNat : Int) = fz at *
          have hat := ActAt.new wr kz xb xn fz pin data
          have cW := Lib.hid (hC.out.plus (.cells #[.int .u8 kz, .int .i64 xb, .int .i64 xn, .int .u8 fz, .bool pin, .string data] 57))
          have bW : Hid (Below w1.heap.size w1 (wr.alloc (.cells #[.int .u8 kz, .int .i64 xb, .int .i64 xn, .int .u8 fz, .bool pin, .string data] 57))) := Lib.hid (hB.out.alloc hB.out.size _)
          have rW : Hid (Row (wr.alloc (.cells #[.int .u8 kz, .int .i64 xb, .int .i64 xn, .int .u8 fz, .bool pin, .string data] 57)) g 9 (strs want)) := Lib.hid (hR.out.alloc _)
          have hXg : wr.heap.size ≠ g := by have := hR.out.lt; omega
          have wl : want.length = j := hI.out.wl
          have HSK := Lib.hid ((cW.out.less (E' := [g]) (fun j hj => List.mem_cons_of_mem _ hj)).mono (k' := 6000 * (i + 1)) (by omega))
          have q := Lib.hid (HD _ _ cW.out)
          clear HD hC hR hB
          by_cases h7 : r = 7
          · have k7 : ((r : Int) == 7) = true := by simp; omega
            have k7' : (r : Int) = 7 := by omega
            clear q hwhat hM cW hat h7
            go_wp2_with fail
            go_roundw
            case rel => exact ⟨i + 1, D, L, want, by omega, by go_num, HSK, rW, hI, bW⟩
            case measure => simp [intOf]; omega
          have k7 : ((r : Int) == 7) = false := by rw [beq_eq_false_iff_ne]; omega
          have k7' : ¬ (r : Int) = 7 := by omega
          by_cases h12 : r = 12
          · have k12 : ((r : Int) == 12) = true := by simp; omega
            have k12' : (r : Int) = 12 := by omega
            clear q hwhat hM cW hat h7 h12
            go_wp2_with fail
            go_roundw
            case rel => exact ⟨i + 1, D, L, want, by omega, by go_num, HSK, rW, hI, bW⟩
            case measure => simp [intOf]; omega
          have k12 : ((r : Int) == 12) = false := by rw [beq_eq_false_iff_ne]; omega
          have k12' : ¬ (r : Int) = 12 := by omega
          obtain ⟨m1, m2, m3⟩ := hM h7 (by omega)
          clear hM h7 h12 HSK hI
          obtain ⟨⟨s, e⟩, D2, L2⟩ := Z
          dsimp only at m1 m2 m3
          unfold Hid at q
          dsimp only at q
          have q := Lib.hid q
          have STEP : Hid (∀ wy, CS w1.heap.size wy cb db y D2 m L2 (wr.heap.size :: [g]) (6000 * i + 6000) → Fr w1.heap.size (wr.heap.size :: [g]) (wr.alloc (.cells #[.int .u8 kz, .int .i64 xb, .int .i64 xn, .int .u8 fz, .bool pin, .string data] 57)) wy → CS w1.heap.size wy cb db y D2 m L2 [g] (6000 * (i + 1)) ∧ Row wy g 9 (strs want) ∧ Below w1.heap.size w1 wy ∧ ActAt wy wr.heap.size kz xb xn fz pin data) := Lib.hid (fun wy h1 h2 => ⟨(h1.less (fun j hj => List.mem_cons_of_mem _ hj)).mono (by omega), row_fr rW.out h2 (List.mem_cons_of_mem _ (List.mem_singleton.2 rfl)), fr_below bW.out (Nat.le_refl _) h2, hat.fr h2⟩)
          clear rW bW cW
          by_cases h3 : r < 3
          · have k3 : (r : Int) < 3 := by omega
            have k3' : decide ((r : Int) < 3) = true := decide_eq_true k3
            obtain ⟨mi, me⟩ := m1 h3
            have MI := Lib.hid mi
            clear m1 m2 m3 mi hwhat
            by_cases he : e = 0
            · subst he
              obtain ⟨x0, x1, x2⟩ := me rfl
              obtain ⟨bb, rfl⟩ : ∃ bb : Nat, xb = (bb : Int) := ⟨xb.toNat, by omega⟩
              rw [Int.toNat_natCast] at x2
              subst x2
              have hcw : Hid (∀ wy, Row wy g 9 (strs want) → wy.cell? ⟨g, bb, none⟩ = some (.string (want.getD bb noB))) := Lib.hid (fun wy h => h.cellAt bb (strs_at want bb (by omega)))
              have x3 : ¬ ((bb : Int) < 0) := by omega
              have x4 : ¬ ((j : Int) ≤ (bb : Int)) := by omega
              have x5 : decide ((bb : Int) < 0) = false := by simp
              have x6 : decide ((j : Int) ≤ (bb : Int)) = false := by simp; omega
              clear me
              generalize want.getD bb noB = S at *
              clear hat
              go_wp2_with fail
              (with_reducible refine q.out.mono ?_)
              rintro e w5 ⟨rfl, d1, d2⟩
              obtain ⟨e1, e2, e3, e4⟩ := STEP.out w5 d1 d2
              obtain ⟨y0, y1, y2, y3, y4, y5⟩ := e4
              have kw := hcw.out w5 e2
              have E1 := Lib.hid e1; have E2 := Lib.hid e2; have E3 := Lib.hid e3
              clear d1 d2 e1 e2 e3 q STEP hcw
              go_wp2_with fail
              go_roundw
              case rel => exact ⟨i + 1, D2, L2, want, by omega, by go_num, E1, E2, MI, E3⟩
              case measure => simp [intOf]; omega
            · have he' : (e == 0) = false := by rw [beq_eq_false_iff_ne]; exact he
              clear me
              clear hat
              go_wp2_with fail
              (with_reducible refine q.out.mono ?_)
              rintro e w5 ⟨rfl, d1, d2⟩
              obtain ⟨e1, e2, e3, e4⟩ := STEP.out w5 d1 d2
              have E1 := Lib.hid e1; have E2 := Lib.hid e2; have E3 := Lib.hid e3
              clear d1 d2 e1 e2 e3 e4 q STEP
              go_wp2_with fail
              go_roundw
              case rel => exact ⟨i + 1, D2, L2, want, by omega, by go_num, E1, E2, MI, E3⟩
              case measure => simp [intOf]; omega
          have k3 : ¬ (r : Int) < 3 := by omega
          have k3' : decide ((r : Int) < 3) = false := by simp; omega
          have k3'' : (3 : Int) ≤ (r : Int) := by omega
          by_cases h6 : r < 6
          · have k6 : (r : Int) < 6 := by omega
            have k6' : decide ((r : Int) < 6) = true := by simp; omega
            obtain ⟨ma, mb⟩ := m2 (by omega) h6
            clear m1 m2 m3
            by_cases he : e = 0
            · subst he
              obtain ⟨x0, x1, mi⟩ := ma rfl
              obtain ⟨bb, rfl⟩ : ∃ bb : Nat, xb = (bb : Int) := ⟨xb.toNat, by omega⟩
              rw [Int.toNat_natCast] at mi
              have MI := Lib.hid mi
              have x3 : ¬ ((bb : Int) < 0) := by omega
              have x4 : ¬ ((j : Int) ≤ (bb : Int)) := by omega
              have x5 : decide ((bb : Int) < 0) = false := by simp
              have x6 : decide ((j : Int) ≤ (bb : Int)) = false := by simp; omega
              have x7 : (bb : Int) < (j : Int) := by omega
              have hbl : bb < (strs want).length := by rw [strs_len]; omega
              clear ma mb mi hat
              go_wp2_with fail
              (with_reducible refine q.out.mono ?_)
              rintro e w5 ⟨rfl, d1, d2⟩
              obtain ⟨e1, e2, e3, e4⟩ := STEP.out w5 d1 d2
              have e4' := e4
              obtain ⟨y0, y1, y2, y3, y4, y5⟩ := e4
              have E1 := Lib.hid e1; have E2 := Lib.hid e2; have E3 := Lib.hid e3
              have hgl := e2.lt
              clear d1 d2 e1 e2 e3 q STEP
              go_wp2_with fail
              generalize wr.heap.size = X at *
              go_region_held3 (fun w' => w'.cell? ⟨X, 0, none⟩ = some (.int .u8 kz) ∧ w'.cell? ⟨X, 1, none⟩ = some (.int .i64 bb) ∧ w'.cell? ⟨X, 2, none⟩ = some (.int .i64 xn) ∧ w'.cell? ⟨X, 3, none⟩ = some (.int .u8 fz) ∧ w'.cell? ⟨X, 4, none⟩ = some (.bool pin) ∧ w'.cell? ⟨X, 5, none⟩ = some (.string data))
                (first | exact ⟨y0, y1, y2, y3, y4, y5⟩ | exact ⟨h1.x0, h1.x1, h1.x2, h1.x3, h1.x4, h1.x5⟩ | exact ⟨(h1.set hXg _).x0, (h1.set hXg _).x1, (h1.set hXg _).x2, (h1.set hXg _).x3, (h1.set hXg _).x4, (h1.set hXg _).x5⟩)
                (first | (go_at_call 27; refine ((hwhat _).out).mono ?_; rintro e w6 ⟨rfl, hb3'⟩; have hb3 : Below w5.heap.size w5 w6 := ⟨hb3'.os, hb3'.tape, hb3'.output, hb3'.size, hb3'.block⟩; have h1 := ActAt.below ⟨y0, y1, y2, y3, y4, y5⟩ hb3; have hR6 := E2.out.below hb3 hgl; have cu := Row.has hR6 hbl; have zu := hR6.free bb hbl; obtain ⟨u, cu⟩ := cu))
              have C7 := Lib.hid ((E1.out.below hb3).only (S := [g]) (Only.setCell w6 ⟨g, bb, none⟩ (.string T) (List.mem_singleton.2 rfl)) (fun _ h => h))
              have R7 : Hid (Row (w6.setCell ⟨g, bb, none⟩ (.string T)) g 9 (strs (want.set bb T))) := Lib.hid (by
                have := hR6.set bb (.string T)
                rwa [strs_set] at this)
              have B7 := Lib.hid ((E3.out.trans (hb3.mono E3.out.size)).setCell (p := ⟨g, bb, none⟩) hgB.out (.string T))
              clear hR6 hb3 hb3' h1 hwhat
              go_wp2_with fail
              go_roundw
              case rel => exact ⟨i + 1, D2, L2, want.set bb T, by omega, by go_num, C7, R7, MI, B7⟩
              case measure => simp [intOf]; omega
            · have he' : (e == 0) = false := by rw [beq_eq_false_iff_ne]; exact he
              have MI := Lib.hid (mb he)
              clear ma mb hwhat
              clear hat
              go_wp2_with fail
              (with_reducible refine q.out.mono ?_)
              rintro e w5 ⟨rfl, d1, d2⟩
              obtain ⟨e1, e2, e3, e4⟩ := STEP.out w5 d1 d2
              have E1 := Lib.hid e1; have E2 := Lib.hid e2; have E3 := Lib.hid e3
              clear d1 d2 e1 e2 e3 e4 q STEP
              go_wp2_with fail
              go_roundw
              case rel => exact ⟨i + 1, D2, L2, want, by omega, by go_num, E1, E2, MI, E3⟩
              case measure => simp [intOf]; omega
          have k6 : ¬ (r : Int) < 6 := by omega
          have k6' : decide ((r : Int) < 6) = false := by simp; omega
          have MI := Lib.hid (m3 (by omega))
          clear m1 m2 m3 hwhat
          clear hat
          go_wp2_with fail
          (with_reducible refine q.out.mono ?_)
          rintro e w5 ⟨rfl, d1, d2⟩
          obtain ⟨e1, e2, e3, e4⟩ := STEP.out w5 d1 d2
          have E1 := Lib.hid e1; have E2 := Lib.hid e2; have E3 := Lib.hid e3
          clear d1 d2 e1 e2 e3 e4 q STEP
          go_wp2_with fail
          go_roundw
          case rel => exact ⟨i + 1, D2, L2, want, by omega, by go_num, E1, E2, MI, E3⟩
          case measure => simp [intOf]; omega
        · obtain rfl : i = l.length := by omega
          clear hI hR
          go_wp2_with fail
          (with_reducible refine (qal.out _).mono ?_)
          rintro e w6 ⟨rfl, b6⟩
          have B6 := Lib.hid (hB.out.trans (b6.mono hB.out.size))
          clear b6
          go_wp2_with fail
          go_ret
          exact ⟨rfl, B1.out.trans (B6.out.mono B1.out.size)⟩

end Go.Proofs.Ytlickjaopbcanaa
