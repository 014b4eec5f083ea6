/- JournalMasks: the walk. -/
import Derived.Test.YtnpdhidliaahbaaGreatG46
import Derived.Test.YtnpdhidliaahbaaGreatG25
set_option linter.unusedSimpArgs false
set_option linter.unusedVariables false
namespace Go.Proofs.YtnpdhidliaahbaaGreat
set_option linter.unusedVariables false
open Go Go.RowKit
set_option maxRecDepth 100000 in
set_option maxHeartbeats 16000000 in
/-- The law's walk. -/
theorem JournalMasks_walk (a b c : UInt8) (ax : Option Addr) (cx : Nat) (l1 : List Rec.V) (mo : Bool) {w : World} (s1 : RecsIn w (.slice ax l1.length cx) l1) :
    Calls Tryz.prog 5 #[.agg #[bval a, bval b, bval c], .slice ax l1.length cx, .bool mo] w fun e w' => e = .returned (.bool true) ∧ Below w.heap.size w w' := by
  have HST := Lib.hid s1
  have hslen := s1.len
  have qB := Lib.hid (fun wz => begun_any a b c wz)
  have qA := Lib.hid (fun wz => alive_any wz)
  obtain ⟨i0, hi0, hz0, hz1, hz2⟩ := info_parts infoChg
  obtain ⟨k0i, hk0, kz0, kz1, kz2⟩ := info_parts infoTxn
  obtain ⟨_, hok0, harm0, hkn0⟩ := devG_ok a.toNat b.toNat c.toNat
  have HOK0 := Lib.hid (Msk.Ok.of_sys hok0)
  have HAR0 := Lib.hid harm0
  clear hok0 harm0 hkn0 s1
  generalize devG a.toNat b.toNat c.toNat = D0 at *
  generalize layG a.toNat b.toNat c.toNat = G at *
  generalize bval a = va at *
  generalize bval b = vb at *
  generalize bval c = vc at *
  go_enter Tryz.func5, Tryz.ntmps5
  go_upto_region 1 with fail
  have hB1 : Below w.heap.size w (w.alloc (.cells #[va, vb, vc] 54)) := below_box (Below.refl _ _) _
  have q0 : Row (w.alloc (.cells #[va, vb, vc] 54)) w.heap.size 54 [va, vb, vc] := Row.new w _ _ rfl
  have B1 := Lib.hid hB1
  have Q0 := Lib.hid q0
  clear hB1 q0
  generalize w.alloc _ = w1 at *
  by_cases h20 : 20 < l1.length
  · have i20 : (20 : Int) < (l1.length : Int) := by omega
    go_wp2_with fail
    go_ret
    exact ⟨rfl, B1.out⟩
  · have i20 : ¬ (20 : Int) < (l1.length : Int) := by omega
    have HL20 := Lib.hid (show l1.length ≤ 20 by omega)
    clear h20
    have y0 := Q0.out.cellAt 0 rfl
    have y1 := Q0.out.cellAt 1 rfl
    have y2 := Q0.out.cellAt 2 rfl
    go_upto_region 6 with (first | (go_at_call 22; (with_reducible refine (qB.out _).mono ?_); rintro e w3 ⟨wb, db, lb, y, rfl, hs3, hwb, hlb, hb3⟩) | fail "none")
    clear i20
    have SA3 := Lib.hid hs3
    have B3 := Lib.hid (below_next B1.out hb3)
    have HS3 : Hid (∀ k ∈ wb :: lb :: devB db y, w1.heap.size ≤ k) := Lib.hid (fun k hk => by
      have := hs3.dev.bounds
      rcases List.mem_cons.1 hk with rfl | hk
      · exact hwb
      rcases List.mem_cons.1 hk with rfl | hk
      · exact hlb
      · simp [devB] at hk; omega)
    have HSB : Hid (∀ k ∈ wb :: lb :: devB db y, k < w3.heap.size) := Lib.hid (sys_lt hs3)
    have HW2 : Hid (w.heap.size ≤ w1.heap.size) := Lib.hid B1.out.size
    have HW3 : Hid (w.heap.size ≤ w3.heap.size) := Lib.hid B3.out.size
    have hg : Hid (Geo.May G) := Lib.hid HOK0.out.may
    have hga := hg.out.ok.1
    unfold Geo.asked at hga
    have HGA : Hid (0 ≤ G.dataAt ∧ G.dataAt ≤ 100000) := Lib.hid (by have := hg.out.ok; omega)
    clear hs3 hwb hlb hb3 y0 y1 y2 Q0 B1 qB
    go_upto_region 7 with fail
    have q4 : Row (w3.alloc (.cells #[.slice none 0 0, .slice none 0 0] 25)) w3.heap.size 25 [.slice none 0 0, .slice none 0 0] := Row.new w3 _ _ rfl
    have hb4 : Below w3.heap.size w3 (w3.alloc (.cells #[.slice none 0 0, .slice none 0 0] 25)) := below_box (Below.refl _ _) _
    have R4 := Lib.hid q4
    have SA4 := Lib.hid (SA3.out.below hb4)
    have B4 := Lib.hid (below_next B3.out hb4)
    have Z4 := Lib.hid hb4.size
    clear q4 hb4 SA3 B3
    generalize w3.alloc _ = w4 at *
    go_upto_block 0 with fail
    go_cut [10, 11, 12, 13] from 32 to 90 (fun ta tb tc td wx => ∃ (ss : List ByteArray) (v u10 u11 u12 u13 : Value), u10 = ta ∧ u11 = tb ∧ u12 = tc ∧ u13 = td ∧ ss.length ≤ 12 ∧ Hid (∀ s ∈ ss, s.size = 128) ∧ Hid (SysAt w1.heap.size wb db lb y G D0 ⟨0, 0, 1, 0⟩ zb12 zb12 wx) ∧ Hid (Row wx w3.heap.size 25 [v, .slice none 0 0]) ∧ Hid (OwnC w3.heap.size wx v (Msk.chs G ss)) ∧ Hid (Below w.heap.size w wx) ∧ Hid (w3.heap.size ≤ wx.heap.size))
    case first =>
      go_wp2_with fail
      go_loopw [10, 11, 12, 13] (fun ta tb tc td wr => ∃ (j : Nat) (ss : List ByteArray) (v u11 u12 u13 : Value), ta = .int .i64 (j : Int) ∧ u11 = tb ∧ u12 = tc ∧ u13 = td ∧ j ≤ l1.length ∧ ss.length ≤ 12 ∧ Hid (∀ s ∈ ss, s.size = 128) ∧ Hid (SysAt w1.heap.size wb db lb y G D0 ⟨0, 0, 1, 0⟩ zb12 zb12 wr) ∧ Hid (Row wr w3.heap.size 25 [v, .slice none 0 0]) ∧ Hid (OwnC w3.heap.size wr v (Msk.chs G ss)) ∧ Hid (Below w.heap.size w wr) ∧ Hid (w3.heap.size ≤ wr.heap.size)) (fun ta _ _ _ _ => l1.length - (intOf ta).toNat)
      case atStart => exact ⟨0, [], _, _, _, _, rfl, rfl, rfl, rfl, by omega, by simp, Lib.hid (by simp), SA4, R4, Lib.hid (World.ownsRow_nil _ _ _ _), B4, Z4⟩
      case round =>
        clear SA4 R4 B4 Z4
        obtain ⟨j, ss, v, u11, u12, u13, rfl, rfl, rfl, rfl, hj, hs12, HSS, SA, RT, OC, HB, HZ⟩ := hrel
        obtain ⟨av, cv, rfl⟩ := OwnC.slice OC.out
        obtain ⟨n, hn⟩ : ∃ n, (Msk.chs G ss).length = n := ⟨_, rfl⟩
        have hn2 : ss.length = n := (Msk.chs_length G ss).symm.trans hn
        have HN := Lib.hid hn
        have HN2 := Lib.hid hn2
        have hn12 : n ≤ 12 := by omega
        rw [hn] at RT OC
        have x0 := RT.out.cellAt 0 rfl
        clear hn hn2 hs12
        by_cases hlt : j < l1.length
        · have i1 : (j : Int) < (l1.length : Int) := by omega
          by_cases h12 : n < 12
          · have i2 : (n : Int) < 12 := by omega
            obtain ⟨gs, off, vh, vm, rfl, c0, c1, c2, c3, c4, c5, hR⟩ := HST.out.at j hlt
            obtain ⟨⟨vh', vm', he, hih, hfm⟩, hsq, hsm, hkd, hat, hl1, hl2⟩ := hR
            obtain ⟨rfl, rfl⟩ : vh = vh' ∧ vm = vm' := by simpa using he
            obtain ⟨ah, ch, rfl⟩ := hih.form
            obtain ⟨am, cm, rfl⟩ := hfm.form
            have HIH := Lib.hid hih
            have HFM := Lib.hid hfm
            clear he hih hfm
            have HB' := HB.out
            replace c0 := below_keep HB' (Nat.le_refl _) c0
            replace c1 := below_keep HB' (Nat.le_refl _) c1
            replace c2 := below_keep HB' (Nat.le_refl _) c2
            replace c3 := below_keep HB' (Nat.le_refl _) c3
            replace c4 := below_keep HB' (Nat.le_refl _) c4
            replace c5 := below_keep HB' (Nat.le_refl _) c5
            clear HB'
            generalize l1.getD j rec0 = x at *
            obtain ⟨xk, xs, xa, xh, xm, xu⟩ := x
            dsimp only at *
            have RT2 : Hid (Row wr w3.heap.size 25 [.slice av n cv, .slice none 0 0]) := RT
            have HS12 : Hid (ss.length ≤ 12) := Lib.hid (by rw [HN2.out]; omega)
            have OC2 : Hid (OwnC w3.heap.size wr (.slice av n cv) (Msk.chs G ss)) := OC
            by_cases h1 : 100 < xh.length
            · have i3 : (100 : Int) < (xh.length : Int) := by omega
              go_wp2_with fail
              go_roundw
              case rel => exact ⟨j + 1, ss, _, _, _, _, by go_num, rfl, rfl, rfl, by omega, HS12.out, HSS, SA, RT2, OC2, HB, HZ⟩
              case measure => simp [intOf]; omega
            · have i3 : ¬ (100 : Int) < (xh.length : Int) := by omega
              by_cases h2 : 100 < xm.length
              · have i4 : (100 : Int) < (xm.length : Int) := by omega
                go_wp2_with fail
                go_roundw
                case rel => exact ⟨j + 1, ss, _, _, _, _, by go_num, rfl, rfl, rfl, by omega, HS12.out, HSS, SA, RT2, OC2, HB, HZ⟩
                case measure => simp [intOf]; omega
              · have i4 : ¬ (100 : Int) < (xm.length : Int) := by omega
                obtain ⟨XQ, hXQ⟩ : ∃ XQ : Nat, xs % 4 = XQ := ⟨_, rfl⟩
                have hm : ((xs : Int)).tmod 4 = (XQ : Int) := by rw [Int.tmod_eq_emod_of_nonneg (by omega)]; omega
                have hm2 : ((xs : Int)) % 4 = (XQ : Int) := by omega
                have hXQ4 : XQ < 4 := by omega
                have qE0 : ∀ wz, Below w.heap.size w wz → Calls Tryz.prog 23 #[.agg #[.int .i64 xk, .int .u64 (XQ : Int), .int .i64 xa, .slice ah xh.length ch, .slice am xm.length cm, .int .u32 (xu : Int)]] wz fun e w' => e = .returned (.tuple #[.string (txt (Rec.encR ⟨xk, XQ, xa, xh, xm, xu⟩).1), .int .i64 (Rec.encR ⟨xk, XQ, xa, xh, xm, xu⟩).2]) ∧ Below wz.heap.size wz w' := fun wz hz =>
                  encodew_any _ ⟨xk, XQ, xa, xh, xm, xu⟩ wz ⟨⟨_, _, rfl, HIH.out.below hz, HFM.out.below hz⟩, by show XQ < _; omega, hsm, hkd, hat, by show xh.length ≤ _; omega, by show xm.length ≤ _; omega⟩
                have hE128 : (Rec.encR ⟨xk, XQ, xa, xh, xm, xu⟩).2 = 0 → (txt (Rec.encR ⟨xk, XQ, xa, xh, xm, xu⟩).1).size = 128 := fun h => by
                  unfold Rec.encR at h ⊢
                  split at h
                  · rename_i hmy
                    rw [if_pos hmy, txt_size]
                    exact Rec.rb_length hmy
                  · cases h
                generalize txt (Rec.encR ⟨xk, XQ, xa, xh, xm, xu⟩).1 = SB at *
                generalize (Rec.encR ⟨xk, XQ, xa, xh, xm, xu⟩).2 = EE at *
                have qE := Lib.hid qE0
                have HE128 := Lib.hid hE128
                have HXQ := Lib.hid hXQ
                clear qE0 hE128 hXQ h1 h2 hsq hsm hkd hat hl1 hl2
                go_upto_region 12 with fail
                have R5 := Lib.hid (show Row (wr.alloc (.cells #[.int .i64 xk, .int .u64 (xs : Int), .int .i64 xa, .slice ah xh.length ch, .slice am xm.length cm, .int .u32 (xu : Int)] 61)) wr.heap.size 61 [.int .i64 xk, .int .u64 (xs : Int), .int .i64 xa, .slice ah xh.length ch, .slice am xm.length cm, .int .u32 (xu : Int)] from Row.new wr _ _ rfl)
                have s5 := Lib.hid (below_box (Below.refl wr.heap.size wr) (.cells #[.int .i64 xk, .int .u64 (xs : Int), .int .i64 xa, .slice ah xh.length ch, .slice am xm.length cm, .int .u32 (xu : Int)] 61))
                generalize wr.alloc _ = w5 at *
                have k1 := R5.out.cellAt 1 rfl
                have f1 := R5.out.free 1 (by simp)
                clear c0 c1 c2 c3 c4 c5 x0
                go_upto_region 13 with fail
                have R6 := Lib.hid (R5.out.set 1 (.int .u64 (XQ : Int)))
                have s6 := Lib.hid (s5.out.setCell (p := ⟨wr.heap.size, 1, none⟩) (Nat.le_refl _) (.int .u64 (XQ : Int)))
                clear k1 f1 R5 s5
                generalize w5.setCell _ _ = w6 at *
                have R6b : Hid (Row w6 wr.heap.size 61 [.int .i64 xk, .int .u64 (XQ : Int), .int .i64 xa, .slice ah xh.length ch, .slice am xm.length cm, .int .u32 (xu : Int)]) := R6
                have g0 := R6b.out.cellAt 0 rfl
                have g1 := R6b.out.cellAt 1 rfl
                have g2 := R6b.out.cellAt 2 rfl
                have g3 := R6b.out.cellAt 3 rfl
                have g4 := R6b.out.cellAt 4 rfl
                have g5 := R6b.out.cellAt 5 rfl
                have qE6 := Lib.hid (qE.out w6 (below_next HB.out s6.out))
                go_upto_region 14 with (first | (go_at_call 23; (with_reducible refine qE6.out.mono ?_); rintro e w7 ⟨rfl, hb7⟩) | fail "none")
                have s7 := Lib.hid (below_next s6.out hb7)
                have SA7 := Lib.hid (SA.out.below s7.out)
                have RT7 := Lib.hid (RT2.out.below s7.out RT2.out.lt)
                have OC7 : Hid (OwnC w3.heap.size w7 (.slice av n cv) (Msk.chs G ss)) := Lib.hid (own_below OC2.out s7.out)
                have HB7 := Lib.hid (below_next HB.out s7.out)
                have HZ7 := Lib.hid (Nat.le_trans HZ.out s7.out.size)
                clear g0 g1 g2 g3 g4 g5 qE6 hb7 s6 s7 R6 R6b SA RT RT2 OC OC2 HB HZ
                by_cases hE : EE = 0
                · subst hE
                  have HS128 := Lib.hid (HE128.out rfl)
                  obtain ⟨DA, hDA⟩ : ∃ DA, G.dataAt = DA := ⟨_, rfl⟩
                  have hda := HGA.out
                  rw [hDA] at hda
                  have hwD : IntKind.i64.wrap (DA + (n : Int)) = DA + (n : Int) := IntWalk.i64_in _ (by omega)
                  have HBN : Hid (((Sys.hb G n : Nat) : Int) = DA + (n : Int)) := Lib.hid (by rw [← hDA]; exact (Sys.hb_facts hg.out (k := n) (by omega)).2.2.1)
                  have K2 : Hid (∀ wz, Row wz w3.heap.size 25 [.slice av n cv, .slice none 0 0] → SysAt w1.heap.size wb db lb y G D0 ⟨0, 0, 1, 0⟩ zb12 zb12 wz → wz.cell? ⟨w3.heap.size, 0, none⟩ = some (.slice av n cv) ∧ wz.cell? ⟨wb, 8, none⟩ = some (.int .i64 DA)) := Lib.hid (fun wz h1 h2 => ⟨h1.cellAt 0 rfl, by rw [← hDA]; exact h2.row.cellAt 8 rfl⟩)
                  have HDA := Lib.hid hDA
                  clear hDA hda
                  have hone : ∀ u ∈ [Value.int .i64 (DA + (n : Int)), .string SB], u.oneCell' = true := by intro u hu; simp at hu; rcases hu with rfl | rfl <;> rfl
                  go_upto_region 15 with fail
                  obtain ⟨x0, x8⟩ := K2.out _ RT7.out SA7.out
                  have OC8 : Hid (w7.ownsRow w3.heap.size 68 2 (.slice av n cv) n (chgC (Msk.chs G ss))) := Lib.hid (by have := OC7.out; unfold OwnC at this; rwa [HN.out] at this)
                  have RTd : Hid (Row w7.drew w3.heap.size 25 [.slice av n cv, .slice none 0 0]) := Lib.hid RT7.out.drew
                  have SAd := Lib.hid (SA7.out.below (Below.drew (Below.refl _ _)))
                  refine wp_region_E (S := fun w' => w'.cell? ⟨w3.heap.size, 0, none⟩ = some (.slice av n cv) ∧ w'.cell? ⟨wb, 8, none⟩ = some (.int .i64 DA)) (E := [16]) (by kernel_rfl) ⟨x0, x8⟩ (fun hHeld hCl => ?_)
                  refine wpAnyE_take (i := 0) (v := .pointer (some ⟨w3.heap.size, 0, none⟩)) rfl (by kernel_rfl) (by kernel_rfl) (by kernel_rfl) (by kernel_rfl) hCl (fun _ _ _ h => h) (Or.inl ⟨rfl, fun w hSw => (by (try dsimp only at hSw); go_simp)⟩) hHeld (fun hCl => ?_); (try simp only [List.getElem_toArray, List.getElem_cons_zero, Act.put, List.setIfInBounds_toArray, List.set_cons_zero, List.set_cons_succ])
                  refine wpAnyE_take (i := 1) (v := .slice av n cv) rfl (by kernel_rfl) (by kernel_rfl) (by kernel_rfl) (by kernel_rfl) hCl (fun _ _ _ h => h) (Or.inl ⟨rfl, fun w hSw => (by (try dsimp only at hSw); go_simp)⟩) hHeld (fun hCl => ?_); (try simp only [List.getElem_toArray, List.getElem_cons_succ, List.getElem_cons_zero, Act.put, List.setIfInBounds_toArray, List.set_cons_zero, List.set_cons_succ])
                  refine wpAnyE_take (i := 2) (v := .pointer (some ⟨wb, 0, none⟩)) rfl (by kernel_rfl) (by kernel_rfl) (by kernel_rfl) (by kernel_rfl) hCl (fun _ _ _ h => h) (Or.inl ⟨rfl, fun w hSw => (by (try dsimp only at hSw); go_simp)⟩) hHeld (fun hCl => ?_); (try simp only [List.getElem_toArray, List.getElem_cons_succ, List.getElem_cons_zero, Act.put, List.setIfInBounds_toArray, List.set_cons_zero, List.set_cons_succ])
                  refine wpAnyE_take (i := 3) (v := .pointer (some ⟨wb, 0, none⟩)) rfl (by kernel_rfl) (by kernel_rfl) (by kernel_rfl) (by kernel_rfl) hCl (fun _ _ _ h => h) (Or.inl ⟨rfl, fun w hSw => (by (try dsimp only at hSw); go_simp)⟩) hHeld (fun hCl => ?_); (try simp only [List.getElem_toArray, List.getElem_cons_succ, List.getElem_cons_zero, Act.put, List.setIfInBounds_toArray, List.set_cons_zero, List.set_cons_succ])
                  refine wpAnyE_take (i := 4) (v := .pointer (some ⟨wb, 0, none⟩)) rfl (by kernel_rfl) (by kernel_rfl) (by kernel_rfl) (by kernel_rfl) hCl (fun _ _ _ h => h) (Or.inl ⟨rfl, fun w hSw => (by (try dsimp only at hSw); go_simp)⟩) hHeld (fun hCl => ?_); (try simp only [List.getElem_toArray, List.getElem_cons_succ, List.getElem_cons_zero, Act.put, List.setIfInBounds_toArray, List.set_cons_zero, List.set_cons_succ])
                  refine wpAnyE_take (i := 5) (v := .pointer (some ⟨wb, 8, none⟩)) rfl (by kernel_rfl) (by kernel_rfl) (by kernel_rfl) (by kernel_rfl) hCl (fun _ _ _ h => h) (Or.inl ⟨rfl, fun w hSw => (by (try dsimp only at hSw); go_simp)⟩) hHeld (fun hCl => ?_); (try simp only [List.getElem_toArray, List.getElem_cons_succ, List.getElem_cons_zero, Act.put, List.setIfInBounds_toArray, List.set_cons_zero, List.set_cons_succ])
                  refine wpAnyE_take (i := 6) (v := .int .i64 DA) rfl (by kernel_rfl) (by kernel_rfl) (by kernel_rfl) (by kernel_rfl) hCl (fun _ _ _ h => h) (Or.inl ⟨rfl, fun w hSw => (by (try dsimp only at hSw); go_simp)⟩) hHeld (fun hCl => ?_); (try simp only [List.getElem_toArray, List.getElem_cons_succ, List.getElem_cons_zero, Act.put, List.setIfInBounds_toArray, List.set_cons_zero, List.set_cons_succ])
                  refine wpAnyE_take (i := 7) (v := .pointer (some ⟨w3.heap.size, 0, none⟩)) rfl (by kernel_rfl) (by kernel_rfl) (by kernel_rfl) (by kernel_rfl) hCl (fun _ _ _ h => h) (Or.inl ⟨rfl, fun w hSw => (by (try dsimp only at hSw); go_simp)⟩) hHeld (fun hCl => ?_); (try simp only [List.getElem_toArray, List.getElem_cons_succ, List.getElem_cons_zero, Act.put, List.setIfInBounds_toArray, List.set_cons_zero, List.set_cons_succ])
                  refine wpAnyE_take (i := 8) (v := .slice av n cv) rfl (by kernel_rfl) (by kernel_rfl) (by kernel_rfl) (by kernel_rfl) hCl (fun _ _ _ h => h) (Or.inl ⟨rfl, fun w hSw => (by (try dsimp only at hSw); go_simp)⟩) hHeld (fun hCl => ?_); (try simp only [List.getElem_toArray, List.getElem_cons_succ, List.getElem_cons_zero, Act.put, List.setIfInBounds_toArray, List.set_cons_zero, List.set_cons_succ])
                  refine wpAnyE_take (i := 11) (v := .string SB) rfl (by kernel_rfl) (by kernel_rfl) (by kernel_rfl) (by kernel_rfl) hCl (fun _ _ _ h => h) (Or.inl ⟨rfl, fun w hSw => (by (try dsimp only at hSw); go_simp)⟩) hHeld (fun hCl => ?_); (try simp only [List.getElem_toArray, List.getElem_cons_succ, List.getElem_cons_zero, Act.put, List.setIfInBounds_toArray, List.set_cons_zero, List.set_cons_succ])
                  refine wpAnyE_ready (rs := [9]) (by kernel_rfl) (by simp) ?_; refine NextE.cons rfl (fun K hK => ?_) NextE.nil
                  go_simp
                  refine hK.out _ _ (fun _ => ⟨x0, x8⟩) (fun hHeld => ?_); replace hHeld := hHeld rfl; have hCl := hCl.step (j := 9) (by decide +kernel); clear hK K; (try simp only [List.getElem_toArray, List.getElem_cons_succ, List.getElem_cons_zero, Act.put, List.setIfInBounds_toArray, List.set_cons_zero, List.set_cons_succ])
                  refine wpAnyE_take (i := 10) (v := .int .i64 (DA + (n : Int))) rfl (by kernel_rfl) (by kernel_rfl) (by kernel_rfl) (by kernel_rfl) hCl (fun _ _ _ h => h) (Or.inl ⟨rfl, fun w hSw => (by (try dsimp only at hSw); go_simp)⟩) hHeld (fun hCl => ?_); (try simp only [List.getElem_toArray, List.getElem_cons_succ, List.getElem_cons_zero, Act.put, List.setIfInBounds_toArray, List.set_cons_zero, List.set_cons_succ])
                  refine wpAnyE_ready (rs := [12]) (by kernel_rfl) (by simp) ?_; refine NextE.cons rfl (fun K hK => ?_) NextE.nil
                  go_simp
                  refine hK.out _ _ (fun _ => ⟨x0, x8⟩) (fun hHeld => ?_); replace hHeld := hHeld rfl; have hCl := hCl.step (j := 12) (by decide +kernel); clear hK K; (try simp only [List.getElem_toArray, List.getElem_cons_succ, List.getElem_cons_zero, Act.put, List.setIfInBounds_toArray, List.set_cons_zero, List.set_cons_succ])
                  refine wpAnyE_ready (rs := [13]) (by kernel_rfl) (by simp) ?_; refine NextE.cons rfl (fun K hK => ?_) NextE.nil
                  go_simp
                  have bx := below_box (Below.refl w7.drew.heap.size w7.drew) (.cells #[.int .i64 (DA + (n : Int)), .string SB] 68)
                  refine hK.out _ _ (fun _ => K2.out _ (RTd.out.alloc _) (SAd.out.below bx)) (fun hHeld => ?_); replace hHeld := hHeld rfl; have hCl := hCl.step (j := 13) (by decide +kernel); clear hK K; (try simp only [List.getElem_toArray, List.getElem_cons_succ, List.getElem_cons_zero, Act.put, List.setIfInBounds_toArray, List.set_cons_zero, List.set_cons_succ])
                  have O9 := Lib.hid (own_new1 (own_below OC8.out (Below.drew (Below.refl _ _))) (.cells #[.int .i64 (DA + (n : Int)), .string SB] 68))
                  have NN9 := Lib.hid (World.news_of_block (heap_alloc_new w7.drew (.cells #[.int .i64 (DA + (n : Int)), .string SB] 68)))
                  have hs9 : w3.heap.size ≤ (w7.drew.alloc (.cells #[.int .i64 (DA + (n : Int)), .string SB] 68)).heap.size := Nat.le_trans HZ7.out bx.size
                  refine wpAnyE_ready (rs := [14]) (by kernel_rfl) (by simp) ?_; refine NextE.cons rfl (fun K hK => ?_) NextE.nil
                  refine step_append_lies _ rfl (.tmp 76) (.tmp 88) 22 rfl w3.heap.size 68 i0 (.agg #[.int .i64 0, .string ⟨#[]⟩]) 2 24 Tryz.underlying22 hi0 hz0 hz1 hz2 rfl (by decide) (.slice av n cv) n (chgC (Msk.chs G ss)) (by simp [Act.eval, Act.put]; done) O9.out ⟨w7.heap.size, 0, none⟩ 1 1 [.int .i64 (DA + (n : Int)), .string SB] (by simp [Act.eval, Act.put]; done) rfl NN9.out hone (by decide) (by unfold maxLen; omega) (by omega) hs9 _ rfl ?_
                  intro g5 c5 w8 hown hgrow hat hlt5
                  obtain ⟨p1, p2, p3, p4, p5⟩ := msk_push RTd.out O9.out hgrow hown (Nat.le_refl _) HZ7.out
                  refine hK.out _ _ (fun _ => K2.out _ p1 (SAd.out.belowB p4 HSB.out)) (fun hHeld => ?_); replace hHeld := hHeld rfl; have hCl := hCl.step (j := 14) (by decide +kernel); clear hK K; (try simp only [List.getElem_toArray, List.getElem_cons_succ, List.getElem_cons_zero, Act.put, List.setIfInBounds_toArray, List.set_cons_zero, List.set_cons_succ])
                  refine wpAnyE_ready (rs := [15]) (by kernel_rfl) (by simp) ?_; refine NextE.cons rfl (fun K hK => ?_) NextE.nil
                  go_simp
                  refine hK.out _ _ (fun _ => K2.out _ p1 (SAd.out.belowB p4 HSB.out)) (fun hHeld => ?_); replace hHeld := hHeld rfl; have hCl := hCl.step (j := 15) (by decide +kernel); clear hK K; (try simp only [List.getElem_toArray, List.getElem_cons_succ, List.getElem_cons_zero, Act.put, List.setIfInBounds_toArray, List.set_cons_zero, List.set_cons_succ])
                  have cX5 := p1.cellAt 0 rfl
                  have fX5 := p1.free 0 (by simp)
                  refine wpAnyE_ready (rs := [16]) (by kernel_rfl) (by simp) ?_; refine NextE.cons rfl (fun K hK => ?_) NextE.nil
                  go_simp
                  refine hK.out _ _ (fun h => by cases h) (fun _ => ?_); clear hK K; (try simp only [List.getElem_toArray, List.getElem_cons_succ, List.getElem_cons_zero, Act.put, List.setIfInBounds_toArray, List.set_cons_zero, List.set_cons_succ])
                  refine wpAnyE_done (by kernel_rfl) ?_ _
                  have SA9 := Lib.hid (SAd.out.belowB p5 HSB.out)
                  have RT9 := Lib.hid p2
                  have OC9 : Hid (OwnC w3.heap.size (w8.setCell ⟨w3.heap.size, 0, none⟩ (.slice (some ⟨g5, 0, none⟩) (n + 1) c5)) (.slice (some ⟨g5, 0, none⟩) (n + 1) c5) (Msk.chs G (ss ++ [SB]))) := Lib.hid (by
                    unfold OwnC
                    rw [Msk.chs_snoc, chgC_append, List.length_append, List.length_singleton, HN.out, HN2.out, HBN.out]
                    exact p3)
                  have p5b : Below w3.heap.size w7 (w8.setCell ⟨w3.heap.size, 0, none⟩ (.slice (some ⟨g5, 0, none⟩) (n + 1) c5)) := ⟨p5.os, p5.tape, p5.output, p5.size, p5.block⟩
                  have HB9 := Lib.hid (HB7.out.trans (p5b.mono HW3.out))
                  have HZ9 := Lib.hid (Nat.le_trans HZ7.out p5b.size)
                  have HSS9 : Hid (∀ s ∈ ss ++ [SB], s.size = 128) := Lib.hid (fun s hs => by
                    rcases List.mem_append.1 hs with hs | hs
                    · exact HSS.out s hs
                    · rw [List.mem_singleton.1 hs]; exact HS128.out)
                  have HL9 : Hid ((ss ++ [SB]).length ≤ 12) := Lib.hid (by rw [List.length_append, List.length_singleton, HN2.out]; omega)
                  clear hHeld hCl p1 p2 p3 p4 p5 p5b hown hgrow hat hlt5 cX5 fX5 hs9 O9 NN9 bx K2 x0 x8 OC8 RTd SAd hone hwD
                  generalize World.setCell _ _ _ = w9 at *
                  go_wp2_with fail
                  go_roundw
                  case rel => exact ⟨j + 1, ss ++ [SB], _, _, _, _, by go_num, rfl, rfl, rfl, by omega, HL9.out, HSS9, SA9, RT9, OC9, HB9, HZ9⟩
                  case measure => simp [intOf]; omega
                · have hE2 : (EE == 0) = false := beq_eq_false_iff_ne.2 hE
                  go_wp2_with fail
                  go_roundw
                  case rel => exact ⟨j + 1, ss, _, _, _, _, by go_num, rfl, rfl, rfl, by omega, HS12.out, HSS, SA7, RT7, OC7, HB7, HZ7⟩
                  case measure => simp [intOf]; omega
          · have i2 : ¬ (n : Int) < 12 := by omega
            have RT2 : Hid (Row wr w3.heap.size 25 [.slice av n cv, .slice none 0 0]) := RT
            have HS12 : ss.length ≤ 12 := by rw [HN2.out]; omega
            have OC2 : Hid (OwnC w3.heap.size wr (.slice av n cv) (Msk.chs G ss)) := OC
            go_wp2_with fail
            go_meet
            exact ⟨ss, _, _, _, _, _, rfl, rfl, rfl, rfl, HS12, HSS, SA, RT2, OC2, HB, HZ⟩
        · have i1 : ¬ (j : Int) < (l1.length : Int) := by omega
          have RT2 : Hid (Row wr w3.heap.size 25 [.slice av n cv, .slice none 0 0]) := RT
          have HS12 : ss.length ≤ 12 := by rw [HN2.out]; omega
          have OC2 : Hid (OwnC w3.heap.size wr (.slice av n cv) (Msk.chs G ss)) := OC
          go_wp2_with fail
          go_meet
          exact ⟨ss, _, _, _, _, _, rfl, rfl, rfl, rfl, HS12, HSS, SA, RT2, OC2, HB, HZ⟩
    case rest =>
      clear SA4 R4 B4 Z4
      obtain ⟨ss, v, u10, u11, u12, u13, rfl, rfl, rfl, rfl, hs12, HSS, SA, RT, OC, HB, HZ⟩ := hcut
      obtain ⟨av, cv, rfl⟩ := OwnC.slice OC.out
      have HS12 := Lib.hid hs12
      clear hs12
      have hsz := Msk.size_T G HS12.out
      have hpl := Jr.plc_of hg.out
      have qC1 : Hid (∀ wz, SysAt w1.heap.size wb db lb y G D0 ⟨0, 0, 1, 0⟩ zb12 zb12 wz → OwnC w3.heap.size wz (.slice av (Msk.chs G ss).length cv) (Msk.chs G ss) → Calls Tryz.prog 19 #[.pointer (some ⟨lb, 0, none⟩), .agg #[.slice av (Msk.chs G ss).length cv, .slice none 0 0], .slice none 0 0] wz fun e w' => e = .returned (.int .i64 0) ∧ ∃ D' V', D'.armed = false ∧ V'.used = 0 + Jr.size (Msk.T G ss) ∧ Msk.Ok G D' V' 0 1 [Msk.T G ss] 700 ∧ SysAt w1.heap.size wb db lb y G D' V' zb12 zb12 w' ∧ Only (lb :: devB db y) wz w') := Lib.hid (fun wz hz hc => by
        refine (commit_msk hz.dev hz.log hz.ne.2.2 HOK0.out HAR0.out (by decide) HS12.out HSS.out hc (by show 0 + _ ≤ _; omega)).mono ?_
        rintro e w' ⟨h1, D', V', h2, h3, h4, h5, h6, h7⟩
        exact ⟨h1, D', V', h2, h3, h4, ⟨h7.row hz.row (by intro k; rcases List.mem_cons.1 k with k | k; exact hz.ne.1 k; exact hz.ne.2.1 k), hz.hl, hz.wl, h5, h6, hz.ne⟩, h7⟩)
      have qC2 : Hid (∀ D V wz, SysAt w1.heap.size wb db lb y G D V zb12 zb12 wz → D.armed = false → V.used = 0 + Jr.size (Msk.T G ss) → Msk.Ok G D V 0 1 [Msk.T G ss] 700 → OwnC w3.heap.size wz (.slice av (Msk.chs G ss).length cv) (Msk.chs G ss) → Calls Tryz.prog 19 #[.pointer (some ⟨lb, 0, none⟩), .agg #[.slice av (Msk.chs G ss).length cv, .slice none 0 0], .slice none 0 0] wz fun e w' => e = .returned (.int .i64 0) ∧ ∃ D' V', D'.armed = false ∧ Msk.Ok G D' V' 0 1 [Msk.T G ss, Msk.T G ss] 800 ∧ SysAt w1.heap.size wb db lb y G D' V' zb12 zb12 w' ∧ Only (lb :: devB db y) wz w') := Lib.hid (fun D V wz hz ha hu hk hc => by
        refine (commit_msk hz.dev hz.log hz.ne.2.2 hk ha (by decide) HS12.out HSS.out hc (by rw [hu]; omega)).mono ?_
        rintro e w' ⟨h1, D', V', h2, h3, h4, h5, h6, h7⟩
        exact ⟨h1, D', V', h2, h4, ⟨h7.row hz.row (by intro k; rcases List.mem_cons.1 k with k | k; exact hz.ne.1 k; exact hz.ne.2.1 k), hz.hl, hz.wl, h5, h6, hz.ne⟩, h7⟩)
      clear hsz hpl
      have HSLB : Hid (∀ k ∈ lb :: devB db y, k < w3.heap.size) := Lib.hid (fun k hk => HSB.out k (List.mem_cons_of_mem _ hk))
      obtain ⟨n, hn⟩ : ∃ n, (Msk.chs G ss).length = n := ⟨_, rfl⟩
      have HN := Lib.hid hn
      rw [hn] at RT OC qC1 qC2
      clear hn
      have k10 := SA.out.row.cellAt 10 rfl
      have x0 := RT.out.cellAt 0 rfl
      have x1 := RT.out.cellAt 1 rfl
      have OC0 : Hid (OwnC w3.heap.size wc (.slice av n cv) (Msk.chs G ss)) := OC
      have SAd := Lib.hid (SA.out.below (Below.drew (Below.refl _ _)))
      have OCd : Hid (OwnC w3.heap.size wc.drew (.slice av n cv) (Msk.chs G ss)) := Lib.hid (own_below OC0.out (Below.drew (Below.refl _ _)))
      have HTN : Hid (w3.heap.size ∉ lb :: devB db y) := Lib.hid (fun hm => by have := HSLB.out _ hm; omega)
      cases mo with
      | true =>
        go_upto_region 16 with fail
        go_region_held3 (fun w' => w'.cell? ⟨wb, 10, none⟩ = some (.pointer (some ⟨lb, 0, none⟩)) ∧ w'.cell? ⟨w3.heap.size, 0, none⟩ = some (.slice av n cv) ∧ w'.cell? ⟨w3.heap.size, 1, none⟩ = some (.slice none 0 0))
          (first | exact ⟨k10, x0, x1⟩ | exact ⟨SA6.row.cellAt 10 rfl, R6.cellAt 0 rfl, R6.cellAt 1 rfl⟩ | exact ⟨SA5.row.cellAt 10 rfl, R5.cellAt 0 rfl, R5.cellAt 1 rfl⟩)
          (first | (go_at_call 19; (with_reducible refine (qC1.out _ SAd.out OCd.out).mono ?_); rintro e w5 ⟨rfl, D5, V5, har5, hu5, hok5, SA5, ho5⟩; have R5 := ho5.row (Row.drew RT.out) HTN.out; have OC5 : OwnC w3.heap.size w5 (.slice av n cv) (Msk.chs G ss) := ho5.belowOf HSLB.out (Nat.le_refl _) OCd.out) | (go_at_call 19; (with_reducible refine (qC2.out _ _ _ SA5 har5 hu5 hok5 OC5).mono ?_); rintro e w6 ⟨rfl, D6, V6, har6, hok6, SA6, ho6⟩; have R6 := ho6.row R5 HTN.out; have OC6 : OwnC w3.heap.size w6 (.slice av n cv) (Msk.chs G ss) := ho6.belowOf HSLB.out (Nat.le_refl _) OC5) | fail "none")
        have ho6x : Only (lb :: devB db y) wc w6 := Only.trans (b := w5) ⟨ho5.os, ho5.tape, ho5.output, ho5.size, ho5.block⟩ ho6
        clear ho5 ho6 har5 hu5 hok5 SA5 R5 OC5
        have ho6 := ho6x
        clear ho6x
        go_upto_region 18 with fail
        have SA6h := Lib.hid SA6
        have R6h := Lib.hid R6
        have OC6h := Lib.hid OC6
        have HOK6 := Lib.hid hok6
        have HB6 := Lib.hid (HB.out.trans (ho6.below HB.out.size (fun k hk => by have := HS3.out k (List.mem_cons_of_mem _ hk); have := HW2.out; omega)))
        have HZ6 := Lib.hid (Nat.le_trans HZ.out ho6.size)
        clear SA6 R6 OC6 hok6 ho6 har6 k10 x0 x1 qC1 qC2 SAd OCd OC0 HTN SA RT OC HB HZ
        have hszM := HOK6.out.dok.kept
        have hbM := HOK6.out.blocks
        have HOKF := Lib.hid HOK6.out.fresh
        have qKe : Hid (∀ wz, DevAt w1.heap.size wz db y D6 → Calls Tryz.prog 25 #[.pointer (some ⟨db, 0, none⟩)] wz fun e w' => e = .returned (.string (txt (cat D6.kept))) ∧ Below wz.heap.size wz w') := Lib.hid (fun wz hz => kept_any hz hszM)
        obtain ⟨M, hM⟩ : ∃ M, D6.kept = M := ⟨_, rfl⟩
        rw [hM] at hszM hbM qKe HOKF
        have qOp : Hid (∀ wz, Calls Tryz.prog 24 #[.string (txt (cat M))] wz fun e w' => ∃ b, e = .returned (.tuple #[.pointer (some ⟨b, 0, none⟩), .int .i64 0]) ∧ (∃ y, DevAt wz.heap.size w' b y (Dev.fresh M)) ∧ Below wz.heap.size wz w') := Lib.hid (fun wz => opendev_sys hszM (by omega))
        have z9 := SA6h.out.row.cellAt 9 rfl
        clear hszM hbM hM
        go_upto_region 19 with (first | (go_at_call 25; (with_reducible refine (qKe.out _ SA6h.out.dev).mono ?_); rintro e w7 ⟨rfl, hb7⟩) | (go_at_call 24; (with_reducible refine (qOp.out _).mono ?_); rintro e w8 ⟨db2, rfl, ⟨y2, hd8⟩, hb8⟩) | fail "none")
        have R7 := Lib.hid (R6h.out.below hb7 R6h.out.lt)
        have OC7 : Hid (OwnC w3.heap.size w7 (.slice av n cv) (Msk.chs G ss)) := Lib.hid (own_below OC6h.out hb7)
        have HB7 := Lib.hid (below_next HB6.out hb7)
        have HZ7 := Lib.hid (Nat.le_trans HZ6.out hb7.size)
        have SA8 := Lib.hid (SA6h.out.below (below_next hb7 hb8))
        have s8 := Lib.hid hb8
        have HD8 := Lib.hid hd8
        have HDB : Hid (∀ k ∈ devB db2 y2, w7.heap.size ≤ k) := Lib.hid (fun k hk => by have := hd8.bounds; simp [devB] at hk; omega)
        clear hb7 hb8 hd8 z9 qKe qOp SA6h R6h OC6h HB6
        have qR1 : Hid (∀ wz, DevAt w7.heap.size wz db2 y2 (Dev.fresh M) → Calls Tryz.prog 15 #[.pointer (some ⟨db2, 0, none⟩), .agg (Geo.cells G)] wz fun e w' => ∃ v D', e = .returned (.tuple #[v, .int .i64 0]) ∧ DevAt w7.heap.size w' db2 y2 D' ∧ Only (devB db2 y2) wz w' ∧ OwnT wz.heap.size w' v [Msk.T G ss, Msk.T G ss] ∧ D'.Ok 6000 ∧ (D'.kept.length : Int) = G.blocks ∧ ∀ k, k < ss.length → Jr.blk D'.now (Sys.hb G k) = ss.getD k Msk.no) := Lib.hid (fun wz hz => by
          refine (openlog_msk HOKF.out rfl rfl (by simp) hz (by decide)).mono ?_
          rintro e w' ⟨v, D', he, h2, h3, h4, h5, h6, h7⟩
          exact ⟨v, D', he, h2, h3, h4, h5.mono (by decide), h6, fun k hk => by
            rw [h7 _ (Sys.hb_facts hg.out (k := k) (by have := HS12.out; omega)).2.2.2]
            exact Msk.val_T G hk _ [Msk.T G ss]⟩)
        unfold Geo.cells at qR1
        have k0 := SA8.out.row.cellAt 0 rfl
        have k1 := SA8.out.row.cellAt 1 rfl
        have k2 := SA8.out.row.cellAt 2 rfl
        have k3 := SA8.out.row.cellAt 3 rfl
        have k4 := SA8.out.row.cellAt 4 rfl
        have k5 := SA8.out.row.cellAt 5 rfl
        have k6 := SA8.out.row.cellAt 6 rfl
        have k7 := SA8.out.row.cellAt 7 rfl
        have k8 := SA8.out.row.cellAt 8 rfl
        have qR8 := Lib.hid (qR1.out _ HD8.out)
        go_upto_region 20 with (first | (go_at_call 15; (with_reducible refine qR8.out.mono ?_); rintro e w9 ⟨v9, D9, rfl, hd9, ho9, hot9, hdk9, hbl9, hval9⟩) | fail "none")
        obtain ⟨a9, c9, rfl⟩ : ∃ ad c, v9 = .slice ad 2 c := hot9.slice
        have s9 := Lib.hid (s8.out.trans (ho9.below s8.out.size HDB.out))
        have R9 := Lib.hid (R7.out.below s9.out R7.out.lt)
        have OC9 : Hid (OwnC w3.heap.size w9 (.slice av n cv) (Msk.chs G ss)) := Lib.hid (own_below OC7.out s9.out)
        have HB9 := Lib.hid (below_next HB7.out s9.out)
        have HZ9 := Lib.hid (Nat.le_trans HZ7.out s9.out.size)
        have HD9 := Lib.hid hd9
        have HX9 := Lib.hid hot9
        have HBL9 := Lib.hid hbl9
        have HV9 := Lib.hid hval9
        clear hd9 ho9 hot9 hdk9 hbl9 hval9 qR8 qR1 s8 s9 R7 OC7 HB7 SA8 HD8 HDB k0 k1 k2 k3 k4 k5 k6 k7 k8
        have x0 := R9.out.cellAt 0 rfl
        have x1 := R9.out.cellAt 1 rfl
        go_upto_region 21 with fail
        have OT10 := Lib.hid (ownT_lit w9 (c := .slice av n cv) (t := Msk.T G ss) HZ9.out OC9.out rfl)
        have OR10 := Lib.hid (ownR_lit w9 (.slice av n cv) (.slice none 0 0))
        have s10 := Lib.hid (below_box (Below.refl w9.heap.size w9) (.cells #[.slice av n cv, .slice none 0 0] 25))
        clear x0 x1
        generalize w9.alloc _ = w10 at *
        have R10 := Lib.hid (R9.out.below s10.out R9.out.lt)
        have x0 := R10.out.cellAt 0 rfl
        have x1 := R10.out.cellAt 1 rfl
        have hone : ∀ u ∈ ([.slice av n cv, .slice none 0 0] : List Value), u.oneCell' = true := by simp [Value.oneCell']
        have HZA : Hid (∀ o, w9.heap.size ≤ (w10.alloc o).heap.size) := Lib.hid (fun o => by have := s10.out.size; simp; omega)
        go_upto_region 23 with (first | (at_builtin; refine wpList_append_own _ rfl (.tmp 131) (.tmp 133) 43 rfl w9.heap.size 25 k0i (.agg #[.slice none 0 0, .slice none 0 0]) 2 48 Tryz.underlying43 hk0 kz0 kz1 kz2 rfl (by decide) _ 1 _ rfl (own_new1 OR10.out _) ⟨w10.heap.size, 0, none⟩ 1 1 [.slice av n cv, .slice none 0 0] rfl rfl (World.news_of_block (heap_alloc_new _ _)) hone (by unfold maxLen; decide) (by decide) (HZA.out _) ?_; intro v11 w11 hown11 hgrow11 _))
        have hox1 := own_new1 OR10.out (.cells #[.slice av n cv, .slice none 0 0] 25)
        have s11 := Lib.hid (s10.out.trans (all_grown hox1 hgrow11 (Below.refl w9.heap.size w10) (Nat.le_refl _) s10.out.size))
        have OT11 : Hid (OwnT w3.heap.size w11 v11 [Msk.T G ss, Msk.T G ss]) := Lib.hid (by
          obtain ⟨xs, h1, h2⟩ := OT10.out
          have hc10 : OwnC w3.heap.size w10 (.slice av n cv) (Msk.T G ss).ch := own_below OC9.out s10.out
          have hp := all_push (B := w3.heap.size) (pq := [(.slice av n cv, .slice none 0 0)]) (ts := [Msk.T G ss]) (t := Msk.T G ss) (hox1.mono HZ9.out) ⟨⟨hc10, World.ownsRow_nil _ _ _ _⟩, trivial⟩ hc10 (World.ownsRow_nil _ _ _ _) hgrow11
          exact ⟨[(.slice av n cv, .slice none 0 0), (.slice av n cv, .slice none 0 0)], hown11.mono HZ9.out, hp⟩)
        clear hox1 hown11 hgrow11 hone HZA x0 x1 R10
        have qSm : Hid (Calls Tryz.prog 26 #[.slice a9 2 c9, v11] w11 fun e w' => e = .returned (.bool true) ∧ ∃ n, w' = w11.drewN n) := Lib.hid (txns_same w11 _ _ [Msk.T G ss, Msk.T G ss] (HX9.out.below s11.out).at OT11.out.at (by simp) (by
          have h12 := HS12.out
          have hcl := Msk.chs_length G ss
          intro t ht
          have e : t = Msk.T G ss := by simpa using ht
          rw [e]
          exact ⟨by show (Msk.chs G ss).length ≤ _; omega, by show 0 ≤ _; omega⟩))
        go_upto_region 25 with (first | (go_at_call 26; (with_reducible refine qSm.out.mono ?_); rintro e w12 ⟨rfl, n12, hw12⟩; subst w12) | fail "none")
        have s12 := Lib.hid (below_drewN s11.out n12)
        clear qSm s11 OT11 s10 OT10 OR10
        generalize w11.drewN n12 = w12 at *
        go_wp2_with fail
        go_loopw [19, 20, 21] (fun ta tb tc wr => ∃ (j : Nat) (u1 u2 : Value), ta = .int .i64 (j : Int) ∧ u1 = tb ∧ u2 = tc ∧ j ≤ n ∧ Hid (Below w9.heap.size w9 wr)) (fun ta _ _ _ => n - (intOf ta).toNat)
        case atStart => exact ⟨0, _, _, rfl, rfl, rfl, by omega, s12⟩
        case round =>
          clear s12
          obtain ⟨j, u1, u2, rfl, rfl, rfl, hj, s12⟩ := hrel
          have x0 := (R9.out.below s12.out R9.out.lt).cellAt 0 rfl
          have hn12 : n ≤ 12 := by have h1 := HN.out; have h2 := HS12.out; rw [Msk.chs_length] at h1; omega
          by_cases hlt : j < n
          · have i1 : (j : Int) < (n : Int) := by omega
            have HJN := Lib.hid (show j + 1 ≤ n from hlt)
            have hlt2 : j < ss.length := by have h1 := HN.out; rw [Msk.chs_length] at h1; omega
            obtain ⟨g, off, rfl, d0, d1⟩ := ChgsAt.cells ((show ChgsAt w9 (.slice av n cv) (Msk.chs G ss) from OC9.out.at).below s12.out) (Msk.chs_get G ss j hlt2)
            have qRd : Hid (Calls Tryz.prog 27 #[.pointer (some ⟨db2, 0, none⟩), .int .i64 ((Sys.hb G j : Nat) : Int)] wr fun e w' => e = .returned (.tuple #[.string (ss.getD j Msk.no), .int .i64 0]) ∧ w' = wr) := Lib.hid (by
              have h12 := HS12.out
              have h := read_msk (b := Sys.hb G j) (HD9.out.below s12.out) (by rw [HBL9.out]; have := (Sys.hb_facts hg.out (k := j) (by omega)).2.1; omega)
              rwa [HV9.out j hlt2] at h)
            dsimp only at d0 d1
            generalize ss.getD j Msk.no = SJ at *
            generalize ((Sys.hb G j : Nat) : Int) = BJ at *
            go_wp2_with (first | (go_at_call 27; (with_reducible refine qRd.out.mono ?_); rintro e w13 ⟨rfl, hw13⟩; subst w13) | fail "none")
            go_roundw
            case rel => exact ⟨j + 1, _, _, by go_num, rfl, rfl, HJN.out, s12⟩
            case measure => have hj1 := HJN.out; simp [intOf]; omega
          · have i1 : ¬ (j : Int) < (n : Int) := by omega
            go_wp2_with (first | (go_at_call 14; (with_reducible refine (qA.out _).mono ?_); rintro e w16 ⟨rfl, hb16⟩) | fail "none")
            go_ret
            exact ⟨rfl, below_next (below_next HB9.out s12.out) hb16⟩
      | false =>
        go_upto_region 16 with fail
        have KF : Hid (∀ (wz : World), wz.cell? ⟨wb, 10, none⟩ = some (.pointer (some ⟨lb, 0, none⟩)) → wz.cell? ⟨w3.heap.size, 0, none⟩ = some (.slice av n cv) → wz.cell? ⟨w3.heap.size, 1, none⟩ = some (.slice none 0 0) → wz.cell? ⟨wb, 10, none⟩ = some (.pointer (some ⟨lb, 0, none⟩)) ∧ wz.cell? ⟨w3.heap.size, 0, none⟩ = some (.slice av n cv) ∧ wz.cell? ⟨w3.heap.size, 1, none⟩ = some (.slice none 0 0)) := Lib.hid (fun _ a b c => ⟨a, b, c⟩)
        refine wp_region_E (S := fun w' => w'.cell? ⟨wb, 10, none⟩ = some (.pointer (some ⟨lb, 0, none⟩)) ∧ w'.cell? ⟨w3.heap.size, 0, none⟩ = some (.slice av n cv) ∧ w'.cell? ⟨w3.heap.size, 1, none⟩ = some (.slice none 0 0)) (E := []) (by kernel_rfl) ⟨k10, x0, x1⟩ (fun hHeld hCl => ?_)
        refine wpAnyE_take (i := 0) (v := .pointer (some ⟨wb, 0, none⟩)) rfl (by kernel_rfl) (by kernel_rfl) (by kernel_rfl) (by kernel_rfl) hCl (fun _ _ _ h => h) (Or.inl ⟨rfl, fun w hSw => (by (try dsimp only at hSw); go_simp)⟩) hHeld (fun hCl => ?_); (try simp only [List.getElem_toArray, List.getElem_cons_zero, Act.put, List.setIfInBounds_toArray, List.set_cons_zero, List.set_cons_succ])
        refine wpAnyE_take (i := 1) (v := .pointer (some ⟨wb, 0, none⟩)) rfl (by kernel_rfl) (by kernel_rfl) (by kernel_rfl) (by kernel_rfl) hCl (fun _ _ _ h => h) (Or.inl ⟨rfl, fun w hSw => (by (try dsimp only at hSw); go_simp)⟩) hHeld (fun hCl => ?_); (try simp only [List.getElem_toArray, List.getElem_cons_succ, List.getElem_cons_zero, Act.put, List.setIfInBounds_toArray, List.set_cons_zero, List.set_cons_succ])
        refine wpAnyE_take (i := 2) (v := .pointer (some ⟨wb, 10, none⟩)) rfl (by kernel_rfl) (by kernel_rfl) (by kernel_rfl) (by kernel_rfl) hCl (fun _ _ _ h => h) (Or.inl ⟨rfl, fun w hSw => (by (try dsimp only at hSw); go_simp)⟩) hHeld (fun hCl => ?_); (try simp only [List.getElem_toArray, List.getElem_cons_succ, List.getElem_cons_zero, Act.put, List.setIfInBounds_toArray, List.set_cons_zero, List.set_cons_succ])
        refine wpAnyE_take (i := 3) (v := .pointer (some ⟨lb, 0, none⟩)) rfl (by kernel_rfl) (by kernel_rfl) (by kernel_rfl) (by kernel_rfl) hCl (fun _ _ _ h => h) (Or.inl ⟨rfl, fun w hSw => (by (try dsimp only at hSw); go_simp)⟩) hHeld (fun hCl => ?_); (try simp only [List.getElem_toArray, List.getElem_cons_succ, List.getElem_cons_zero, Act.put, List.setIfInBounds_toArray, List.set_cons_zero, List.set_cons_succ])
        refine wpAnyE_take (i := 4) (v := .agg #[.slice av n cv, .slice none 0 0]) rfl (by kernel_rfl) (by kernel_rfl) (by kernel_rfl) (by kernel_rfl) hCl (fun _ _ _ h => h) (Or.inl ⟨rfl, fun w hSw => (by (try dsimp only at hSw); go_simp)⟩) hHeld (fun hCl => ?_); (try simp only [List.getElem_toArray, List.getElem_cons_succ, List.getElem_cons_zero, Act.put, List.setIfInBounds_toArray, List.set_cons_zero, List.set_cons_succ])
        refine wpAnyE_ready (rs := [5]) (by kernel_rfl) (by simp) ?_; refine NextE.cons rfl (fun K hK => ?_) NextE.nil
        go_simp
        go_at_call 19
        (with_reducible refine (qC1.out _ SAd.out OCd.out).mono ?_)
        rintro e w6 ⟨rfl, D6, V6, har6, hu6, hok6, SA6, ho5⟩
        have R6 := ho5.row (Row.drew RT.out) HTN.out
        have OC6 : OwnC w3.heap.size w6 (.slice av n cv) (Msk.chs G ss) := ho5.belowOf HSLB.out (Nat.le_refl _) OCd.out
        have kk := KF.out _ (SA6.row.cellAt 10 rfl) (R6.cellAt 0 rfl) (R6.cellAt 1 rfl)
        refine hK.out _ _ (fun _ => kk) (fun hHeld => ?_); replace hHeld := hHeld rfl; have hCl := hCl.step (j := 5) (by decide +kernel); clear hK K; (try simp only [List.getElem_toArray, List.getElem_cons_succ, List.getElem_cons_zero, Act.put, List.setIfInBounds_toArray, List.set_cons_zero, List.set_cons_succ])
        refine wpAnyE_take (i := 6) (v := .bool false) rfl (by kernel_rfl) (by kernel_rfl) (by kernel_rfl) (by kernel_rfl) hCl (fun _ _ _ h => h) (Or.inl ⟨rfl, fun w hSw => (by (try dsimp only at hSw); go_simp)⟩) hHeld (fun hCl => ?_); (try simp only [List.getElem_toArray, List.getElem_cons_succ, List.getElem_cons_zero, Act.put, List.setIfInBounds_toArray, List.set_cons_zero, List.set_cons_succ])
        refine wpAnyE_take (i := 7) (v := .bool false) rfl (by kernel_rfl) (by kernel_rfl) (by kernel_rfl) (by kernel_rfl) hCl (fun _ _ _ h => h) (Or.inl ⟨rfl, fun w hSw => (by (try dsimp only at hSw); go_simp)⟩) hHeld (fun hCl => ?_); (try simp only [List.getElem_toArray, List.getElem_cons_succ, List.getElem_cons_zero, Act.put, List.setIfInBounds_toArray, List.set_cons_zero, List.set_cons_succ])
        refine wpAnyE_take (i := 8) (v := .bool false) rfl (by kernel_rfl) (by kernel_rfl) (by kernel_rfl) (by kernel_rfl) hCl (fun _ _ _ h => h) (Or.inl ⟨rfl, fun w hSw => (by (try dsimp only at hSw); go_simp)⟩) hHeld (fun hCl => ?_); (try simp only [List.getElem_toArray, List.getElem_cons_succ, List.getElem_cons_zero, Act.put, List.setIfInBounds_toArray, List.set_cons_zero, List.set_cons_succ])
        refine wpAnyE_take (i := 9) (v := .bool false) rfl (by kernel_rfl) (by kernel_rfl) (by kernel_rfl) (by kernel_rfl) hCl (fun _ _ _ h => h) (Or.inl ⟨rfl, fun w hSw => (by (try dsimp only at hSw); go_simp)⟩) hHeld (fun hCl => ?_); (try simp only [List.getElem_toArray, List.getElem_cons_succ, List.getElem_cons_zero, Act.put, List.setIfInBounds_toArray, List.set_cons_zero, List.set_cons_succ])
        refine wpAnyE_take (i := 10) (v := undef) rfl (by kernel_rfl) (by kernel_rfl) (by kernel_rfl) (by kernel_rfl) hCl (fun _ _ _ h => h) (Or.inr ⟨by rfl, rfl⟩) hHeld (fun hCl => ?_); (try simp only [List.getElem_toArray, List.getElem_cons_succ, List.getElem_cons_zero, Act.put, List.setIfInBounds_toArray, List.set_cons_zero, List.set_cons_succ])
        refine wpAnyE_take (i := 11) (v := undef) rfl (by kernel_rfl) (by kernel_rfl) (by kernel_rfl) (by kernel_rfl) hCl (fun _ _ _ h => h) (Or.inr ⟨by rfl, rfl⟩) hHeld (fun hCl => ?_); (try simp only [List.getElem_toArray, List.getElem_cons_succ, List.getElem_cons_zero, Act.put, List.setIfInBounds_toArray, List.set_cons_zero, List.set_cons_succ])
        refine wpAnyE_take (i := 12) (v := undef) rfl (by kernel_rfl) (by kernel_rfl) (by kernel_rfl) (by kernel_rfl) hCl (fun _ _ _ h => h) (Or.inr ⟨by rfl, rfl⟩) hHeld (fun hCl => ?_); (try simp only [List.getElem_toArray, List.getElem_cons_succ, List.getElem_cons_zero, Act.put, List.setIfInBounds_toArray, List.set_cons_zero, List.set_cons_succ])
        refine wpAnyE_take (i := 13) (v := undef) rfl (by kernel_rfl) (by kernel_rfl) (by kernel_rfl) (by kernel_rfl) hCl (fun _ _ _ h => h) (Or.inr ⟨by rfl, rfl⟩) hHeld (fun hCl => ?_); (try simp only [List.getElem_toArray, List.getElem_cons_succ, List.getElem_cons_zero, Act.put, List.setIfInBounds_toArray, List.set_cons_zero, List.set_cons_succ])
        refine wpAnyE_take (i := 14) (v := undef) rfl (by kernel_rfl) (by kernel_rfl) (by kernel_rfl) (by kernel_rfl) hCl (fun _ _ _ h => h) (Or.inr ⟨by rfl, rfl⟩) hHeld (fun hCl => ?_); (try simp only [List.getElem_toArray, List.getElem_cons_succ, List.getElem_cons_zero, Act.put, List.setIfInBounds_toArray, List.set_cons_zero, List.set_cons_succ])
        refine wpAnyE_ready (rs := [15]) (by kernel_rfl) (by simp) ?_; refine NextE.cons rfl (fun K hK => ?_) NextE.nil
        refine ite_not (by intro h; exact Bool.noConfusion (show false = true from h)) ?_
        refine hK.out _ _ (fun _ => kk) (fun hHeld => ?_); replace hHeld := hHeld rfl; have hCl := hCl.step (j := 15) (by decide +kernel); clear hK K; (try simp only [List.getElem_toArray, List.getElem_cons_succ, List.getElem_cons_zero, Act.put, List.setIfInBounds_toArray, List.set_cons_zero, List.set_cons_succ])
        refine wpAnyE_take (i := 16) (v := undef) rfl (by kernel_rfl) (by kernel_rfl) (by kernel_rfl) (by kernel_rfl) hCl (fun _ _ _ h => h) (Or.inr ⟨by rfl, rfl⟩) hHeld (fun hCl => ?_); (try simp only [List.getElem_toArray, List.getElem_cons_succ, List.getElem_cons_zero, Act.put, List.setIfInBounds_toArray, List.set_cons_zero, List.set_cons_succ])
        refine wpAnyE_take (i := 17) (v := .bool false) rfl (by kernel_rfl) (by kernel_rfl) (by kernel_rfl) (by kernel_rfl) hCl (fun _ _ _ h => h) (Or.inl ⟨rfl, fun w hSw => (by (try dsimp only at hSw); go_simp)⟩) hHeld (fun hCl => ?_); (try simp only [List.getElem_toArray, List.getElem_cons_succ, List.getElem_cons_zero, Act.put, List.setIfInBounds_toArray, List.set_cons_zero, List.set_cons_succ])
        refine wpAnyE_take (i := 18) (v := .bool false) rfl (by kernel_rfl) (by kernel_rfl) (by kernel_rfl) (by kernel_rfl) hCl (fun _ _ _ h => h) (Or.inl ⟨rfl, fun w hSw => (by (try dsimp only at hSw); go_simp)⟩) hHeld (fun hCl => ?_); (try simp only [List.getElem_toArray, List.getElem_cons_succ, List.getElem_cons_zero, Act.put, List.setIfInBounds_toArray, List.set_cons_zero, List.set_cons_succ])
        refine wpAnyE_done (by kernel_rfl) ?_ _
        have ho6 : Only (lb :: devB db y) wc w6 := ⟨ho5.os, ho5.tape, ho5.output, ho5.size, ho5.block⟩
        clear hHeld hCl kk KF hu6 ho5
        go_upto_region 18 with fail
        have SA6h := Lib.hid SA6
        have R6h := Lib.hid R6
        have OC6h := Lib.hid OC6
        have HOK6 := Lib.hid hok6
        have HB6 := Lib.hid (HB.out.trans (ho6.below HB.out.size (fun k hk => by have := HS3.out k (List.mem_cons_of_mem _ hk); have := HW2.out; omega)))
        have HZ6 := Lib.hid (Nat.le_trans HZ.out ho6.size)
        clear SA6 R6 OC6 hok6 ho6 har6 k10 x0 x1 qC1 qC2 SAd OCd OC0 HTN SA RT OC HB HZ
        have hszM := HOK6.out.dok.kept
        have hbM := HOK6.out.blocks
        have HOKF := Lib.hid HOK6.out.fresh
        have qKe : Hid (∀ wz, DevAt w1.heap.size wz db y D6 → Calls Tryz.prog 25 #[.pointer (some ⟨db, 0, none⟩)] wz fun e w' => e = .returned (.string (txt (cat D6.kept))) ∧ Below wz.heap.size wz w') := Lib.hid (fun wz hz => kept_any hz hszM)
        obtain ⟨M, hM⟩ : ∃ M, D6.kept = M := ⟨_, rfl⟩
        rw [hM] at hszM hbM qKe HOKF
        have qOp : Hid (∀ wz, Calls Tryz.prog 24 #[.string (txt (cat M))] wz fun e w' => ∃ b, e = .returned (.tuple #[.pointer (some ⟨b, 0, none⟩), .int .i64 0]) ∧ (∃ y, DevAt wz.heap.size w' b y (Dev.fresh M)) ∧ Below wz.heap.size wz w') := Lib.hid (fun wz => opendev_sys hszM (by omega))
        have z9 := SA6h.out.row.cellAt 9 rfl
        clear hszM hbM hM
        go_upto_region 19 with (first | (go_at_call 25; (with_reducible refine (qKe.out _ SA6h.out.dev).mono ?_); rintro e w7 ⟨rfl, hb7⟩) | (go_at_call 24; (with_reducible refine (qOp.out _).mono ?_); rintro e w8 ⟨db2, rfl, ⟨y2, hd8⟩, hb8⟩) | fail "none")
        have R7 := Lib.hid (R6h.out.below hb7 R6h.out.lt)
        have OC7 : Hid (OwnC w3.heap.size w7 (.slice av n cv) (Msk.chs G ss)) := Lib.hid (own_below OC6h.out hb7)
        have HB7 := Lib.hid (below_next HB6.out hb7)
        have HZ7 := Lib.hid (Nat.le_trans HZ6.out hb7.size)
        have SA8 := Lib.hid (SA6h.out.below (below_next hb7 hb8))
        have s8 := Lib.hid hb8
        have HD8 := Lib.hid hd8
        have HDB : Hid (∀ k ∈ devB db2 y2, w7.heap.size ≤ k) := Lib.hid (fun k hk => by have := hd8.bounds; simp [devB] at hk; omega)
        clear hb7 hb8 hd8 z9 qKe qOp SA6h R6h OC6h HB6
        have qR1 : Hid (∀ wz, DevAt w7.heap.size wz db2 y2 (Dev.fresh M) → Calls Tryz.prog 15 #[.pointer (some ⟨db2, 0, none⟩), .agg (Geo.cells G)] wz fun e w' => ∃ v D', e = .returned (.tuple #[v, .int .i64 0]) ∧ DevAt w7.heap.size w' db2 y2 D' ∧ Only (devB db2 y2) wz w' ∧ OwnT wz.heap.size w' v [Msk.T G ss] ∧ D'.Ok 6000 ∧ (D'.kept.length : Int) = G.blocks ∧ ∀ k, k < ss.length → Jr.blk D'.now (Sys.hb G k) = ss.getD k Msk.no) := Lib.hid (fun wz hz => by
          refine (openlog_msk HOKF.out rfl rfl (by simp) hz (by decide)).mono ?_
          rintro e w' ⟨v, D', he, h2, h3, h4, h5, h6, h7⟩
          exact ⟨v, D', he, h2, h3, h4, h5.mono (by decide), h6, fun k hk => by
            rw [h7 _ (Sys.hb_facts hg.out (k := k) (by have := HS12.out; omega)).2.2.2]
            exact Msk.val_T G hk _ []⟩)
        unfold Geo.cells at qR1
        have k0 := SA8.out.row.cellAt 0 rfl
        have k1 := SA8.out.row.cellAt 1 rfl
        have k2 := SA8.out.row.cellAt 2 rfl
        have k3 := SA8.out.row.cellAt 3 rfl
        have k4 := SA8.out.row.cellAt 4 rfl
        have k5 := SA8.out.row.cellAt 5 rfl
        have k6 := SA8.out.row.cellAt 6 rfl
        have k7 := SA8.out.row.cellAt 7 rfl
        have k8 := SA8.out.row.cellAt 8 rfl
        have qR8 := Lib.hid (qR1.out _ HD8.out)
        go_upto_region 20 with (first | (go_at_call 15; (with_reducible refine qR8.out.mono ?_); rintro e w9 ⟨v9, D9, rfl, hd9, ho9, hot9, hdk9, hbl9, hval9⟩) | fail "none")
        obtain ⟨a9, c9, rfl⟩ : ∃ ad c, v9 = .slice ad 1 c := hot9.slice
        have s9 := Lib.hid (s8.out.trans (ho9.below s8.out.size HDB.out))
        have R9 := Lib.hid (R7.out.below s9.out R7.out.lt)
        have OC9 : Hid (OwnC w3.heap.size w9 (.slice av n cv) (Msk.chs G ss)) := Lib.hid (own_below OC7.out s9.out)
        have HB9 := Lib.hid (below_next HB7.out s9.out)
        have HZ9 := Lib.hid (Nat.le_trans HZ7.out s9.out.size)
        have HD9 := Lib.hid hd9
        have HX9 := Lib.hid hot9
        have HBL9 := Lib.hid hbl9
        have HV9 := Lib.hid hval9
        clear hd9 ho9 hot9 hdk9 hbl9 hval9 qR8 qR1 s8 s9 R7 OC7 HB7 SA8 HD8 HDB k0 k1 k2 k3 k4 k5 k6 k7 k8
        have x0 := R9.out.cellAt 0 rfl
        have x1 := R9.out.cellAt 1 rfl
        go_upto_region 21 with fail
        have OT10 := Lib.hid (ownT_lit w9 (c := .slice av n cv) (t := Msk.T G ss) HZ9.out OC9.out rfl)
        have OR10 := Lib.hid (ownR_lit w9 (.slice av n cv) (.slice none 0 0))
        have s10 := Lib.hid (below_box (Below.refl w9.heap.size w9) (.cells #[.slice av n cv, .slice none 0 0] 25))
        clear x0 x1
        generalize w9.alloc _ = w10 at *
        have s11 := s10
        have OT11 := OT10
        have qSm : Hid (Calls Tryz.prog 26 #[.slice a9 1 c9, .slice (some ⟨w9.heap.size, 0, none⟩) 1 1] w10 fun e w' => e = .returned (.bool true) ∧ ∃ n, w' = w10.drewN n) := Lib.hid (txns_same w10 _ _ [Msk.T G ss] (HX9.out.below s11.out).at OT11.out.at (by simp) (by
          have h12 := HS12.out
          have hcl := Msk.chs_length G ss
          intro t ht
          have e : t = Msk.T G ss := by simpa using ht
          rw [e]
          exact ⟨by show (Msk.chs G ss).length ≤ _; omega, by show 0 ≤ _; omega⟩))
        go_upto_region 25 with (first | (go_at_call 26; (with_reducible refine qSm.out.mono ?_); rintro e w12 ⟨rfl, n12, hw12⟩; subst w12) | fail "none")
        have s12 := Lib.hid (below_drewN s11.out n12)
        clear qSm s11 OT11 s10 OT10 OR10
        generalize w10.drewN n12 = w12 at *
        go_wp2_with fail
        go_loopw [19, 20, 21] (fun ta tb tc wr => ∃ (j : Nat) (u1 u2 : Value), ta = .int .i64 (j : Int) ∧ u1 = tb ∧ u2 = tc ∧ j ≤ n ∧ Hid (Below w9.heap.size w9 wr)) (fun ta _ _ _ => n - (intOf ta).toNat)
        case atStart => exact ⟨0, _, _, rfl, rfl, rfl, by omega, s12⟩
        case round =>
          clear s12
          obtain ⟨j, u1, u2, rfl, rfl, rfl, hj, s12⟩ := hrel
          have x0 := (R9.out.below s12.out R9.out.lt).cellAt 0 rfl
          have hn12 : n ≤ 12 := by have h1 := HN.out; have h2 := HS12.out; rw [Msk.chs_length] at h1; omega
          by_cases hlt : j < n
          · have i1 : (j : Int) < (n : Int) := by omega
            have HJN := Lib.hid (show j + 1 ≤ n from hlt)
            have hlt2 : j < ss.length := by have h1 := HN.out; rw [Msk.chs_length] at h1; omega
            obtain ⟨g, off, rfl, d0, d1⟩ := ChgsAt.cells ((show ChgsAt w9 (.slice av n cv) (Msk.chs G ss) from OC9.out.at).below s12.out) (Msk.chs_get G ss j hlt2)
            have qRd : Hid (Calls Tryz.prog 27 #[.pointer (some ⟨db2, 0, none⟩), .int .i64 ((Sys.hb G j : Nat) : Int)] wr fun e w' => e = .returned (.tuple #[.string (ss.getD j Msk.no), .int .i64 0]) ∧ w' = wr) := Lib.hid (by
              have h12 := HS12.out
              have h := read_msk (b := Sys.hb G j) (HD9.out.below s12.out) (by rw [HBL9.out]; have := (Sys.hb_facts hg.out (k := j) (by omega)).2.1; omega)
              rwa [HV9.out j hlt2] at h)
            dsimp only at d0 d1
            generalize ss.getD j Msk.no = SJ at *
            generalize ((Sys.hb G j : Nat) : Int) = BJ at *
            go_wp2_with (first | (go_at_call 27; (with_reducible refine qRd.out.mono ?_); rintro e w13 ⟨rfl, hw13⟩; subst w13) | fail "none")
            go_roundw
            case rel => exact ⟨j + 1, _, _, by go_num, rfl, rfl, HJN.out, s12⟩
            case measure => have hj1 := HJN.out; simp [intOf]; omega
          · have i1 : ¬ (j : Int) < (n : Int) := by omega
            go_wp2_with (first | (go_at_call 14; (with_reducible refine (qA.out _).mono ?_); rintro e w16 ⟨rfl, hb16⟩) | fail "none")
            go_ret
            exact ⟨rfl, below_next (below_next HB9.out s12.out) hb16⟩
end Go.Proofs.YtnpdhidliaahbaaGreat
