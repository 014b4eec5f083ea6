/- JournalTries: the walk. -/
import Derived.Test.YtnpdhidliaahbaaGreatG41
set_option linter.unusedSimpArgs false
set_option linter.unusedVariables false
namespace Go.Proofs.YtnpdhidliaahbaaGreat
set_option linter.unusedVariables false
open Go Go.RowKit
set_option maxRecDepth 100000 in
set_option maxHeartbeats 16000000 in
/-- The law's walk. -/
theorem JournalTries_walk (a b c : UInt8) (ax : Option Addr) (cx : Nat) (l1 : List Sys.Step) (ao : Option Addr) (co : Nat) (o1 : List FailV) {w : World} (s1 : StepsIn w (.slice ax l1.length cx) l1) (s2 : FailsIn w (.slice ao o1.length co) o1) :
    Calls Tryz.prog 9 #[.agg #[bval a, bval b, bval c], .slice ax l1.length cx, .slice ao o1.length co] w fun e w' => e = .returned (.bool true) ∧ Below w.heap.size w w' := by
  have HST := Lib.hid s1
  have HFT := Lib.hid s2
  have hslen := s1.len
  have holen := s2.len
  have qM : Hid (∀ wz, StepsIn wz (.slice ax l1.length cx) l1 → Calls Tryz.prog 38 #[.slice ax l1.length cx] wz fun e w' => e = .returned (.bool (manyB l1)) ∧ Below wz.heap.size wz w') := Lib.hid (fun wz hz => manysteps_any wz hz)
  have qB := Lib.hid (fun wz => begun_any a b c wz)
  have qA := Lib.hid (fun wz => alive_any wz)
  obtain ⟨_, hok0, harm0, hkn0⟩ := devG_ok a.toNat b.toNat c.toNat
  have HOK0 := Lib.hid hok0
  clear hok0 harm0 hkn0 s1 s2
  generalize devG a.toNat b.toNat c.toNat = D0 at *
  generalize layG a.toNat b.toNat c.toNat = G at *
  generalize bval a = va at *
  generalize bval b = vb at *
  generalize bval c = vc at *
  go_enter Tryz.func9, Tryz.ntmps9
  go_upto_region 1 with fail
  have hB1 : Below w.heap.size w (w.alloc (.cells #[va, vb, vc] 54)) := below_box (Below.refl _ _) _
  have q0 : Row (w.alloc (.cells #[va, vb, vc] 54)) w.heap.size 54 [va, vb, vc] := Row.new w _ _ rfl
  have B1 := Lib.hid hB1
  have Q0 := Lib.hid q0
  have qM1 := Lib.hid (qM.out _ (HST.out.below hB1))
  clear hB1 q0
  generalize w.alloc _ = w1 at *
  by_cases hm : manyB l1 = true
  · rw [hm] at qM1
    go_wp2_with (first | (go_at_call 38; (with_reducible refine qM1.out.mono ?_); rintro e w2 ⟨rfl, hb2⟩) | fail "none")
    go_ret
    exact ⟨rfl, below_next B1.out hb2⟩
  · have hmf : manyB l1 = false := by simpa using hm
    rw [hmf] at qM1
    clear hm hmf
    by_cases hk : 8 < o1.length
    · have ik : (8 : Int) < (o1.length : Int) := by omega
      go_wp2_with (first | (go_at_call 38; (with_reducible refine qM1.out.mono ?_); rintro e w2 ⟨rfl, hb2⟩) | fail "none")
      go_ret
      exact ⟨rfl, below_next B1.out hb2⟩
    · have ik : ¬ (8 : Int) < (o1.length : Int) := by omega
      have ho8 : o1.length ≤ 8 := by omega
      clear hk
      go_upto_region 3 with (first | (go_at_call 38; (with_reducible refine qM1.out.mono ?_); rintro e w2 ⟨rfl, hb2⟩) | fail "none")
      have B2 := Lib.hid (below_next B1.out hb2)
      have Q02 := Lib.hid (Q0.out.below hb2 Q0.out.lt)
      clear hb2 Q0 B1 qM1 qM ik
      have y0 := Q02.out.cellAt 0 rfl
      have y1 := Q02.out.cellAt 1 rfl
      have y2 := Q02.out.cellAt 2 rfl
      go_upto_region 6 with (first | (go_at_call 22; (with_reducible refine (qB.out _).mono ?_); rintro e w3 ⟨wb, db, lb, y, rfl, hs3, hwb, hlb, hb3⟩) | fail "none")
      have SA3 := Lib.hid hs3
      have B3 := Lib.hid (below_next B2.out hb3)
      have HS3 : Hid (∀ k ∈ wb :: lb :: devB db y, w2.heap.size ≤ k) := Lib.hid (fun k hk => by
        have := hs3.dev.bounds
        rcases List.mem_cons.1 hk with rfl | hk
        · exact hwb
        rcases List.mem_cons.1 hk with rfl | hk
        · exact hlb
        · simp [devB] at hk; omega)
      have HW2 : Hid (w.heap.size ≤ w2.heap.size) := Lib.hid B2.out.size
      have hg : Hid (Geo.May G) := Lib.hid HOK0.out.may
      have hga := hg.out.ok.1
      unfold Geo.asked at hga
      have hgl := (Jr.plc_of hg.out).2.2
      have hwL : IntKind.i64.wrap (G.log - 1) = G.log - 1 := IntWalk.i64_in _ (by omega)
      have HEE : Hid ((G.log - 1 == G.log - 1) = true) := Lib.hid (beq_self_eq_true _)
      clear hs3 hwb hlb hb3 y0 y1 y2 Q02 B2 qB
      go_wp2_with fail
      go_loopw [9, 10] (fun ta ti wr => ∃ (at0 j db lb : Nat) (y : Lay) (D : Dev) (V : LogV) (home want : List UInt8) (p q : Nat) (l : List Jr.Txn), ta = .int .i64 (at0 : Int) ∧ ti = .int .i64 (j : Int) ∧ j ≤ o1.length ∧ at0 ≤ l1.length ∧ Hid (SysAt w2.heap.size wb db lb y G D V home want wr) ∧ Hid (Sys.Ok G D V home want p q l (600 + 10000 * j)) ∧ Hid (∀ k ∈ wb :: lb :: devB db y, w2.heap.size ≤ k) ∧ Hid (Below w.heap.size w wr)) (fun _ ti _ => o1.length - (intOf ti).toNat)
      case atStart => exact ⟨0, 0, db, lb, y, _, _, _, _, _, _, _, rfl, rfl, by omega, by omega, SA3, HOK0, HS3, B3⟩
      case round =>
        clear SA3 HOK0 HS3 B3
        obtain ⟨at0, j, db, lb, y, D, V, home, want, p, q, l, rfl, rfl, hj, hat0, SA, HOK, HFS, HB⟩ := hrel
        by_cases hlt : j < o1.length
        · have i1 : (j : Int) < (o1.length : Int) := by omega
          obtain ⟨go, oo, ad2, cap2, rfl, d0, d1, hbo, hkl, hat⟩ := HFT.out.at j hlt
          have HBO := Lib.hid hbo
          have HD0 := Lib.hid d0
          have HD1 := Lib.hid d1
          clear hbo d0 d1
          generalize (o1.getD j fail0).keep = keep at *
          generalize (o1.getD j fail0).at_ = AT at *
          have e0 := below_keep HB.out (Nat.le_refl _) HD0.out
          have e1 := below_keep HB.out (Nat.le_refl _) HD1.out
          by_cases hk1000 : 1000 < keep.length
          · have ik : (1000 : Int) < (keep.length : Int) := by omega
            go_wp2_with fail
            go_ret
            exact ⟨rfl, HB.out⟩
          · have ik : ¬ (1000 : Int) < (keep.length : Int) := by omega
            clear hk1000
            go_upto_region 12 with fail
            clear ik
            have hm60 : ((AT : Int)).tmod 60 = ((AT % 60 : Nat) : Int) := by rw [Int.tmod_eq_emod_of_nonneg (by omega)]; omega
            have hm61 : ((AT : Int)) % 60 = ((AT % 60 : Nat) : Int) := by omega
            have h60 : AT % 60 < 60 := Nat.mod_lt _ (by decide)
            obtain ⟨AM, hAM⟩ : ∃ AM, AT % 60 = AM := ⟨_, rfl⟩
            rw [hAM] at hm60 hm61 h60
            clear hAM
            have hwA : IntKind.i64.wrap (AM : Int) = (AM : Int) := IntWalk.i64_in _ (by omega)
            have qArm : Hid (∀ wz, DevAt w2.heap.size wz db y D → Calls Tryz.prog 42 #[.pointer (some ⟨db, 0, none⟩), .int .i64 (AM : Int)] wz fun e w' => e = .returned (.tuple #[]) ∧ DevAt w2.heap.size w' db y (D.arm (AM : Int)) ∧ Only (devB db y) wz w') := Lib.hid (fun wz hz => (arm_any hz (AM : Int) (by omega)).mono fun e w' hh => ⟨hh.1, hh.2.1, hh.2.2.sub (by simp [devB])⟩)
            have z9 := SA.out.row.cellAt 9 rfl
            have HD3 : Hid (DevAt w2.heap.size wr.drew db y D) := Lib.hid (SA.out.dev.below (Below.drew (Below.refl _ _)))
            go_region_held3 (fun w' => w'.cell? ⟨wb, 9, none⟩ = some (.pointer (some ⟨db, 0, none⟩)) ∧ w'.cell? ⟨go, oo + j * 2, none⟩ = some (.int .u16 (AT : Int)))
              (first | exact ⟨z9, e0⟩ | exact ⟨R4.cellAt 9 rfl, f40⟩)
              (first | (go_at_call 42; (with_reducible refine (qArm.out _ HD3.out).mono ?_); rintro e w4 ⟨rfl, hd4, ho4⟩; have R4 := ho4.row (Row.drew SA.out.row) SA.out.ne.2.1; have B4x := HB.out.drew.trans (ho4.below HB.out.size (fun k hk => by have := HFS.out k (List.mem_cons_of_mem _ (List.mem_cons_of_mem _ hk)); have := HW2.out; omega)); have f40 := below_keep B4x (Nat.le_refl _) HD0.out) | fail "none")
            have SA4 : Hid (SysAt w2.heap.size wb db lb y G (D.arm (AM : Int)) V home want w4) := Lib.hid ⟨R4, SA.out.hl, SA.out.wl, hd4, ho4.row (Row.drew SA.out.log) SA.out.ne.2.2, SA.out.ne⟩
            have HOK4 := Lib.hid (HOK.out.arm (AM : Int))
            have B4 : Hid (Below w.heap.size w w4) := Lib.hid B4x
            clear z9 e0 e1 R4 B4x f40 hd4 ho4 HD3 qArm SA HB HOK hm60 hm61 h60 hwA
            have HWL := Lib.hid SA4.out.wl
            have SG4 := Lib.hid (SA4.out.row.wantSeg SA4.out.hl)
            have SG4b := Lib.hid ((SA4.out.row.alloc (.cells #[.int .u8 0, .int .u8 0, .int .u8 0, .int .u8 0, .int .u8 0, .int .u8 0, .int .u8 0, .int .u8 0, .int .u8 0, .int .u8 0, .int .u8 0, .int .u8 0] 64)).wantSeg SA4.out.hl)
            have ZS4 := Lib.hid (zeros_seg w4 want HWL.out)
            go_upto_region 14 with (first | refine wpList_load_seg rfl _ _ rfl wb 23 rfl (bcells want) _ SG4.out Tryz.underlying64 rfl (by rw [bcells_length, HWL.out]; kernel_rfl) ?_ | refine wpList_load_seg rfl _ _ rfl wb 23 rfl (bcells want) _ SG4b.out Tryz.underlying64 rfl (by rw [bcells_length, HWL.out]; kernel_rfl) ?_ | refine wpList_store_seg rfl _ _ _ rfl w4.heap.size 0 (bcells want) rfl rfl (by rw [bcells_length, HWL.out]; kernel_rfl) ZS4.out.1 ZS4.out.2.1 (bcells_one _) ?_ | fail "none")
            have PB := Lib.hid ZS4.out.2.2
            have B5 := Lib.hid ((below_box B4.out (.cells #[.int .u8 0, .int .u8 0, .int .u8 0, .int .u8 0, .int .u8 0, .int .u8 0, .int .u8 0, .int .u8 0, .int .u8 0, .int .u8 0, .int .u8 0, .int .u8 0] 64)).trans ((Only.setCells (S := [w4.heap.size]) (g := w4.heap.size) (by simp) (bcells want) 0 _).below (by have := B4.out.size; simp; omega) (by intro k hk; have := List.mem_singleton.1 hk; have := B4.out.size; omega)))
            have HPB : Hid (∀ k ∈ wb :: lb :: devB db y, k < w4.heap.size) := Lib.hid (sys_lt SA4.out)
            have SA5 := Lib.hid ((SA4.out.below (below_box (Below.refl _ _) (.cells #[.int .u8 0, .int .u8 0, .int .u8 0, .int .u8 0, .int .u8 0, .int .u8 0, .int .u8 0, .int .u8 0, .int .u8 0, .int .u8 0, .int .u8 0, .int .u8 0] 64))).newCells (b := w4.heap.size) (by have := HPB.out wb (by simp); omega) (by have := HPB.out lb (by simp); omega) (fun h => by have := HPB.out _ (List.mem_cons_of_mem _ (List.mem_cons_of_mem _ h)); omega) (bcells want) 0)
            have HW4 : Hid (w.heap.size ≤ w4.heap.size) := Lib.hid B4.out.size
            clear SG4 SG4b ZS4 SA4 B4
            generalize World.setCells _ _ _ _ = w5 at *
            obtain ⟨K, hKe⟩ : ∃ K, 600 + 10000 * j = K := ⟨_, rfl⟩
            have HKe := Lib.hid hKe
            have HK9 : Hid (K ≤ 100000) := Lib.hid (by omega)
            rw [hKe] at HOK4
            clear hKe
            rename World => wOuter
            go_upto_block 2 with fail
            go_cut [9, 12, 13, 14] from 64 to 93 (fun ta tk tb te wx => ∃ (at1 : Nat) (D : Dev) (V : LogV) (home want per : List UInt8) (u1 u2 u3 : Value), ta = .int .i64 (at1 : Int) ∧ at1 ≤ l1.length ∧ u1 = tk ∧ u2 = tb ∧ u3 = te ∧ Hid (SysAt w2.heap.size wb db lb y G D V home want wx) ∧ Hid (Sys.Dead G D want per (K + 3000)) ∧ Hid (per.length = 12) ∧ Hid (Row wx w4.heap.size 64 (bcells per)) ∧ Hid (Below w.heap.size w wx))
            case first =>
              go_wp2_with fail
              go_loopw [9, 12, 13, 14] (fun ta tk tb te wr => ∃ (at1 k : Nat) (u2 u3 : Value) (D : Dev) (V : LogV) (home want : List UInt8) (p q : Nat) (l : List Jr.Txn), ta = .int .i64 (at1 : Int) ∧ at1 ≤ l1.length ∧ tk = .int .i64 (k : Int) ∧ k ≤ 6 ∧ u2 = tb ∧ u3 = te ∧ Hid (SysAt w2.heap.size wb db lb y G D V home want wr) ∧ Hid (Sys.Ok G D V home want p q l (K + 400 * k)) ∧ Hid (Row wr w4.heap.size 64 (bcells want)) ∧ Hid (Below w.heap.size w wr)) (fun _ tk _ _ _ => 6 - (intOf tk).toNat)
              case atStart => exact ⟨at0, 0, _, _, _, _, _, _, _, _, _, rfl, by omega, rfl, by omega, rfl, rfl, SA5, HOK4, PB, B5⟩
              case round =>
                clear SA5 HOK4 PB B5
                obtain ⟨at1, k, u2, u3, D, V, home, want, p, q, l, rfl, hat1, rfl, hk6, rfl, rfl, SA, HOK, PB, HB⟩ := hrel
                have EX : Hid (Sys.Dead G D want want (K + 3000)) := Lib.hid ((HOK.out.dead want).mono (by omega))
                have HWL := Lib.hid SA.out.wl
                by_cases hk : k < 6
                · have i1 : (k : Int) < 6 := by omega
                  by_cases hlt2 : at1 < l1.length
                  · have i2 : (at1 : Int) < (l1.length : Int) := by omega
                    clear EX HWL
                    obtain ⟨gs, off, vc0, vr0, hax, c0, c1, c2, c3, c4, hs⟩ := HST.out.at at1 hlt2
                    subst hax
                    replace c0 := below_keep HB.out (Nat.le_refl _) c0
                    replace c1 := below_keep HB.out (Nat.le_refl _) c1
                    replace c2 := below_keep HB.out (Nat.le_refl _) c2
                    replace c3 := below_keep HB.out (Nat.le_refl _) c3
                    replace c4 := below_keep HB.out (Nat.le_refl _) c4
                    have hs0 := hs
                    obtain ⟨⟨vc', vr', he, hc, hr⟩, hlc, hlr⟩ := hs
                    obtain ⟨rfl, rfl⟩ : vc0 = vc' ∧ vr0 = vr' := by simpa using he
                    obtain ⟨ac, cc, rfl⟩ := hc.form
                    obtain ⟨ar, cr, rfl⟩ := hr.form
                    have qSt := Lib.hid (step_any SA.out HOK.out (by have := HK9.out; omega) w hs0 HB.out (fun k hk => by have := HFS.out k hk; have := HW2.out; omega))
                    have HPBn : Hid (w4.heap.size ∉ wb :: lb :: devB db y) := Lib.hid (fun hm => by have := HPB.out _ hm; omega)
                    clear he hc hr hlc hlr hs0
                    generalize l1.getD at1 step0 = x at *
                    go_upto_region 18 with (first | (go_at_call 43; (with_reducible refine qSt.out.mono ?_); rintro e w6 hst; obtain ⟨next, E, hnl, rfl, ho6, D', V', home', want', hsa, hcase⟩ := step_E hst; have ZS := Lib.hid (zeros_seg w6 next hnl); have HNL := Lib.hid hnl) | refine wpList_store_seg rfl _ _ _ rfl w6.heap.size 0 (bcells next) rfl rfl (by rw [bcells_length, HNL.out]; kernel_rfl) ZS.out.1 ZS.out.2.1 (bcells_one _) ?_ | fail "none")
                    have NB := Lib.hid ZS.out.2.2
                    have hpw := PB.out.lt
                    have hs6 := ho6.size
                    have HPL := Lib.hid (show w4.heap.size < w6.heap.size by omega)
                    have hsl := sys_lt hsa
                    have SA7 := Lib.hid ((hsa.below (below_box (Below.refl _ _) (.cells #[.int .u8 0, .int .u8 0, .int .u8 0, .int .u8 0, .int .u8 0, .int .u8 0, .int .u8 0, .int .u8 0, .int .u8 0, .int .u8 0, .int .u8 0, .int .u8 0] 64))).newCells (b := w6.heap.size) (by have := hsl wb (by simp); omega) (by have := hsl lb (by simp); omega) (fun h => by have := hsl _ (List.mem_cons_of_mem _ (List.mem_cons_of_mem _ h)); omega) (bcells next) 0)
                    have PB7 := Lib.hid (((ho6.row PB.out HPBn.out).alloc (.cells #[.int .u8 0, .int .u8 0, .int .u8 0, .int .u8 0, .int .u8 0, .int .u8 0, .int .u8 0, .int .u8 0, .int .u8 0, .int .u8 0, .int .u8 0, .int .u8 0] 64)).setCellsOther (g := w6.heap.size) (by omega) (bcells next) 0)
                    have HB6 := HB.out.trans (ho6.below HB.out.size (fun k hk => by have := HFS.out k hk; have := HW2.out; omega))
                    have HB7 := Lib.hid ((below_box HB6 (.cells #[.int .u8 0, .int .u8 0, .int .u8 0, .int .u8 0, .int .u8 0, .int .u8 0, .int .u8 0, .int .u8 0, .int .u8 0, .int .u8 0, .int .u8 0, .int .u8 0] 64)).trans ((Only.setCells (S := [w6.heap.size]) (g := w6.heap.size) (by simp) (bcells next) 0 _).below (by have := HB6.size; simp; omega) (by intro k hk; have := List.mem_singleton.1 hk; have := HB6.size; omega)))
                    clear hsa ho6 ZS qSt hpw hs6 hsl HB6 SA PB HB hnl c0 c1 c2 c3 c4
                    generalize World.setCells _ _ _ _ = w7 at *
                    have SGn := Lib.hid (whole_seg NB.out)
                    have hwant : want.length = 12 := HOK.out.wl
                    have WS := Lib.hid (whole_set PB7.out hwant HNL.out)
                    clear hwant
                    go_upto_region 20 with (first | refine wpList_load_seg rfl _ _ rfl w6.heap.size 0 rfl (bcells next) _ SGn.out Tryz.underlying64 rfl (by rw [bcells_length, HNL.out]; kernel_rfl) ?_ | refine wpList_store_seg rfl _ _ _ rfl w4.heap.size 0 (bcells next) rfl rfl (by rw [bcells_length, HNL.out]; kernel_rfl) WS.out.1 WS.out.2.1 (bcells_one _) ?_ | fail "none")
                    have PB8 := Lib.hid WS.out.2.2
                    have SA8 := Lib.hid (SA7.out.newCells (b := w4.heap.size) (by have := HPB.out wb (by simp); omega) (by have := HPB.out lb (by simp); omega) (fun h => by have := HPB.out _ (List.mem_cons_of_mem _ (List.mem_cons_of_mem _ h)); omega) (bcells next) 0)
                    have HB8 := Lib.hid (below_cellsG HB7.out HW4.out HW4.out (bcells next) 0 (Nat.le_refl _))
                    clear WS SGn NB PB7 SA7 HB7
                    generalize World.setCells _ _ _ _ = w8 at *
                    rcases hcase with ⟨rfl, harm, a, q', l', hok⟩ | ⟨rfl, harm, rfl, hdd⟩
                    · have HOK8 := Lib.hid hok
                      clear hok harm
                      have HWL8 := Lib.hid SA8.out.wl
                      have SGw := Lib.hid (SA8.out.row.wantSeg SA8.out.hl)
                      have WS := Lib.hid (whole_set PB8.out HNL.out SA8.out.wl)
                      have PB9 := Lib.hid WS.out.2.2
                      have SA9 := Lib.hid (SA8.out.newCells (b := w4.heap.size) (by have := HPB.out wb (by simp); omega) (by have := HPB.out lb (by simp); omega) (fun h => by have := HPB.out _ (List.mem_cons_of_mem _ (List.mem_cons_of_mem _ h)); omega) (bcells want') 0)
                      have HB9 := Lib.hid (below_cellsG HB8.out HW4.out HW4.out (bcells want') 0 (Nat.le_refl _))
                      go_wp2_with (first | refine wpList_load_seg rfl _ _ rfl wb 23 rfl (bcells want') _ SGw.out Tryz.underlying64 rfl (by rw [bcells_length, HWL8.out]; kernel_rfl) ?_ | refine wpList_store_seg rfl _ _ _ rfl w4.heap.size 0 (bcells want') rfl rfl (by rw [bcells_length, HWL8.out]; kernel_rfl) WS.out.1 WS.out.2.1 (bcells_one _) ?_ | fail "none")
                      generalize World.setCells _ _ _ _ = w9 at *
                      go_roundw
                      case rel => exact ⟨at1 + 1, k + 1, _, _, D', V', home', want', a, q', l', by go_num, by omega, by go_num, by omega, rfl, rfl, SA9, Lib.hid (HOK8.out.mono (by omega)), PB9, HB9⟩
                      case measure => simp [intOf]; omega
                    · have HDD := Lib.hid (hdd.mono (show K + 400 * k + 400 ≤ K + 3000 by omega))
                      clear hdd harm
                      go_wp2_with fail
                      go_meet
                      exact ⟨at1 + 1, D', V', home', _, next, _, _, _, by go_num, by omega, rfl, rfl, rfl, SA8, HDD, HNL, PB8, HB8⟩
                  · have i2 : ¬ (at1 : Int) < (l1.length : Int) := by omega
                    go_wp2_with fail
                    go_meet
                    exact ⟨at1, D, V, home, want, want, _, _, _, rfl, hat1, rfl, rfl, rfl, SA, EX, HWL, PB, HB⟩
                · have i1 : ¬ (k : Int) < 6 := by omega
                  go_wp2_with fail
                  go_meet
                  exact ⟨at1, D, V, home, want, want, _, _, _, rfl, hat1, rfl, rfl, rfl, SA, EX, HWL, PB, HB⟩
            case rest =>
              clear SA5 HOK4 PB B5
              obtain ⟨at1, D, V, home, want, per, u1, u2, u3, rfl, hat1, rfl, rfl, rfl, SA, HDD, HPE, PB, HB⟩ := hcut
              obtain ⟨hl1, hszM, hbM⟩ := HDD.out.crashed keep
              obtain ⟨M, hM⟩ : ∃ M, D.crash keep = M := ⟨_, rfl⟩
              have qCr : Hid (∀ wz, DevAt w2.heap.size wz db y D → BoolsAt wz ad2 keep → Calls Tryz.prog 44 #[.pointer (some ⟨db, 0, none⟩), .slice ad2 keep.length cap2] wz fun e w' => e = .returned (.string (txt (cat M))) ∧ Below wz.heap.size wz w') := Lib.hid (fun wz hz hk => by
                rw [← hM]
                exact crash_any hz HDD.out.dok.kept HDD.out.dok.now ad2 cap2 keep hk hkl)
              rw [hM] at hl1 hszM hbM
              have qOp : Hid (∀ wz, Calls Tryz.prog 24 #[.string (txt (cat M))] wz fun e w' => ∃ b, e = .returned (.tuple #[.pointer (some ⟨b, 0, none⟩), .int .i64 0]) ∧ (∃ y, DevAt wz.heap.size w' b y (Dev.fresh M)) ∧ Below wz.heap.size wz w') := Lib.hid (fun wz => opendev_sys hszM (by omega))
              obtain ⟨a1, q1, l2, h, hh, hRep⟩ := Sys.replay (K := K + 3000) (D := Dev.fresh M) hg.out ((Dev.Ok.fresh M hszM).mono (by omega)) rfl hbM SA.out.wl HPE.out hl1
              have qR1 : Hid (∀ (Bd db2 : Nat) (y2 : Lay) (wz : World), DevAt Bd wz db2 y2 (Dev.fresh M) → Calls Tryz.prog 15 #[.pointer (some ⟨db2, 0, none⟩), .agg (Geo.cells G)] wz fun e w' => ∃ v D', e = .returned (.tuple #[v, .int .i64 0]) ∧ DevAt Bd w' db2 y2 D' ∧ Only (devB db2 y2) wz w' ∧ ∃ a q, Sys.Ok G D' ⟨a, 0, q, 0⟩ h h a q [] (K + 8000)) := Lib.hid (fun Bd db2 y2 wz hz => by
                refine (replay_sys hRep hg.out hz ((Dev.Ok.fresh M hszM).mono (by omega)) rfl hbM (by have := HK9.out; omega)).mono ?_
                rintro e w' ⟨v, E, D', he, hd', ho', hc | ⟨_, _, hc, _⟩⟩
                · obtain ⟨⟨rfl, c2, c3, c4, c5, _⟩, _⟩ := hc
                  exact ⟨v, D', he, hd', ho', c5⟩
                · cases hc)
              have HH := Lib.hid hh
              have HWL := Lib.hid SA.out.wl
              have HHM := Lib.hid SA.out.hl
              have HHL : Hid (h.length = 12) := Lib.hid (hh.elim (fun e => by rw [e]; exact HWL.out) (fun e => by rw [e]; exact HPE.out))
              have z9 := SA.out.row.cellAt 9 rfl
              have z1 := below_keep HB.out.drew (Nat.le_refl _) HD1.out
              have HDd : Hid (DevAt w2.heap.size wc.drew db y D) := Lib.hid (SA.out.dev.below (Below.drew (Below.refl _ _)))
              have HBd : Hid (BoolsAt wc.drew ad2 keep) := Lib.hid (HBO.out.below HB.out.drew)
              clear hl1 hszM hbM hRep hh hM HDD
              go_wp2_with fail
              go_region_held3 (fun w' => w'.cell? ⟨wb, 9, none⟩ = some (.pointer (some ⟨db, 0, none⟩)) ∧ w'.cell? ⟨go, oo + j * 2 + 1, none⟩ = some (.slice ad2 keep.length cap2))
                (first | exact ⟨z9, z1⟩ | exact ⟨R6.cellAt 9 rfl, below_keep B6x (Nat.le_refl _) HD1.out⟩ | exact ⟨R5.cellAt 9 rfl, below_keep B5x (Nat.le_refl _) HD1.out⟩)
                (first | (go_at_call 44; (with_reducible refine (qCr.out _ HDd.out HBd.out).mono ?_); rintro e w5b ⟨rfl, hb5x⟩; have hb5 : Below wc.heap.size wc w5b := ⟨hb5x.os, hb5x.tape, hb5x.output, hb5x.size, hb5x.block⟩; have R5 := SA.out.row.below hb5 SA.out.row.lt; have B5x := below_next HB.out hb5) | (go_at_call 24; (with_reducible refine (qOp.out _).mono ?_); rintro e w6 ⟨db2, rfl, ⟨y2, hd6⟩, hb6⟩; have R6 := R5.below hb6 R5.lt; have B6x := below_next B5x hb6) | fail "none")
              have hcp := below_next hb5 hb6
              have SA6 := Lib.hid R6
              have PB6 := Lib.hid (PB.out.below hcp PB.out.lt)
              have HB6 := Lib.hid B6x
              have HD6 := Lib.hid hd6
              have hbd6 := hd6.bounds
              have hs56 := hb6.size
              have hsc5 := hb5.size
              have HDB : Hid (∀ k ∈ devB db2 y2, w5b.heap.size ≤ k ∧ k < w6.heap.size) := Lib.hid (fun k hk => by simp [devB] at hk; omega)
              have HWB : Hid (wb < w5b.heap.size ∧ w4.heap.size < w5b.heap.size ∧ w.heap.size ≤ w5b.heap.size ∧ w2.heap.size ≤ w5b.heap.size) := Lib.hid ⟨by have := SA.out.row.lt; omega, by have := PB.out.lt; omega, B5x.size, by have := HFS.out wb (by simp); have := SA.out.row.lt; omega⟩
              clear z9 z1 HDd HBd R5 B5x R6 B6x hb5 hb5x hb6 hd6 hcp qCr qOp hbd6 hs56 hsc5 SA PB HB
              unfold Geo.cells at qR1
              have k0 := SA6.out.cellAt 0 rfl
              have k1 := SA6.out.cellAt 1 rfl
              have k2 := SA6.out.cellAt 2 rfl
              have k3 := SA6.out.cellAt 3 rfl
              have k4 := SA6.out.cellAt 4 rfl
              have k5 := SA6.out.cellAt 5 rfl
              have k6 := SA6.out.cellAt 6 rfl
              have k7 := SA6.out.cellAt 7 rfl
              have k8 := SA6.out.cellAt 8 rfl
              have qR6 := Lib.hid (qR1.out _ _ _ _ HD6.out)
              go_upto_region 28 with (first | (go_at_call 15; (with_reducible refine qR6.out.mono ?_); rintro e w7 ⟨v7, D7, rfl, hd7, ho7, a7, q7, hok7⟩) | fail "none")
              have SA7 := Lib.hid (ho7.row SA6.out (fun hm => by have := (HDB.out _ hm).1; have := HWB.out.1; omega))
              have PB7 := Lib.hid (ho7.row PB6.out (fun hm => by have := (HDB.out _ hm).1; have := HWB.out.2.1; omega))
              have HB7 := Lib.hid (HB6.out.trans (ho7.below HB6.out.size (fun k hk => by have := (HDB.out _ hk).1; have := HWB.out.2.2.1; omega)))
              have HD7 := Lib.hid hd7
              have HOK7 := Lib.hid hok7
              clear k0 k1 k2 k3 k4 k5 k6 k7 k8 hd7 ho7 hok7 qR6 qR1 SA6 PB6 HB6 HD6
              have qO2 : Hid (∀ wz, DevAt w5b.heap.size wz db2 y2 D7 → Calls Tryz.prog 16 #[.pointer (some ⟨db2, 0, none⟩), .agg (Geo.cells G)] wz fun e w' => ∃ lb, e = .returned (.tuple #[.pointer (some ⟨lb, 0, none⟩), .int .i64 0]) ∧ LogAt lb db2 G ⟨a7, 0, q7, 0⟩ w' ∧ wz.heap.size ≤ lb ∧ Below wz.heap.size wz w') := Lib.hid (fun wz hz => openlog_sys HOK7.out hz (by have := HK9.out; omega))
              unfold Geo.cells at qO2
              have k0 := SA7.out.cellAt 0 rfl
              have k1 := SA7.out.cellAt 1 rfl
              have k2 := SA7.out.cellAt 2 rfl
              have k3 := SA7.out.cellAt 3 rfl
              have k4 := SA7.out.cellAt 4 rfl
              have k5 := SA7.out.cellAt 5 rfl
              have k6 := SA7.out.cellAt 6 rfl
              have k7 := SA7.out.cellAt 7 rfl
              have k8 := SA7.out.cellAt 8 rfl
              have qO10 := Lib.hid (qO2.out _ HD7.out)
              go_upto_region 29 with (first | (go_at_call 16; (with_reducible refine qO10.out.mono ?_); rintro e w11 ⟨lb2, rfl, hl11, hlb11, hb11⟩) | fail "none")
              have SA11 := Lib.hid (SA7.out.below hb11 SA7.out.lt)
              have PB11 := Lib.hid (PB7.out.below hb11 PB7.out.lt)
              have HB11 := Lib.hid (below_next HB7.out hb11)
              have HD11 := Lib.hid (HD7.out.below hb11)
              have HL11 := Lib.hid hl11
              have HBD10 := HD7.out.bounds
              have HLN : Hid (lb2 ∉ devB db2 y2 ∧ w5b.heap.size ≤ lb2) := Lib.hid ⟨fun hm => by simp [devB] at hm; omega, by have := HDB.out db2 (by simp [devB]); omega⟩
              clear k0 k1 k2 k3 k4 k5 k6 k7 k8 hl11 hlb11 hb11 qO10 qO2 SA7 PB7 HB7 HD7 HBD10
              have qRo : Hid (∀ wz, LogAt lb2 db2 G ⟨a7, 0, q7, 0⟩ wz → Calls Tryz.prog 17 #[.pointer (some ⟨lb2, 0, none⟩)] wz fun e w' => e = .returned (.int .i64 (G.log - 1)) ∧ Below wz.heap.size wz w') := Lib.hid (fun wz hz => (room_sys HOK7.out hz).mono fun e w' hh => ⟨by rw [hh.1]; simp, hh.2⟩)
              have HL11d : Hid (LogAt lb2 db2 G ⟨a7, 0, q7, 0⟩ w11.drew) := Lib.hid (Row.drew HL11.out)
              have s11 := SA11.out.cellAt 1 rfl
              have hee := HEE.out
              go_region_held3 (fun w' => w'.cell? ⟨wb, 1, none⟩ = some (.int .i64 G.log))
                (first | exact s11 | exact R12.cellAt 1 rfl)
                (first | (go_at_call 17; (with_reducible refine (qRo.out _ HL11d.out).mono ?_); rintro e w12 ⟨rfl, hb12x⟩; have hb12 : Below w11.heap.size w11 w12 := ⟨hb12x.os, hb12x.tape, hb12x.output, hb12x.size, hb12x.block⟩; have R12 := SA11.out.below hb12 SA11.out.lt) | fail "none")
              have SA12 := Lib.hid R12
              have PB12 := Lib.hid (PB11.out.below hb12 PB11.out.lt)
              have HB12 := Lib.hid (below_next HB11.out hb12)
              have HD12 := Lib.hid (HD11.out.below hb12)
              have HL12 : Hid (LogAt lb2 db2 G ⟨a7, 0, q7, 0⟩ w12) := Lib.hid (Row.below HL11.out hb12 (Row.lt HL11.out))
              clear R12 hb12 hb12x s11 hee HL11d qRo SA11 PB11 HB11 HD11 HL11
              have qH : Hid (∀ (wz : World) (x want0 : List UInt8), x.length = 12 → Row wz wb 66 (sysC G db lb home want0) → DevAt w5b.heap.size wz db2 y2 D7 → Calls Tryz.prog 41 #[.pointer (some ⟨wb, 0, none⟩), .pointer (some ⟨db2, 0, none⟩), .agg (bcells x).toArray] wz fun e w' => e = .returned (.bool (decide (h = x))) ∧ Below wz.heap.size wz w') := Lib.hid (fun wz x want0 hx hr hd => has_any wz hr hd hg.out HOK7.out.blocks HOK7.out.atHome HHL.out hx)
              have SGw := Lib.hid (SA12.out.wantSeg HHM.out)
              by_cases hw : h = want
              · have qH1 : Hid (∀ wz, Row wz wb 66 (sysC G db lb home want) → DevAt w5b.heap.size wz db2 y2 D7 → Calls Tryz.prog 41 #[.pointer (some ⟨wb, 0, none⟩), .pointer (some ⟨db2, 0, none⟩), .agg (bcells want).toArray] wz fun e w' => e = .returned (.bool true) ∧ Below wz.heap.size wz w') := Lib.hid (fun wz hr hd => by
                  have := qH.out wz want want HWL.out hr hd
                  rwa [decide_eq_true hw] at this)
                have HHW := Lib.hid hw
                clear hw qH
                go_upto_region 33 with (first | refine wpList_load_seg rfl _ _ rfl wb 23 rfl (bcells want) _ SGw.out Tryz.underlying64 rfl (by rw [bcells_length, HWL.out]; kernel_rfl) ?_ | (go_at_call 41; (with_reducible refine (qH1.out _ SA12.out HD12.out).mono ?_); rintro e w13 ⟨rfl, hb13⟩) | fail "none")
                have SA13 := Lib.hid (SA12.out.below hb13 SA12.out.lt)
                have HB13 := Lib.hid (below_next HB12.out hb13)
                have HD13 := Lib.hid (HD12.out.below hb13)
                have HL13 : Hid (LogAt lb2 db2 G ⟨a7, 0, q7, 0⟩ w13) := Lib.hid (Row.below HL12.out hb13 (Row.lt HL12.out))
                clear hb13 SGw SA12 HB12 HD12 HL12 PB12
                have HXL := Lib.hid (show (want).length = 12 from HWL.out)
                have SGx := Lib.hid (SA13.out.wantSeg HHM.out)
                go_upto_region 35 with (first | refine wpList_load_seg rfl _ _ rfl wb 23 rfl (bcells want) _ SGx.out Tryz.underlying64 rfl (by rw [bcells_length, HWL.out]; kernel_rfl) ?_ | (go_at_call 41; (with_reducible refine (qH1.out _ SA13.out HD13.out).mono ?_); rintro e w14 ⟨rfl, hb14⟩) | fail "none")
                have R14 := SA13.out.below hb14 SA13.out.lt
                have HB14 := Lib.hid (below_next HB13.out hb14)
                have HD14 := Lib.hid (HD13.out.below hb14)
                have HL14 : Hid (LogAt lb2 db2 G ⟨a7, 0, q7, 0⟩ w14) := Lib.hid (Row.below HL13.out hb14 (Row.lt HL13.out))
                have c9 := R14.cellAt 9 rfl
                have c10 := R14.cellAt 10 rfl
                have f9 := R14.free 9 (by rw [sysC_len HHM.out HWL.out]; omega)
                have f10 := R14.free 10 (by rw [sysC_len HHM.out HWL.out]; omega)
                have R15 := (R14.set 9 (.pointer (some ⟨db2, 0, none⟩))).set 10 (.pointer (some ⟨lb2, 0, none⟩))
                rw [sysC_set9, sysC_set10] at R15
                have HWbb : Hid (w.heap.size ≤ wb ∧ wb ≠ lb2 ∧ wb ∉ devB db2 y2) := Lib.hid ⟨by have := HFS.out wb (by simp); have := HW2.out; omega, by have := HLN.out.2; have := HWB.out.1; omega, fun hm => by have := (HDB.out _ hm).1; have := HWB.out.1; omega⟩
                have SG15 := Lib.hid (R14.wantSeg HHM.out)
                have SO15 := Lib.hid (R15.segSome (off := 11) (n := (bcells (want)).length) (by rw [sysC_len HHM.out HWL.out, bcells_length, HWL.out]; omega))
                have SF15 := Lib.hid (R15.segFree (off := 11) (n := (bcells (want)).length) (by rw [sysC_len HHM.out HWL.out, bcells_length, HWL.out]; omega))
                have R16 := Lib.hid (R15.setHome HHM.out (want) HWL.out)
                have HB16 := Lib.hid (below_cellsG ((HB14.out.setCell (p := ⟨wb, 9, none⟩) HWbb.out.1 (.pointer (some ⟨db2, 0, none⟩))).setCell (p := ⟨wb, 10, none⟩) HWbb.out.1 (.pointer (some ⟨lb2, 0, none⟩))) HWbb.out.1 HWbb.out.1 (bcells (want)) 11 (Nat.le_refl _))
                have HD16 := Lib.hid (((HD14.out.log wb 9 (.pointer (some ⟨db2, 0, none⟩)) HWbb.out.2.2).log wb 10 (.pointer (some ⟨lb2, 0, none⟩)) HWbb.out.2.2).setCells HWbb.out.2.2 (bcells (want)) 11)
                have HL16 : Hid (LogAt lb2 db2 G ⟨a7, 0, q7, 0⟩ (((w14.setCell ⟨wb, 9, none⟩ (.pointer (some ⟨db2, 0, none⟩))).setCell ⟨wb, 10, none⟩ (.pointer (some ⟨lb2, 0, none⟩))).setCells wb 11 (bcells (want)))) := Lib.hid (Row.setCellsOther HWbb.out.2.1 _ _ ((Row.other HL14.out (a := ⟨wb, 9, none⟩) HWbb.out.2.1 _).other (a := ⟨wb, 10, none⟩) HWbb.out.2.1 _))
                clear hb14 R14 R15 SGx SA13 HB13 HD13 HL13 HB14 HD14 HL14 qH1
                go_wp2_with (first | refine wpList_load_seg rfl _ _ rfl wb 23 rfl (bcells want) _ SG15.out Tryz.underlying64 rfl (by rw [bcells_length, HWL.out]; kernel_rfl) ?_ | refine wpList_load_seg rfl _ _ rfl wb 23 rfl (bcells per) _ SG15.out Tryz.underlying64 rfl (by rw [bcells_length, HPE.out]; kernel_rfl) ?_ | refine wpList_store_seg rfl _ _ _ rfl wb 11 (bcells want) rfl rfl (by rw [bcells_length, HWL.out]; kernel_rfl) SO15.out SF15.out (bcells_one _) ?_ | refine wpList_store_seg rfl _ _ _ rfl wb 11 (bcells per) rfl rfl (by rw [bcells_length, HPE.out]; kernel_rfl) SO15.out SF15.out (bcells_one _) ?_ | fail "none")
                generalize World.setCells _ _ _ _ = wN at *
                go_roundw
                case rel => exact ⟨at1, j + 1, db2, lb2, y2, D7, ⟨a7, 0, q7, 0⟩, want, want, a7, q7, [], rfl, by go_num, by omega, hat1, Lib.hid ⟨R16.out, HWL.out, HWL.out, HD16.out.monoS HWB.out.2.2.2, HL16.out, HWbb.out.2.1, HWbb.out.2.2, HLN.out.1⟩, Lib.hid (by have h7 := HOK7.out; rw [HHW.out] at h7; exact h7.mono (by have := HKe.out; omega)), Lib.hid (fun k hk => by
                    rcases List.mem_cons.1 hk with rfl | hk
                    · exact HFS.out _ (by simp)
                    rcases List.mem_cons.1 hk with rfl | hk
                    · have := HLN.out.2; have := HWB.out.2.2.2; omega
                    · have := (HDB.out k hk).1; have := HWB.out.2.2.2; omega), HB16⟩
                case measure => simp [intOf]; omega
              · have hp : h = per := HH.out.resolve_left hw
                have qH0 : Hid (∀ wz, Row wz wb 66 (sysC G db lb home want) → DevAt w5b.heap.size wz db2 y2 D7 → Calls Tryz.prog 41 #[.pointer (some ⟨wb, 0, none⟩), .pointer (some ⟨db2, 0, none⟩), .agg (bcells want).toArray] wz fun e w' => e = .returned (.bool false) ∧ Below wz.heap.size wz w') := Lib.hid (fun wz hr hd => by
                  have := qH.out wz want want HWL.out hr hd
                  rwa [decide_eq_false hw] at this)
                have qH1 : Hid (∀ wz, Row wz wb 66 (sysC G db lb home per) → DevAt w5b.heap.size wz db2 y2 D7 → Calls Tryz.prog 41 #[.pointer (some ⟨wb, 0, none⟩), .pointer (some ⟨db2, 0, none⟩), .agg (bcells per).toArray] wz fun e w' => e = .returned (.bool true) ∧ Below wz.heap.size wz w') := Lib.hid (fun wz hr hd => by
                  have := qH.out wz per per HPE.out hr hd
                  rwa [decide_eq_true hp] at this)
                have HHW := Lib.hid hp
                clear hw hp qH
                go_upto_region 32 with (first | refine wpList_load_seg rfl _ _ rfl wb 23 rfl (bcells want) _ SGw.out Tryz.underlying64 rfl (by rw [bcells_length, HWL.out]; kernel_rfl) ?_ | (go_at_call 41; (with_reducible refine (qH0.out _ SA12.out HD12.out).mono ?_); rintro e w12b ⟨rfl, hb13⟩) | fail "none")
                have R12b := SA12.out.below hb13 SA12.out.lt
                have SGp := Lib.hid (whole_seg (PB12.out.below hb13 PB12.out.lt))
                have SOw := Lib.hid (R12b.segSome (off := 23) (n := (bcells per).length) (by rw [sysC_len HHM.out HWL.out, bcells_length, HPE.out]; omega))
                have SFw := Lib.hid (R12b.segFree (off := 23) (n := (bcells per).length) (by rw [sysC_len HHM.out HWL.out, bcells_length, HPE.out]; omega))
                have SA13 := Lib.hid (R12b.setWant HHM.out HWL.out per HPE.out)
                have hbn := below_next HB12.out hb13
                have HB13 := Lib.hid (below_cellsG hbn (show w.heap.size ≤ wb by have := HFS.out wb (by simp); have := HW2.out; omega) (show w.heap.size ≤ wb by have := HFS.out wb (by simp); have := HW2.out; omega) (bcells per) 23 (Nat.le_refl _))
                have HD13 := Lib.hid ((HD12.out.below hb13).setCells (g := wb) (fun hm => by have := (HDB.out _ hm).1; have := HWB.out.1; omega) (bcells per) 23)
                have HL13 : Hid (LogAt lb2 db2 G ⟨a7, 0, q7, 0⟩ (w12b.setCells wb 23 (bcells per))) := Lib.hid (Row.setCellsOther (by have := HLN.out.2; have := HWB.out.1; omega) _ _ (Row.below HL12.out hb13 (Row.lt HL12.out)))
                go_upto_region 33 with (first | refine wpList_load_seg rfl _ _ rfl w4.heap.size 0 rfl (bcells per) _ SGp.out Tryz.underlying64 rfl (by rw [bcells_length, HPE.out]; kernel_rfl) ?_ | refine wpList_store_seg rfl _ _ _ rfl wb 23 (bcells per) rfl rfl (by rw [bcells_length, HPE.out]; kernel_rfl) SOw.out SFw.out (bcells_one _) ?_ | fail "none")
                clear hb13 R12b SGp SOw SFw hbn SGw SA12 HB12 HD12 HL12 PB12 qH0
                generalize World.setCells _ _ _ _ = w13 at *
                have HXL := Lib.hid (show (per).length = 12 from HPE.out)
                have SGx := Lib.hid (SA13.out.wantSeg HHM.out)
                go_upto_region 35 with (first | refine wpList_load_seg rfl _ _ rfl wb 23 rfl (bcells per) _ SGx.out Tryz.underlying64 rfl (by rw [bcells_length, HPE.out]; kernel_rfl) ?_ | (go_at_call 41; (with_reducible refine (qH1.out _ SA13.out HD13.out).mono ?_); rintro e w14 ⟨rfl, hb14⟩) | fail "none")
                have R14 := SA13.out.below hb14 SA13.out.lt
                have HB14 := Lib.hid (below_next HB13.out hb14)
                have HD14 := Lib.hid (HD13.out.below hb14)
                have HL14 : Hid (LogAt lb2 db2 G ⟨a7, 0, q7, 0⟩ w14) := Lib.hid (Row.below HL13.out hb14 (Row.lt HL13.out))
                have c9 := R14.cellAt 9 rfl
                have c10 := R14.cellAt 10 rfl
                have f9 := R14.free 9 (by rw [sysC_len HHM.out HPE.out]; omega)
                have f10 := R14.free 10 (by rw [sysC_len HHM.out HPE.out]; omega)
                have R15 := (R14.set 9 (.pointer (some ⟨db2, 0, none⟩))).set 10 (.pointer (some ⟨lb2, 0, none⟩))
                rw [sysC_set9, sysC_set10] at R15
                have HWbb : Hid (w.heap.size ≤ wb ∧ wb ≠ lb2 ∧ wb ∉ devB db2 y2) := Lib.hid ⟨by have := HFS.out wb (by simp); have := HW2.out; omega, by have := HLN.out.2; have := HWB.out.1; omega, fun hm => by have := (HDB.out _ hm).1; have := HWB.out.1; omega⟩
                have SG15 := Lib.hid (R14.wantSeg HHM.out)
                have SO15 := Lib.hid (R15.segSome (off := 11) (n := (bcells (per)).length) (by rw [sysC_len HHM.out HPE.out, bcells_length, HPE.out]; omega))
                have SF15 := Lib.hid (R15.segFree (off := 11) (n := (bcells (per)).length) (by rw [sysC_len HHM.out HPE.out, bcells_length, HPE.out]; omega))
                have R16 := Lib.hid (R15.setHome HHM.out (per) HPE.out)
                have HB16 := Lib.hid (below_cellsG ((HB14.out.setCell (p := ⟨wb, 9, none⟩) HWbb.out.1 (.pointer (some ⟨db2, 0, none⟩))).setCell (p := ⟨wb, 10, none⟩) HWbb.out.1 (.pointer (some ⟨lb2, 0, none⟩))) HWbb.out.1 HWbb.out.1 (bcells (per)) 11 (Nat.le_refl _))
                have HD16 := Lib.hid (((HD14.out.log wb 9 (.pointer (some ⟨db2, 0, none⟩)) HWbb.out.2.2).log wb 10 (.pointer (some ⟨lb2, 0, none⟩)) HWbb.out.2.2).setCells HWbb.out.2.2 (bcells (per)) 11)
                have HL16 : Hid (LogAt lb2 db2 G ⟨a7, 0, q7, 0⟩ (((w14.setCell ⟨wb, 9, none⟩ (.pointer (some ⟨db2, 0, none⟩))).setCell ⟨wb, 10, none⟩ (.pointer (some ⟨lb2, 0, none⟩))).setCells wb 11 (bcells (per)))) := Lib.hid (Row.setCellsOther HWbb.out.2.1 _ _ ((Row.other HL14.out (a := ⟨wb, 9, none⟩) HWbb.out.2.1 _).other (a := ⟨wb, 10, none⟩) HWbb.out.2.1 _))
                clear hb14 R14 R15 SGx SA13 HB13 HD13 HL13 HB14 HD14 HL14 qH1
                go_wp2_with (first | refine wpList_load_seg rfl _ _ rfl wb 23 rfl (bcells want) _ SG15.out Tryz.underlying64 rfl (by rw [bcells_length, HWL.out]; kernel_rfl) ?_ | refine wpList_load_seg rfl _ _ rfl wb 23 rfl (bcells per) _ SG15.out Tryz.underlying64 rfl (by rw [bcells_length, HPE.out]; kernel_rfl) ?_ | refine wpList_store_seg rfl _ _ _ rfl wb 11 (bcells want) rfl rfl (by rw [bcells_length, HWL.out]; kernel_rfl) SO15.out SF15.out (bcells_one _) ?_ | refine wpList_store_seg rfl _ _ _ rfl wb 11 (bcells per) rfl rfl (by rw [bcells_length, HPE.out]; kernel_rfl) SO15.out SF15.out (bcells_one _) ?_ | fail "none")
                generalize World.setCells _ _ _ _ = wN at *
                go_roundw
                case rel => exact ⟨at1, j + 1, db2, lb2, y2, D7, ⟨a7, 0, q7, 0⟩, per, per, a7, q7, [], rfl, by go_num, by omega, hat1, Lib.hid ⟨R16.out, HPE.out, HPE.out, HD16.out.monoS HWB.out.2.2.2, HL16.out, HWbb.out.2.1, HWbb.out.2.2, HLN.out.1⟩, Lib.hid (by have h7 := HOK7.out; rw [HHW.out] at h7; exact h7.mono (by have := HKe.out; omega)), Lib.hid (fun k hk => by
                    rcases List.mem_cons.1 hk with rfl | hk
                    · exact HFS.out _ (by simp)
                    rcases List.mem_cons.1 hk with rfl | hk
                    · have := HLN.out.2; have := HWB.out.2.2.2; omega
                    · have := (HDB.out k hk).1; have := HWB.out.2.2.2; omega), HB16⟩
                case measure => simp [intOf]; omega
        · have i1 : ¬ (j : Int) < (o1.length : Int) := by omega
          go_wp2_with (first | (go_at_call 14; (with_reducible refine (qA.out _).mono ?_); rintro e w16 ⟨rfl, hb16⟩) | fail "none")
          go_ret
          exact ⟨rfl, below_next HB.out hb16⟩
end Go.Proofs.YtnpdhidliaahbaaGreat
