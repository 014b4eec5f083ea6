/- JournalPower: the walk. -/
import Derived.Test.YtnpdhidliaahbaaGreatG41
set_option linter.unusedSimpArgs false
set_option linter.unusedVariables false
namespace Go.Proofs.YtnpdhidliaahbaaGreat
set_option linter.unusedVariables false
open Go Go.RowKit
set_option maxRecDepth 100000 in
set_option maxHeartbeats 16000000 in
/-- The law's walk. -/
theorem JournalPower_walk (a b c : UInt8) (ax : Option Addr) (cx : Nat) (l1 : List Sys.Step) (fx : FailV) (ad2 : Option Addr) (cap2 : Nat) {w : World} (s1 : StepsIn w (.slice ax l1.length cx) l1) (s2 : BoolsAt w ad2 fx.keep ∧ fx.keep.length ≤ 9223372036854775807 ∧ fx.at_ < 65536) :
    Calls Tryz.prog 8 #[.agg #[bval a, bval b, bval c], .slice ax l1.length cx, .agg #[.int .u16 (fx.at_ : Int), .slice ad2 fx.keep.length cap2]] w fun e w' => e = .returned (.bool true) ∧ Below w.heap.size w w' := by
  obtain ⟨keep, s3, hkl, hat⟩ : ∃ keep, BoolsAt w ad2 keep ∧ keep.length ≤ 9223372036854775807 ∧ fx.at_ < 65536 ∧ keep = fx.keep := ⟨_, s2.1, s2.2.1, s2.2.2, rfl⟩
  obtain ⟨hat, hke⟩ := hat
  rw [← hke]
  clear hke
  generalize fx.at_ = AT at *
  have HST := Lib.hid s1
  have HBO := Lib.hid s3
  have hslen := s1.len
  have qM : Hid (∀ wz, StepsIn wz (.slice ax l1.length cx) l1 → Calls Tryz.prog 38 #[.slice ax l1.length cx] wz fun e w' => e = .returned (.bool (manyB l1)) ∧ Below wz.heap.size wz w') := Lib.hid (fun wz hz => manysteps_any wz hz)
  have qB := Lib.hid (fun wz => begun_any a b c wz)
  have qA := Lib.hid (fun wz => alive_any wz)
  obtain ⟨_, hok0, harm0, hkn0⟩ := devG_ok a.toNat b.toNat c.toNat
  have HOK0 := Lib.hid hok0
  have HAR0 := Lib.hid harm0
  clear hok0 harm0 hkn0 s1 s2 s3
  generalize devG a.toNat b.toNat c.toNat = D0 at *
  generalize layG a.toNat b.toNat c.toNat = G at *
  generalize bval a = va at *
  generalize bval b = vb at *
  generalize bval c = vc at *
  go_enter Tryz.func8, Tryz.ntmps8
  go_upto_region 1 with fail
  generalize hW : World.alloc _ _ = w1
  have hB1 : Below w.heap.size w w1 := by rw [← hW]; exact below_box (below_box (Below.refl _ _) _) _
  have q0 : Row w1 w.heap.size 54 [va, vb, vc] := by rw [← hW]; exact (Row.new w _ _ rfl).alloc _
  have q1 : Row w1 (w.heap.size + 1) 101 [.int .u16 (AT : Int), .slice ad2 keep.length cap2] := by rw [← hW]; exact Row.new _ _ _ (by simp)
  clear hW
  have B1 := Lib.hid hB1
  have Q0 := Lib.hid q0
  have Q1 := Lib.hid q1
  have qM1 := Lib.hid (qM.out _ (HST.out.below hB1))
  clear hB1 q0 q1
  by_cases hm : manyB l1 = true
  · rw [hm] at qM1
    go_wp2_with (first | (go_at_call 38; (with_reducible refine qM1.out.mono ?_); rintro e w2 ⟨rfl, hb2⟩) | fail "none")
    go_ret
    exact ⟨rfl, below_next B1.out hb2⟩
  · have hmf : manyB l1 = false := by simpa using hm
    have hl30 := manyB_len hmf
    rw [hmf] at qM1
    clear hm hmf
    by_cases hk : 1000 < keep.length
    · have ik : (1000 : Int) < (keep.length : Int) := by omega
      go_wp2_with (first | (go_at_call 38; (with_reducible refine qM1.out.mono ?_); rintro e w2 ⟨rfl, hb2⟩; have x1 := (Q1.out.below hb2 Q1.out.lt).cellAt 1 rfl) | fail "none")
      go_ret
      exact ⟨rfl, below_next B1.out hb2⟩
    · have ik : ¬ (1000 : Int) < (keep.length : Int) := by omega
      clear hk
      go_upto_region 3 with (first | (go_at_call 38; (with_reducible refine qM1.out.mono ?_); rintro e w2 ⟨rfl, hb2⟩; have x1 := (Q1.out.below hb2 Q1.out.lt).cellAt 1 rfl) | fail "none")
      have B2 := Lib.hid (below_next B1.out hb2)
      have Q02 := Lib.hid (Q0.out.below hb2 Q0.out.lt)
      have Q12 := Lib.hid (Q1.out.below hb2 Q1.out.lt)
      clear hb2 x1 Q0 Q1 B1 qM1 qM ik
      have y0 := Q02.out.cellAt 0 rfl
      have y1 := Q02.out.cellAt 1 rfl
      have y2 := Q02.out.cellAt 2 rfl
      go_upto_region 6 with (first | (go_at_call 22; (with_reducible refine (qB.out _).mono ?_); rintro e w3 ⟨wb, db, lb, y, rfl, hs3, hwb, hlb, hb3⟩) | fail "none")
      have SA3 := Lib.hid hs3
      have B3 := Lib.hid (below_next B2.out hb3)
      have Q13 := Lib.hid (Q12.out.below hb3 Q12.out.lt)
      have HLO : Hid (w2.heap.size ≤ wb ∧ w2.heap.size ≤ lb ∧ ∀ k ∈ devB db y, w2.heap.size ≤ k) := Lib.hid ⟨hwb, hlb, by have := hs3.dev.own; have h1 := hs3.dev.kept.2; intro k hk; have := hs3.dev.bounds; simp [devB] at hk; omega⟩
      have HF2 : Hid (w.heap.size + 1 < w2.heap.size) := Lib.hid Q12.out.lt
      clear hs3 hwb hlb hb3 y0 y1 y2 Q02 Q12 B2 qB
      have hwA : IntKind.i64.wrap (AT : Int) = (AT : Int) := IntWalk.i64_in _ (by omega)
      have qArm : Hid (∀ wz, DevAt w2.heap.size wz db y D0 → Calls Tryz.prog 42 #[.pointer (some ⟨db, 0, none⟩), .int .i64 (AT : Int)] wz fun e w' => e = .returned (.tuple #[]) ∧ DevAt w2.heap.size w' db y (D0.arm (AT : Int)) ∧ Only (devB db y) wz w') := Lib.hid (fun wz hz => (arm_any hz (AT : Int) (by omega)).mono fun e w' hh => ⟨hh.1, hh.2.1, hh.2.2.sub (by simp [devB])⟩)
      have z9 := SA3.out.row.cellAt 9 rfl
      have z0 := Q13.out.cellAt 0 rfl
      have HD3 : Hid (DevAt w2.heap.size w3.drew db y D0) := Lib.hid (SA3.out.dev.below (Below.drew (Below.refl _ _)))
      have HFS : Hid (∀ k ∈ wb :: lb :: devB db y, w2.heap.size ≤ k) := Lib.hid (fun k hk => by
        rcases List.mem_cons.1 hk with rfl | hk
        · exact HLO.out.1
        rcases List.mem_cons.1 hk with rfl | hk
        · exact HLO.out.2.1
        · exact HLO.out.2.2 k hk)
      go_region_held3 (fun w' => w'.cell? ⟨wb, 9, none⟩ = some (.pointer (some ⟨db, 0, none⟩)) ∧ w'.cell? ⟨w.heap.size + 1, 0, none⟩ = some (.int .u16 (AT : Int)))
        (first | exact ⟨z9, z0⟩ | exact ⟨R4.cellAt 9 rfl, F4.cellAt 0 rfl⟩)
        (first | (go_at_call 42; (with_reducible refine (qArm.out _ HD3.out).mono ?_); rintro e w4 ⟨rfl, hd4, ho4⟩; have R4 := ho4.row (Row.drew SA3.out.row) SA3.out.ne.2.1; have F4 := ho4.row (Row.drew Q13.out) (fun hm => by have := HFS.out _ (List.mem_cons_of_mem _ (List.mem_cons_of_mem _ hm)); have := HF2.out; omega)) | fail "none")
      have SA4 : Hid (SysAt w2.heap.size wb db lb y G (D0.arm (AT : Int)) ⟨0, 0, 1, 0⟩ zb12 zb12 w4) := Lib.hid ⟨R4, rfl, rfl, hd4, ho4.row (Row.drew SA3.out.log) SA3.out.ne.2.2, SA3.out.ne⟩
      have HOK4 := Lib.hid (HOK0.out.arm (AT : Int))
      have Q14 := Lib.hid F4
      have B4 : Hid (Below w.heap.size w w4) := Lib.hid (B3.out.drew.trans (ho4.below B3.out.size (fun k hk => by have := HFS.out k (List.mem_cons_of_mem _ (List.mem_cons_of_mem _ hk)); have := HF2.out; omega)))
      clear z9 z0 R4 F4 hd4 ho4 HD3 qArm SA3 Q13 B3
      have HZL : Hid (zb12.length = 12) := Lib.hid rfl
      have SG4 := Lib.hid (SA4.out.row.wantSeg SA4.out.hl)
      have SG4b := Lib.hid ((SA4.out.row.alloc (.cells #[.int .u8 0, .int .u8 0, .int .u8 0, .int .u8 0, .int .u8 0, .int .u8 0, .int .u8 0, .int .u8 0, .int .u8 0, .int .u8 0, .int .u8 0, .int .u8 0] 64)).wantSeg SA4.out.hl)
      have ZS4 := Lib.hid (zeros_seg w4 zb12 rfl)
      go_upto_region 8 with (first | refine wpList_load_seg rfl _ _ rfl wb 23 rfl (bcells zb12) _ SG4.out Tryz.underlying64 rfl (by rw [bcells_length, HZL.out]; kernel_rfl) ?_ | refine wpList_load_seg rfl _ _ rfl wb 23 rfl (bcells zb12) _ SG4b.out Tryz.underlying64 rfl (by rw [bcells_length, HZL.out]; kernel_rfl) ?_ | refine wpList_store_seg rfl _ _ _ rfl w4.heap.size 0 (bcells zb12) rfl rfl (by rw [bcells_length, HZL.out]; kernel_rfl) ZS4.out.1 ZS4.out.2.1 (bcells_one _) ?_ | fail "none")
      have PB := Lib.hid ZS4.out.2.2
      have B5 := Lib.hid ((below_box B4.out (.cells #[.int .u8 0, .int .u8 0, .int .u8 0, .int .u8 0, .int .u8 0, .int .u8 0, .int .u8 0, .int .u8 0, .int .u8 0, .int .u8 0, .int .u8 0, .int .u8 0] 64)).trans ((Only.setCells (S := [w4.heap.size]) (g := w4.heap.size) (by simp) (bcells zb12) 0 _).below (by have := B4.out.size; simp; omega) (by intro k hk; have := List.mem_singleton.1 hk; have := B4.out.size; omega)))
      have HPB : Hid (∀ k ∈ wb :: lb :: devB db y, k < w4.heap.size) := Lib.hid (sys_lt SA4.out)
      have SA5 := Lib.hid ((SA4.out.below (below_box (Below.refl _ _) (.cells #[.int .u8 0, .int .u8 0, .int .u8 0, .int .u8 0, .int .u8 0, .int .u8 0, .int .u8 0, .int .u8 0, .int .u8 0, .int .u8 0, .int .u8 0, .int .u8 0] 64))).newCells (b := w4.heap.size) (by have := HPB.out wb (by simp); omega) (by have := HPB.out lb (by simp); omega) (fun h => by have := HPB.out _ (List.mem_cons_of_mem _ (List.mem_cons_of_mem _ h)); omega) (bcells zb12) 0)
      have Q15 := Lib.hid ((Q14.out.alloc (.cells #[.int .u8 0, .int .u8 0, .int .u8 0, .int .u8 0, .int .u8 0, .int .u8 0, .int .u8 0, .int .u8 0, .int .u8 0, .int .u8 0, .int .u8 0, .int .u8 0] 64)).setCellsOther (g := w4.heap.size) (by have := Q14.out.lt; omega) (bcells zb12) 0)
      have HFP : Hid (w.heap.size + 1 < w4.heap.size) := Lib.hid Q14.out.lt
      clear SG4 SG4b ZS4 SA4 Q14 B4
      generalize World.setCells _ _ _ _ = w5 at *
      go_upto_block 0 with fail
      go_cut [10, 11, 12] from 49 to 72 (fun i nb e wx => ∃ (D : Dev) (V : LogV) (home want per : List UInt8) (u0 u1 u2 : Value), u0 = i ∧ u1 = nb ∧ u2 = e ∧ Hid (SysAt w2.heap.size wb db lb y G D V home want wx) ∧ Hid (Sys.Dead G D want per 13000) ∧ Hid (per.length = 12) ∧ Hid (Row wx w4.heap.size 64 (bcells per)) ∧ Hid (Row wx (w.heap.size + 1) 101 [.int .u16 (AT : Int), .slice ad2 keep.length cap2]) ∧ Hid (Below w.heap.size w wx))
      case first =>
        go_wp2_with fail
        go_loopw [10, 11, 12] (fun i nb e wr => ∃ (j : Nat) (u1 u2 : Value) (D : Dev) (V : LogV) (home want : List UInt8) (at_ q : Nat) (l : List Jr.Txn), i = .int .i64 (j : Int) ∧ j ≤ l1.length ∧ u1 = nb ∧ u2 = e ∧ Hid (SysAt w2.heap.size wb db lb y G D V home want wr) ∧ Hid (Sys.Ok G D V home want at_ q l (600 + 400 * j)) ∧ Hid (Row wr w4.heap.size 64 (bcells want)) ∧ Hid (Row wr (w.heap.size + 1) 101 [.int .u16 (AT : Int), .slice ad2 keep.length cap2]) ∧ Hid (Below w.heap.size w wr)) (fun i _ _ _ => l1.length - (intOf i).toNat)
        case atStart => exact ⟨0, _, _, _, _, _, _, _, _, _, rfl, by omega, rfl, rfl, SA5, HOK4, PB, Q15, B5⟩
        case round =>
          clear SA5 HOK4 PB Q15 B5
          obtain ⟨j, u1, u2, D, V, home, want, at_, q, l, rfl, hj, rfl, rfl, SA, HOK, PB, Q1, HB⟩ := hrel
          by_cases hlt : j < l1.length
          · have i1 : (j : Int) < (l1.length : Int) := by omega
            obtain ⟨gs, off, vc0, vr0, rfl, c0, c1, c2, c3, c4, hs⟩ := HST.out.at j hlt
            have gen : ∀ (p : Addr) (u : Value), w.cell? p = some u → wr.cell? p = some u := fun p u hc => (HB.out.cell (World.block_lt_of_cell? w _ hc)).trans hc
            replace c0 := gen _ _ c0
            replace c1 := gen _ _ c1
            replace c2 := gen _ _ c2
            replace c3 := gen _ _ c3
            replace c4 := gen _ _ c4
            clear gen
            have hs0 := hs
            obtain ⟨⟨vc', vr', he, hc, hr⟩, hlc, hlr⟩ := hs
            obtain ⟨rfl, rfl⟩ : vc0 = vc' ∧ vr0 = vr' := by simpa using he
            obtain ⟨ac, cc, rfl⟩ := hc.form
            obtain ⟨ar, cr, rfl⟩ := hr.form
            have qSt := Lib.hid (step_any SA.out HOK.out (by omega) w hs0 HB.out (fun k hk => by have := HFS.out k hk; have := HF2.out; omega))
            have HPBn : Hid (w4.heap.size ∉ wb :: lb :: devB db y) := Lib.hid (fun hm => by have := HPB.out _ hm; omega)
            have HFBn : Hid (w.heap.size + 1 ∉ wb :: lb :: devB db y) := Lib.hid (fun hm => by have := HFS.out _ hm; have := HF2.out; omega)
            clear he hc hr hlc hlr hs0
            generalize l1.getD j step0 = x at *
            go_upto_region 12 with (first | (go_at_call 43; (with_reducible refine qSt.out.mono ?_); rintro e w6 hst; obtain ⟨next, E, hnl, rfl, ho6, D', V', home', want', hsa, hcase⟩ := step_E hst; have ZS := Lib.hid (zeros_seg w6 next hnl); have HNL := Lib.hid hnl) | refine wpList_store_seg rfl _ _ _ rfl w6.heap.size 0 (bcells next) rfl rfl (by rw [bcells_length, HNL.out]; kernel_rfl) ZS.out.1 ZS.out.2.1 (bcells_one _) ?_ | fail "none")
            have NB := Lib.hid ZS.out.2.2
            have hpw := PB.out.lt
            have hs6 := ho6.size
            have HPL := Lib.hid (show w4.heap.size < w6.heap.size by omega)
            have hsl := sys_lt hsa
            have SA7 := Lib.hid ((hsa.below (below_box (Below.refl _ _) (.cells #[.int .u8 0, .int .u8 0, .int .u8 0, .int .u8 0, .int .u8 0, .int .u8 0, .int .u8 0, .int .u8 0, .int .u8 0, .int .u8 0, .int .u8 0, .int .u8 0] 64))).newCells (b := w6.heap.size) (by have := hsl wb (by simp); omega) (by have := hsl lb (by simp); omega) (fun h => by have := hsl _ (List.mem_cons_of_mem _ (List.mem_cons_of_mem _ h)); omega) (bcells next) 0)
            have PB7 := Lib.hid (((ho6.row PB.out HPBn.out).alloc (.cells #[.int .u8 0, .int .u8 0, .int .u8 0, .int .u8 0, .int .u8 0, .int .u8 0, .int .u8 0, .int .u8 0, .int .u8 0, .int .u8 0, .int .u8 0, .int .u8 0] 64)).setCellsOther (g := w6.heap.size) (by omega) (bcells next) 0)
            have Q17 := Lib.hid (((ho6.row Q1.out HFBn.out).alloc (.cells #[.int .u8 0, .int .u8 0, .int .u8 0, .int .u8 0, .int .u8 0, .int .u8 0, .int .u8 0, .int .u8 0, .int .u8 0, .int .u8 0, .int .u8 0, .int .u8 0] 64)).setCellsOther (g := w6.heap.size) (by have := HFP.out; omega) (bcells next) 0)
            have HB6 := HB.out.trans (ho6.below HB.out.size (fun k hk => by have := HFS.out k hk; have := HF2.out; omega))
            have HB7 := Lib.hid ((below_box HB6 (.cells #[.int .u8 0, .int .u8 0, .int .u8 0, .int .u8 0, .int .u8 0, .int .u8 0, .int .u8 0, .int .u8 0, .int .u8 0, .int .u8 0, .int .u8 0, .int .u8 0] 64)).trans ((Only.setCells (S := [w6.heap.size]) (g := w6.heap.size) (by simp) (bcells next) 0 _).below (by have := HB6.size; simp; omega) (by intro k hk; have := List.mem_singleton.1 hk; have := HB6.size; omega)))
            clear hsa ho6 ZS qSt hpw hs6 hsl HB6 SA PB Q1 HB hnl c0 c1 c2 c3 c4
            generalize World.setCells _ _ _ _ = w7 at *
            have SGn := Lib.hid (whole_seg NB.out)
            have HWL := Lib.hid SA7.out.wl
            have hwant : want.length = 12 := by
              have := PB7.out
              exact HOK.out.wl
            have WS := Lib.hid (whole_set PB7.out hwant HNL.out)
            clear hwant
            go_upto_region 13 with (first | refine wpList_load_seg rfl _ _ rfl w6.heap.size 0 rfl (bcells next) _ SGn.out Tryz.underlying64 rfl (by rw [bcells_length, HNL.out]; kernel_rfl) ?_ | refine wpList_store_seg rfl _ _ _ rfl w4.heap.size 0 (bcells next) rfl rfl (by rw [bcells_length, HNL.out]; kernel_rfl) WS.out.1 WS.out.2.1 (bcells_one _) ?_ | fail "none")
            have PB8 := Lib.hid WS.out.2.2
            have SA8 := Lib.hid (SA7.out.newCells (b := w4.heap.size) (by have := HPB.out wb (by simp); omega) (by have := HPB.out lb (by simp); omega) (fun h => by have := HPB.out _ (List.mem_cons_of_mem _ (List.mem_cons_of_mem _ h)); omega) (bcells next) 0)
            have Q18 := Lib.hid (Q17.out.setCellsOther (g := w4.heap.size) (by have := HFP.out; omega) (bcells next) 0)
            have HB8 := Lib.hid (HB7.out.trans ((Only.setCells (S := [w4.heap.size]) (g := w4.heap.size) (by simp) (bcells next) 0 w7).below HB7.out.size (by intro k hk; have := List.mem_singleton.1 hk; have := HFP.out; omega)))
            clear WS SGn NB PB7 SA7 Q17 HB7
            generalize World.setCells _ _ _ _ = w8 at *
            rcases hcase with ⟨rfl, harm, a, q', l', hok⟩ | ⟨rfl, harm, rfl, hdd⟩
            · have HOK8 := Lib.hid hok
              clear hok harm
              have HWL8 := Lib.hid SA8.out.wl
              have SGw := Lib.hid (SA8.out.row.wantSeg SA8.out.hl)
              have WS := Lib.hid (whole_set PB8.out HNL.out SA8.out.wl)
              have PB9 := Lib.hid WS.out.2.2
              have SA9 := Lib.hid (SA8.out.newCells (b := w4.heap.size) (by have := HPB.out wb (by simp); omega) (by have := HPB.out lb (by simp); omega) (fun h => by have := HPB.out _ (List.mem_cons_of_mem _ (List.mem_cons_of_mem _ h)); omega) (bcells want') 0)
              have Q19 := Lib.hid (Q18.out.setCellsOther (g := w4.heap.size) (by have := HFP.out; omega) (bcells want') 0)
              have HB9 := Lib.hid (HB8.out.trans ((Only.setCells (S := [w4.heap.size]) (g := w4.heap.size) (by simp) (bcells want') 0 w8).below HB8.out.size (by intro k hk; have := List.mem_singleton.1 hk; have := HFP.out; omega)))
              go_wp2_with (first | refine wpList_load_seg rfl _ _ rfl wb 23 rfl (bcells want') _ SGw.out Tryz.underlying64 rfl (by rw [bcells_length, HWL8.out]; kernel_rfl) ?_ | refine wpList_store_seg rfl _ _ _ rfl w4.heap.size 0 (bcells want') rfl rfl (by rw [bcells_length, HWL8.out]; kernel_rfl) WS.out.1 WS.out.2.1 (bcells_one _) ?_ | fail "none")
              generalize World.setCells _ _ _ _ = w9 at *
              go_roundw
              case rel => exact ⟨j + 1, _, _, D', V', home', want', a, q', l', by go_num, by omega, rfl, rfl, SA9, Lib.hid (HOK8.out.mono (by omega)), PB9, Q19, HB9⟩
              case measure => simp [intOf]; omega
            · have HDD := Lib.hid (hdd.mono (show 600 + 400 * j + 400 ≤ 13000 by omega))
              clear hdd harm
              go_wp2_with fail
              go_meet
              exact ⟨D', V', home', _, next, _, _, _, rfl, rfl, rfl, SA8, HDD, HNL, PB8, Q18, HB8⟩
          · have i1 : ¬ (j : Int) < (l1.length : Int) := by omega
            have HDD := Lib.hid ((HOK.out.dead want).mono (show 600 + 400 * j ≤ 13000 by omega))
            have HWL := Lib.hid SA.out.wl
            go_wp2_with fail
            go_meet
            exact ⟨D, V, home, want, want, _, _, _, rfl, rfl, rfl, SA, HDD, HWL, PB, Q1, HB⟩
      case rest =>
        clear SA5 HOK4 PB Q15 B5
        obtain ⟨D, V, home, want, per, u0, u1, u2, rfl, rfl, rfl, SA, HDD, HPE, PB, Q1, HB⟩ := hcut
        obtain ⟨hl1, hszM, hbM⟩ := HDD.out.crashed keep
        have hg : Hid (Geo.May G) := Lib.hid HOK0.out.may
        have hga := hg.out.ok.1
        unfold Geo.asked at hga
        have hgl := (Jr.plc_of hg.out).2.2
        obtain ⟨M, hM⟩ : ∃ M, D.crash keep = M := ⟨_, rfl⟩
        have qCr : Hid (∀ wz, DevAt w2.heap.size wz db y D → BoolsAt wz ad2 keep → Calls Tryz.prog 44 #[.pointer (some ⟨db, 0, none⟩), .slice ad2 keep.length cap2] wz fun e w' => e = .returned (.string (txt (cat M))) ∧ Below wz.heap.size wz w') := Lib.hid (fun wz hz hk => by
          rw [← hM]
          exact crash_any hz HDD.out.dok.kept HDD.out.dok.now ad2 cap2 keep hk hkl)
        rw [hM] at hl1 hszM hbM
        have qOp : Hid (∀ wz, Calls Tryz.prog 24 #[.string (txt (cat M))] wz fun e w' => ∃ b, e = .returned (.tuple #[.pointer (some ⟨b, 0, none⟩), .int .i64 0]) ∧ (∃ y, DevAt wz.heap.size w' b y (Dev.fresh M)) ∧ Below wz.heap.size wz w') := Lib.hid (fun wz => opendev_sys hszM (by omega))
        obtain ⟨a1, q1, l2, h, hh, hRep⟩ := Sys.replay (K := 13000) (D := Dev.fresh M) hg.out ((Dev.Ok.fresh M hszM).mono (by omega)) rfl hbM SA.out.wl HPE.out hl1
        have qR1 : Hid (∀ (Bd db2 : Nat) (y2 : Lay) (wz : World), DevAt Bd wz db2 y2 (Dev.fresh M) → Calls Tryz.prog 15 #[.pointer (some ⟨db2, 0, none⟩), .agg (Geo.cells G)] wz fun e w' => ∃ v D', e = .returned (.tuple #[v, .int .i64 0]) ∧ DevAt Bd w' db2 y2 D' ∧ Only (devB db2 y2) wz w' ∧ D'.armed = false ∧ D'.kept = D'.now ∧ pendTo D'.pend D'.pend.length = [] ∧ ∃ a q, Sys.Ok G D' ⟨a, 0, q, 0⟩ h h a q [] 18000) := Lib.hid (fun Bd db2 y2 wz hz => by
          refine (replay_sys hRep hg.out hz ((Dev.Ok.fresh M hszM).mono (by omega)) rfl hbM (by omega)).mono ?_
          rintro e w' ⟨v, E, D', he, hd', ho', hc | ⟨_, _, hc, _⟩⟩
          · obtain ⟨⟨rfl, c2, c3, c4, c5, _⟩, _⟩ := hc
            exact ⟨v, D', he, hd', ho', c2, c3, c4 (fresh_pend M), c5⟩
          · cases hc)
        have HH := Lib.hid hh
        have HWL := Lib.hid SA.out.wl
        have HHM := Lib.hid SA.out.hl
        have HHL : Hid (h.length = 12) := Lib.hid (hh.elim (fun e => by rw [e]; exact HWL.out) (fun e => by rw [e]; exact HPE.out))
        have z9 := SA.out.row.cellAt 9 rfl
        have z1 := Q1.out.cellAt 1 rfl
        have HDd : Hid (DevAt w2.heap.size wc.drew db y D) := Lib.hid (SA.out.dev.below (Below.drew (Below.refl _ _)))
        have HBd : Hid (BoolsAt wc.drew ad2 keep) := Lib.hid (HBO.out.below HB.out.drew)
        clear hl1 hszM hbM hRep hh hM HDD
        go_wp2_with fail
        go_region_held3 (fun w' => w'.cell? ⟨wb, 9, none⟩ = some (.pointer (some ⟨db, 0, none⟩)) ∧ w'.cell? ⟨w.heap.size + 1, 1, none⟩ = some (.slice ad2 keep.length cap2))
          (first | exact ⟨z9, z1⟩ | exact ⟨R6.cellAt 9 rfl, F6.cellAt 1 rfl⟩ | exact ⟨R5.cellAt 9 rfl, F5.cellAt 1 rfl⟩)
          (first | (go_at_call 44; (with_reducible refine (qCr.out _ HDd.out HBd.out).mono ?_); rintro e w5 ⟨rfl, hb5x⟩; have hb5 : Below wc.heap.size wc w5 := ⟨hb5x.os, hb5x.tape, hb5x.output, hb5x.size, hb5x.block⟩; have R5 := SA.out.row.below hb5 SA.out.row.lt; have F5 := Q1.out.below hb5 Q1.out.lt) | (go_at_call 24; (with_reducible refine (qOp.out _).mono ?_); rintro e w6 ⟨db2, rfl, ⟨y2, hd6⟩, hb6⟩; have R6 := R5.below hb6 R5.lt; have F6 := F5.below hb6 F5.lt) | fail "none")
        have hcp := below_next hb5 hb6
        have SA6 := Lib.hid R6
        have PB6 := Lib.hid (PB.out.below hcp PB.out.lt)
        have HB6 := Lib.hid (below_next HB.out hcp)
        have HD6 := Lib.hid hd6
        have hbd6 := hd6.bounds
        have hs56 := hb6.size
        have hsc5 := hb5.size
        have HDB : Hid (∀ k ∈ devB db2 y2, w5.heap.size ≤ k ∧ k < w6.heap.size) := Lib.hid (fun k hk => by simp [devB] at hk; omega)
        have HWB : Hid (wb < w5.heap.size ∧ w4.heap.size < w5.heap.size ∧ w.heap.size + 1 < w5.heap.size) := Lib.hid ⟨by have := SA.out.row.lt; omega, by have := PB.out.lt; omega, by have := Q1.out.lt; omega⟩
        clear z9 z1 HDd HBd R5 F5 R6 F6 hb5 hb5x hb6 hd6 hcp qCr qOp hbd6 hs56 hsc5 SA PB Q1 HB
        unfold Geo.cells at qR1
        have k0 := SA6.out.cellAt 0 rfl
        have k1 := SA6.out.cellAt 1 rfl
        have k2 := SA6.out.cellAt 2 rfl
        have k3 := SA6.out.cellAt 3 rfl
        have k4 := SA6.out.cellAt 4 rfl
        have k5 := SA6.out.cellAt 5 rfl
        have k6 := SA6.out.cellAt 6 rfl
        have k7 := SA6.out.cellAt 7 rfl
        have k8 := SA6.out.cellAt 8 rfl
        have qR6 := Lib.hid (qR1.out _ _ _ _ HD6.out)
        go_upto_region 21 with (first | (go_at_call 15; (with_reducible refine qR6.out.mono ?_); rintro e w7 ⟨v7, D7, rfl, hd7, ho7, har7, hkn7, hpe7, a7, q7, hok7⟩) | fail "none")
        have SA7 := Lib.hid (ho7.row SA6.out (fun hm => by have := (HDB.out _ hm).1; have := HWB.out.1; omega))
        have PB7 := Lib.hid (ho7.row PB6.out (fun hm => by have := (HDB.out _ hm).1; have := HWB.out.2.1; omega))
        have HB7 := Lib.hid (HB6.out.trans (ho7.below HB6.out.size (fun k hk => by have := (HDB.out _ hk).1; have := HWB.out.2.2; omega)))
        have HD7 := Lib.hid hd7
        have HOK7 := Lib.hid hok7
        have HAR7 := Lib.hid har7
        have HKN7 := Lib.hid hkn7
        have HPE7 := Lib.hid hpe7
        have HSZ7 := Lib.hid ho7.size
        clear k0 k1 k2 k3 k4 k5 k6 k7 k8 hd7 ho7 har7 hkn7 hpe7 hok7 qR6 qR1 SA6 PB6 HB6 HD6
        have qH : Hid (∀ (wz : World) (x : List UInt8), x.length = 12 → Row wz wb 66 (sysC G db lb home want) → DevAt w5.heap.size wz db2 y2 D7 → Calls Tryz.prog 41 #[.pointer (some ⟨wb, 0, none⟩), .pointer (some ⟨db2, 0, none⟩), .agg (bcells x).toArray] wz fun e w' => e = .returned (.bool (decide (h = x))) ∧ Below wz.heap.size wz w') := Lib.hid (fun wz x hx hr hd => has_any wz hr hd hg.out HOK7.out.blocks HOK7.out.atHome HHL.out hx)
        by_cases hw : h = want
        · have qH1 : Hid (∀ wz, Row wz wb 66 (sysC G db lb home want) → DevAt w5.heap.size wz db2 y2 D7 → Calls Tryz.prog 41 #[.pointer (some ⟨wb, 0, none⟩), .pointer (some ⟨db2, 0, none⟩), .agg (bcells want).toArray] wz fun e w' => e = .returned (.bool true) ∧ Below wz.heap.size wz w') := Lib.hid (fun wz hr hd => by
            have := qH.out wz want HWL.out hr hd
            rwa [decide_eq_true hw] at this)
          have SGw := Lib.hid (SA7.out.wantSeg HHM.out)
          clear hw qH
          go_upto_region 23 with (first | refine wpList_load_segw (by simp [Region.wanted, yielded]; done) _ _ rfl wb 23 rfl (bcells want) _ SGw.out Tryz.underlying64 rfl (by rw [bcells_length, HWL.out]; kernel_rfl) ?_ | (go_at_call 41; (with_reducible refine (qH1.out _ SA7.out HD7.out).mono ?_); rintro e w8 ⟨rfl, hb8⟩) | fail "none")
          have SA8 := Lib.hid (SA7.out.below hb8 SA7.out.lt)
          have HB8 := Lib.hid (below_next HB7.out hb8)
          have HD8 := Lib.hid (HD7.out.below hb8)
          clear hb8 qH1 SGw SA7 HB7 HD7
          have qAc : Hid (∀ wz, DevAt w5.heap.size wz db2 y2 D7 → Calls Tryz.prog 33 #[.pointer (some ⟨db2, 0, none⟩)] wz fun e w' => e = .returned (.int .i64 D7.acts) ∧ wz = w') := Lib.hid (fun wz hz => acts_any hz)
          have qAc8 := Lib.hid (qAc.out _ HD8.out)
          go_upto_region 24 with (first | (go_at_call 33; (with_reducible refine qAc8.out.mono ?_); rintro e w9 ⟨rfl, rfl⟩) | fail "none")
          have qR2 : Hid (∀ wz, DevAt w5.heap.size wz db2 y2 D7 → Calls Tryz.prog 15 #[.pointer (some ⟨db2, 0, none⟩), .agg (Geo.cells G)] wz fun e w' => ∃ ad cap, e = .returned (.tuple #[.slice ad 0 cap, .int .i64 0]) ∧ DevAt w5.heap.size w' db2 y2 D7 ∧ Only (devB db2 y2) wz w') := Lib.hid (fun wz hz => by
            refine (replay_sys (Sys.Rep.of_ok HOK7.out HKN7.out) hg.out hz HOK7.out.dok HKN7.out HOK7.out.blocks (by omega)).mono ?_
            rintro e w' ⟨v, E, D', he, hd', ho', hc | ⟨_, _, hc, _⟩⟩
            · obtain ⟨⟨rfl, c2, c3, c4, c5, c6⟩, c7⟩ := hc
              obtain ⟨ad, cap, rfl⟩ := c7.at.form
              rw [c6 rfl] at hd'
              exact ⟨ad, cap, he, hd', ho'⟩
            · rw [HAR7.out] at hc; cases hc)
          have qO2 : Hid (∀ wz, DevAt w5.heap.size wz db2 y2 D7 → Calls Tryz.prog 16 #[.pointer (some ⟨db2, 0, none⟩), .agg (Geo.cells G)] wz fun e w' => ∃ lb, e = .returned (.tuple #[.pointer (some ⟨lb, 0, none⟩), .int .i64 0]) ∧ LogAt lb db2 G ⟨a7, 0, q7, 0⟩ w' ∧ wz.heap.size ≤ lb ∧ Below wz.heap.size wz w') := Lib.hid (fun wz hz => openlog_sys HOK7.out hz (by omega))
          unfold Geo.cells at qR2 qO2
          have k0 := SA8.out.cellAt 0 rfl
          have k1 := SA8.out.cellAt 1 rfl
          have k2 := SA8.out.cellAt 2 rfl
          have k3 := SA8.out.cellAt 3 rfl
          have k4 := SA8.out.cellAt 4 rfl
          have k5 := SA8.out.cellAt 5 rfl
          have k6 := SA8.out.cellAt 6 rfl
          have k7 := SA8.out.cellAt 7 rfl
          have k8 := SA8.out.cellAt 8 rfl
          have qR28 := Lib.hid (qR2.out _ HD8.out)
          go_upto_region 25 with (first | (go_at_call 15; (with_reducible refine qR28.out.mono ?_); rintro e w10 ⟨ad10, cap10, rfl, hd10, ho10⟩) | fail "none")
          have SA10 := Lib.hid (ho10.row SA8.out (fun hm => by have := (HDB.out _ hm).1; have := HWB.out.1; omega))
          have HB10 := Lib.hid (HB8.out.trans (ho10.below HB8.out.size (fun k hk => by have := (HDB.out _ hk).1; have := HWB.out.2.2; omega)))
          have HD10 := Lib.hid hd10
          clear k0 k1 k2 k3 k4 k5 k6 k7 k8 hd10 ho10 qR28 qR2 SA8 HB8 HD8
          have k0 := SA10.out.cellAt 0 rfl
          have k1 := SA10.out.cellAt 1 rfl
          have k2 := SA10.out.cellAt 2 rfl
          have k3 := SA10.out.cellAt 3 rfl
          have k4 := SA10.out.cellAt 4 rfl
          have k5 := SA10.out.cellAt 5 rfl
          have k6 := SA10.out.cellAt 6 rfl
          have k7 := SA10.out.cellAt 7 rfl
          have k8 := SA10.out.cellAt 8 rfl
          have qO10 := Lib.hid (qO2.out _ HD10.out)
          go_upto_region 26 with (first | (go_at_call 16; (with_reducible refine qO10.out.mono ?_); rintro e w11 ⟨lb2, rfl, hl11, hlb11, hb11⟩) | fail "none")
          have SA11 := Lib.hid (SA10.out.below hb11 SA10.out.lt)
          have HB11 := Lib.hid (below_next HB10.out hb11)
          have HD11 := Lib.hid (HD10.out.below hb11)
          have HL11 := Lib.hid hl11
          have HBD10 := HD10.out.bounds
          have HLN : Hid (lb2 ∉ devB db2 y2 ∧ w5.heap.size ≤ lb2) := Lib.hid ⟨fun hm => by simp [devB] at hm; omega, by have := HDB.out db2 (by simp [devB]); omega⟩
          clear k0 k1 k2 k3 k4 k5 k6 k7 k8 hl11 hlb11 hb11 qO10 qO2 SA10 HB10 HD10 HBD10
          have qRo : Hid (∀ wz, LogAt lb2 db2 G ⟨a7, 0, q7, 0⟩ wz → Calls Tryz.prog 17 #[.pointer (some ⟨lb2, 0, none⟩)] wz fun e w' => e = .returned (.int .i64 (G.log - 1)) ∧ Below wz.heap.size wz w') := Lib.hid (fun wz hz => (room_sys HOK7.out hz).mono fun e w' hh => ⟨by rw [hh.1]; simp, hh.2⟩)
          have qPe : Hid (∀ wz, DevAt w5.heap.size wz db2 y2 D7 → Calls Tryz.prog 36 #[.pointer (some ⟨db2, 0, none⟩)] wz fun e w' => ∃ ad cap, e = .returned (.slice ad 0 cap) ∧ Below wz.heap.size wz w') := Lib.hid (fun wz hz => (pending_any hz).mono fun e w' ⟨v, he, ho, hb⟩ => by
            rw [HPE7.out] at ho
            obtain ⟨ad, cap, rfl, _⟩ := own_opens ho
            exact ⟨ad, cap, he, hb⟩)
          have qF9 : Hid (∀ wz, Calls Tryz.prog 45 #[.int .u8 9] wz fun e w' => e = .returned (.string (blk 9)) ∧ Below wz.heap.size wz w') := Lib.hid (fun wz => fill_any 9 wz)
          have qCo : Hid (∀ (wz : World), DevAt w5.heap.size wz db2 y2 D7 → LogAt lb2 db2 G ⟨a7, 0, q7, 0⟩ wz → Calls Tryz.prog 19 #[.pointer (some ⟨lb2, 0, none⟩), .agg #[.slice (some ⟨wz.heap.size, 0, none⟩) 1 1, .slice none 0 0], .slice none 0 0] (wz.alloc (.cells #[.int .i64 G.dataAt, .string (blk 9)] 68)) fun e w' => e = .returned (.int .i64 0) ∧ Only (lb2 :: devB db2 y2) (wz.alloc (.cells #[.int .i64 G.dataAt, .string (blk 9)] 68)) w') := Lib.hid (fun wz hz hl => commit_one (blk 9) (blk_size 9) (hz.below (below_box (Below.refl _ _) _)) (Row.alloc hl _) HLN.out.1 HOK7.out HAR7.out (by omega) (.inr ⟨wz.heap.size, 0, 1, rfl, fun j u _ hu => by rw [Nat.zero_add]; exact (Row.new wz 68 [.int .i64 G.dataAt, .string (blk 9)] rfl).cellAt j hu⟩) (Nat.le_refl _))
          have hwL : IntKind.i64.wrap (G.log - 1) = G.log - 1 := IntWalk.i64_in _ (by omega)
          have hee : (G.log - 1 == G.log - 1) = true := beq_self_eq_true _
          have hea : (D7.acts == D7.acts) = true := beq_self_eq_true _
          have K11 : Hid (∀ wz, Row wz wb 66 (sysC G db lb home want) → wz.cell? ⟨wb, 1, none⟩ = some (.int .i64 G.log) ∧ wz.cell? ⟨wb, 8, none⟩ = some (.int .i64 G.dataAt)) := Lib.hid (fun wz hz => ⟨hz.cellAt 1 rfl, hz.cellAt 8 rfl⟩)
          have HD11d : Hid (DevAt w5.heap.size w11.drew db2 y2 D7) := Lib.hid (HD11.out.below (Below.drew (Below.refl _ _)))
          have HL11d : Hid (LogAt lb2 db2 G ⟨a7, 0, q7, 0⟩ w11.drew) := Lib.hid (Row.drew HL11.out)
          have R11 := SA11.out.drew
          have s11 := K11.out _ R11
          go_region_held3 (fun w' => w'.cell? ⟨wb, 1, none⟩ = some (.int .i64 G.log) ∧ w'.cell? ⟨wb, 8, none⟩ = some (.int .i64 G.dataAt))
            (first | exact s11 | exact K11.out _ R16 | exact K11.out _ R15 | exact K11.out _ R14b | exact K11.out _ R14 | exact K11.out _ R13 | exact K11.out _ R12)
            (first | (go_at_call 33; (with_reducible refine (qAc.out _ HD11d.out).mono ?_); rintro e w12 ⟨rfl, rfl⟩) | (go_at_call 17; (with_reducible refine (qRo.out _ HL11d.out).mono ?_); rintro e w12 ⟨rfl, hb12⟩; have R12 := R11.below hb12 R11.lt; have D12 := HD11d.out.below hb12; have L12 : LogAt lb2 db2 G ⟨a7, 0, q7, 0⟩ w12 := Row.below HL11d.out hb12 (Row.lt HL11d.out); have B12 := below_next HB11.out.drew hb12) | (go_at_call 36; (with_reducible refine (qPe.out _ D12).mono ?_); rintro e w13 ⟨ad13, cap13, rfl, hb13⟩; have R13 := R12.below hb13 R12.lt; have D13 := D12.below hb13; have L13 : LogAt lb2 db2 G ⟨a7, 0, q7, 0⟩ w13 := Row.below L12 hb13 (Row.lt L12); have B13 := below_next B12 hb13) | (go_at_call 45; (with_reducible refine (qF9.out _).mono ?_); rintro e w14 ⟨rfl, hb14⟩; have R14 := R13.below hb14 R13.lt; have D14 := D13.below hb14; have L14 : LogAt lb2 db2 G ⟨a7, 0, q7, 0⟩ w14 := Row.below L13 hb14 (Row.lt L13); have B14 := below_next B13 hb14; have R14b := R14.alloc (.cells #[.int .i64 G.dataAt, .string (blk 9)] 68)) | (go_at_call 19; (with_reducible refine (qCo.out _ D14 L14).mono ?_); rintro e w15 ⟨rfl, ho15⟩; have R15 := ho15.row R14b (fun hm => by rcases List.mem_cons.1 hm with hm | hm; (have := HLN.out.2; have := HWB.out.1; omega); (have := (HDB.out _ hm).1; have := HWB.out.1; omega)); have B15 := (below_box B14 (.cells #[.int .i64 G.dataAt, .string (blk 9)] 68)).trans (ho15.below (by have := B14.size; simp; omega) (fun k hk => by rcases List.mem_cons.1 hk with hm | hm; (have := HLN.out.2; have := HWB.out.2.2; omega); (have := (HDB.out _ hm).1; have := HWB.out.2.2; omega)))) | (go_at_call 14; (with_reducible refine (qA.out _).mono ?_); rintro e w16 ⟨rfl, hb16⟩; have R16 := R15.below hb16 R15.lt; have B16 := below_next B15 hb16) | fail "none")
          go_wp2_with fail
          go_ret
          exact ⟨rfl, B16⟩
        · have hp : h = per := HH.out.resolve_left hw
          have qH1 : Hid (∀ wz, Row wz wb 66 (sysC G db lb home want) → DevAt w5.heap.size wz db2 y2 D7 → Calls Tryz.prog 41 #[.pointer (some ⟨wb, 0, none⟩), .pointer (some ⟨db2, 0, none⟩), .agg (bcells want).toArray] wz fun e w' => e = .returned (.bool false) ∧ Below wz.heap.size wz w') := Lib.hid (fun wz hr hd => by
            have := qH.out wz want HWL.out hr hd
            rwa [decide_eq_false hw] at this)
          have qH2 : Hid (∀ wz, Row wz wb 66 (sysC G db lb home want) → DevAt w5.heap.size wz db2 y2 D7 → Calls Tryz.prog 41 #[.pointer (some ⟨wb, 0, none⟩), .pointer (some ⟨db2, 0, none⟩), .agg (bcells per).toArray] wz fun e w' => e = .returned (.bool true) ∧ Below wz.heap.size wz w') := Lib.hid (fun wz hr hd => by
            have := qH.out wz per HPE.out hr hd
            rwa [decide_eq_true hp] at this)
          have SGw := Lib.hid (SA7.out.wantSeg HHM.out)
          clear hw hp qH
          go_upto_region 23 with (first | refine wpList_load_segw (by simp [Region.wanted, yielded]; done) _ _ rfl wb 23 rfl (bcells want) _ SGw.out Tryz.underlying64 rfl (by rw [bcells_length, HWL.out]; kernel_rfl) ?_ | refine wpList_load_segw (by simp [Region.wanted, yielded]; done) _ _ rfl w4.heap.size 0 rfl (bcells per) _ SGp.out Tryz.underlying64 rfl (by rw [bcells_length, HPE.out]; kernel_rfl) ?_ | (go_at_call 41; (with_reducible refine (qH1.out _ SA7.out HD7.out).mono ?_); rintro e w8 ⟨rfl, hb8⟩; have R8 := SA7.out.below hb8 SA7.out.lt; have D8 := HD7.out.below hb8; have SGp := Lib.hid (whole_seg (PB7.out.below hb8 PB7.out.lt))) | (go_at_call 41; (with_reducible refine (qH2.out _ R8 D8).mono ?_); rintro e w8b ⟨rfl, hb8b⟩) | fail "none")
          have SA8 := Lib.hid (R8.below hb8b R8.lt)
          have HB8 := Lib.hid (below_next (below_next HB7.out hb8) hb8b)
          have HD8 := Lib.hid (D8.below hb8b)
          clear hb8 hb8b qH1 qH2 SGw SGp R8 D8 SA7 HB7 HD7
          have qAc : Hid (∀ wz, DevAt w5.heap.size wz db2 y2 D7 → Calls Tryz.prog 33 #[.pointer (some ⟨db2, 0, none⟩)] wz fun e w' => e = .returned (.int .i64 D7.acts) ∧ wz = w') := Lib.hid (fun wz hz => acts_any hz)
          have qAc8 := Lib.hid (qAc.out _ HD8.out)
          go_upto_region 24 with (first | (go_at_call 33; (with_reducible refine qAc8.out.mono ?_); rintro e w9 ⟨rfl, rfl⟩) | fail "none")
          have qR2 : Hid (∀ wz, DevAt w5.heap.size wz db2 y2 D7 → Calls Tryz.prog 15 #[.pointer (some ⟨db2, 0, none⟩), .agg (Geo.cells G)] wz fun e w' => ∃ ad cap, e = .returned (.tuple #[.slice ad 0 cap, .int .i64 0]) ∧ DevAt w5.heap.size w' db2 y2 D7 ∧ Only (devB db2 y2) wz w') := Lib.hid (fun wz hz => by
            refine (replay_sys (Sys.Rep.of_ok HOK7.out HKN7.out) hg.out hz HOK7.out.dok HKN7.out HOK7.out.blocks (by omega)).mono ?_
            rintro e w' ⟨v, E, D', he, hd', ho', hc | ⟨_, _, hc, _⟩⟩
            · obtain ⟨⟨rfl, c2, c3, c4, c5, c6⟩, c7⟩ := hc
              obtain ⟨ad, cap, rfl⟩ := c7.at.form
              rw [c6 rfl] at hd'
              exact ⟨ad, cap, he, hd', ho'⟩
            · rw [HAR7.out] at hc; cases hc)
          have qO2 : Hid (∀ wz, DevAt w5.heap.size wz db2 y2 D7 → Calls Tryz.prog 16 #[.pointer (some ⟨db2, 0, none⟩), .agg (Geo.cells G)] wz fun e w' => ∃ lb, e = .returned (.tuple #[.pointer (some ⟨lb, 0, none⟩), .int .i64 0]) ∧ LogAt lb db2 G ⟨a7, 0, q7, 0⟩ w' ∧ wz.heap.size ≤ lb ∧ Below wz.heap.size wz w') := Lib.hid (fun wz hz => openlog_sys HOK7.out hz (by omega))
          unfold Geo.cells at qR2 qO2
          have k0 := SA8.out.cellAt 0 rfl
          have k1 := SA8.out.cellAt 1 rfl
          have k2 := SA8.out.cellAt 2 rfl
          have k3 := SA8.out.cellAt 3 rfl
          have k4 := SA8.out.cellAt 4 rfl
          have k5 := SA8.out.cellAt 5 rfl
          have k6 := SA8.out.cellAt 6 rfl
          have k7 := SA8.out.cellAt 7 rfl
          have k8 := SA8.out.cellAt 8 rfl
          have qR28 := Lib.hid (qR2.out _ HD8.out)
          go_upto_region 25 with (first | (go_at_call 15; (with_reducible refine qR28.out.mono ?_); rintro e w10 ⟨ad10, cap10, rfl, hd10, ho10⟩) | fail "none")
          have SA10 := Lib.hid (ho10.row SA8.out (fun hm => by have := (HDB.out _ hm).1; have := HWB.out.1; omega))
          have HB10 := Lib.hid (HB8.out.trans (ho10.below HB8.out.size (fun k hk => by have := (HDB.out _ hk).1; have := HWB.out.2.2; omega)))
          have HD10 := Lib.hid hd10
          clear k0 k1 k2 k3 k4 k5 k6 k7 k8 hd10 ho10 qR28 qR2 SA8 HB8 HD8
          have k0 := SA10.out.cellAt 0 rfl
          have k1 := SA10.out.cellAt 1 rfl
          have k2 := SA10.out.cellAt 2 rfl
          have k3 := SA10.out.cellAt 3 rfl
          have k4 := SA10.out.cellAt 4 rfl
          have k5 := SA10.out.cellAt 5 rfl
          have k6 := SA10.out.cellAt 6 rfl
          have k7 := SA10.out.cellAt 7 rfl
          have k8 := SA10.out.cellAt 8 rfl
          have qO10 := Lib.hid (qO2.out _ HD10.out)
          go_upto_region 26 with (first | (go_at_call 16; (with_reducible refine qO10.out.mono ?_); rintro e w11 ⟨lb2, rfl, hl11, hlb11, hb11⟩) | fail "none")
          have SA11 := Lib.hid (SA10.out.below hb11 SA10.out.lt)
          have HB11 := Lib.hid (below_next HB10.out hb11)
          have HD11 := Lib.hid (HD10.out.below hb11)
          have HL11 := Lib.hid hl11
          have HBD10 := HD10.out.bounds
          have HLN : Hid (lb2 ∉ devB db2 y2 ∧ w5.heap.size ≤ lb2) := Lib.hid ⟨fun hm => by simp [devB] at hm; omega, by have := HDB.out db2 (by simp [devB]); omega⟩
          clear k0 k1 k2 k3 k4 k5 k6 k7 k8 hl11 hlb11 hb11 qO10 qO2 SA10 HB10 HD10 HBD10
          have qRo : Hid (∀ wz, LogAt lb2 db2 G ⟨a7, 0, q7, 0⟩ wz → Calls Tryz.prog 17 #[.pointer (some ⟨lb2, 0, none⟩)] wz fun e w' => e = .returned (.int .i64 (G.log - 1)) ∧ Below wz.heap.size wz w') := Lib.hid (fun wz hz => (room_sys HOK7.out hz).mono fun e w' hh => ⟨by rw [hh.1]; simp, hh.2⟩)
          have qPe : Hid (∀ wz, DevAt w5.heap.size wz db2 y2 D7 → Calls Tryz.prog 36 #[.pointer (some ⟨db2, 0, none⟩)] wz fun e w' => ∃ ad cap, e = .returned (.slice ad 0 cap) ∧ Below wz.heap.size wz w') := Lib.hid (fun wz hz => (pending_any hz).mono fun e w' ⟨v, he, ho, hb⟩ => by
            rw [HPE7.out] at ho
            obtain ⟨ad, cap, rfl, _⟩ := own_opens ho
            exact ⟨ad, cap, he, hb⟩)
          have qF9 : Hid (∀ wz, Calls Tryz.prog 45 #[.int .u8 9] wz fun e w' => e = .returned (.string (blk 9)) ∧ Below wz.heap.size wz w') := Lib.hid (fun wz => fill_any 9 wz)
          have qCo : Hid (∀ (wz : World), DevAt w5.heap.size wz db2 y2 D7 → LogAt lb2 db2 G ⟨a7, 0, q7, 0⟩ wz → Calls Tryz.prog 19 #[.pointer (some ⟨lb2, 0, none⟩), .agg #[.slice (some ⟨wz.heap.size, 0, none⟩) 1 1, .slice none 0 0], .slice none 0 0] (wz.alloc (.cells #[.int .i64 G.dataAt, .string (blk 9)] 68)) fun e w' => e = .returned (.int .i64 0) ∧ Only (lb2 :: devB db2 y2) (wz.alloc (.cells #[.int .i64 G.dataAt, .string (blk 9)] 68)) w') := Lib.hid (fun wz hz hl => commit_one (blk 9) (blk_size 9) (hz.below (below_box (Below.refl _ _) _)) (Row.alloc hl _) HLN.out.1 HOK7.out HAR7.out (by omega) (.inr ⟨wz.heap.size, 0, 1, rfl, fun j u _ hu => by rw [Nat.zero_add]; exact (Row.new wz 68 [.int .i64 G.dataAt, .string (blk 9)] rfl).cellAt j hu⟩) (Nat.le_refl _))
          have hwL : IntKind.i64.wrap (G.log - 1) = G.log - 1 := IntWalk.i64_in _ (by omega)
          have hee : (G.log - 1 == G.log - 1) = true := beq_self_eq_true _
          have hea : (D7.acts == D7.acts) = true := beq_self_eq_true _
          have K11 : Hid (∀ wz, Row wz wb 66 (sysC G db lb home want) → wz.cell? ⟨wb, 1, none⟩ = some (.int .i64 G.log) ∧ wz.cell? ⟨wb, 8, none⟩ = some (.int .i64 G.dataAt)) := Lib.hid (fun wz hz => ⟨hz.cellAt 1 rfl, hz.cellAt 8 rfl⟩)
          have HD11d : Hid (DevAt w5.heap.size w11.drew db2 y2 D7) := Lib.hid (HD11.out.below (Below.drew (Below.refl _ _)))
          have HL11d : Hid (LogAt lb2 db2 G ⟨a7, 0, q7, 0⟩ w11.drew) := Lib.hid (Row.drew HL11.out)
          have R11 := SA11.out.drew
          have s11 := K11.out _ R11
          go_region_held3 (fun w' => w'.cell? ⟨wb, 1, none⟩ = some (.int .i64 G.log) ∧ w'.cell? ⟨wb, 8, none⟩ = some (.int .i64 G.dataAt))
            (first | exact s11 | exact K11.out _ R16 | exact K11.out _ R15 | exact K11.out _ R14b | exact K11.out _ R14 | exact K11.out _ R13 | exact K11.out _ R12)
            (first | (go_at_call 33; (with_reducible refine (qAc.out _ HD11d.out).mono ?_); rintro e w12 ⟨rfl, rfl⟩) | (go_at_call 17; (with_reducible refine (qRo.out _ HL11d.out).mono ?_); rintro e w12 ⟨rfl, hb12⟩; have R12 := R11.below hb12 R11.lt; have D12 := HD11d.out.below hb12; have L12 : LogAt lb2 db2 G ⟨a7, 0, q7, 0⟩ w12 := Row.below HL11d.out hb12 (Row.lt HL11d.out); have B12 := below_next HB11.out.drew hb12) | (go_at_call 36; (with_reducible refine (qPe.out _ D12).mono ?_); rintro e w13 ⟨ad13, cap13, rfl, hb13⟩; have R13 := R12.below hb13 R12.lt; have D13 := D12.below hb13; have L13 : LogAt lb2 db2 G ⟨a7, 0, q7, 0⟩ w13 := Row.below L12 hb13 (Row.lt L12); have B13 := below_next B12 hb13) | (go_at_call 45; (with_reducible refine (qF9.out _).mono ?_); rintro e w14 ⟨rfl, hb14⟩; have R14 := R13.below hb14 R13.lt; have D14 := D13.below hb14; have L14 : LogAt lb2 db2 G ⟨a7, 0, q7, 0⟩ w14 := Row.below L13 hb14 (Row.lt L13); have B14 := below_next B13 hb14; have R14b := R14.alloc (.cells #[.int .i64 G.dataAt, .string (blk 9)] 68)) | (go_at_call 19; (with_reducible refine (qCo.out _ D14 L14).mono ?_); rintro e w15 ⟨rfl, ho15⟩; have R15 := ho15.row R14b (fun hm => by rcases List.mem_cons.1 hm with hm | hm; (have := HLN.out.2; have := HWB.out.1; omega); (have := (HDB.out _ hm).1; have := HWB.out.1; omega)); have B15 := (below_box B14 (.cells #[.int .i64 G.dataAt, .string (blk 9)] 68)).trans (ho15.below (by have := B14.size; simp; omega) (fun k hk => by rcases List.mem_cons.1 hk with hm | hm; (have := HLN.out.2; have := HWB.out.2.2; omega); (have := (HDB.out _ hm).1; have := HWB.out.2.2; omega)))) | (go_at_call 14; (with_reducible refine (qA.out _).mono ?_); rintro e w16 ⟨rfl, hb16⟩; have R16 := R15.below hb16 R15.lt; have B16 := below_next B15 hb16) | fail "none")
          go_wp2_with fail
          go_ret
          exact ⟨rfl, B16⟩
end Go.Proofs.YtnpdhidliaahbaaGreat
