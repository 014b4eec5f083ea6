/- JournalTwice: the walk. -/
import Derived.Test.YtnpdhidliaahbaaGreatG41
namespace Go.Proofs.YtnpdhidliaahbaaGreat
set_option linter.unusedVariables false
open Go Go.RowKit
set_option maxRecDepth 100000 in
set_option maxHeartbeats 16000000 in
/-- The law's walk. -/
theorem JournalTwice_walk (a b c : UInt8) (ax : Option Addr) (cx : Nat) (l1 : List Sys.Step) (ao : Option Addr) (co : Nat) (o1 : List FailV) {w : World} (s1 : StepsIn w (.slice ax l1.length cx) l1) (s2 : FailsIn w (.slice ao o1.length co) o1) :
    Calls Tryz.prog 11 #[.agg #[bval a, bval b, bval c], .slice ax l1.length cx, .slice ao o1.length co] w fun e w' => e = .returned (.bool true) ∧ Below w.heap.size w w' := by
  have HST := Lib.hid s1
  have HFT := Lib.hid s2
  have hslen := s1.len
  have holen := s2.len
  have qM : Hid (∀ wz, StepsIn wz (.slice ax l1.length cx) l1 → Calls Tryz.prog 38 #[.slice ax l1.length cx] wz fun e w' => e = .returned (.bool (manyB l1)) ∧ Below wz.heap.size wz w') := Lib.hid (fun wz hz => manysteps_any wz hz)
  have qB := Lib.hid (fun wz => begun_any a b c wz)
  have qA := Lib.hid (fun wz => alive_any wz)
  obtain ⟨_, hok0, harm0, hkn0⟩ := devG_ok a.toNat b.toNat c.toNat
  have HOK0 := Lib.hid hok0
  have HAR0 := Lib.hid harm0
  clear hok0 harm0 hkn0 s1 s2
  generalize devG a.toNat b.toNat c.toNat = D0 at *
  generalize layG a.toNat b.toNat c.toNat = G at *
  generalize bval a = va at *
  generalize bval b = vb at *
  generalize bval c = vc at *
  go_enter Tryz.func11, Tryz.ntmps11
  go_upto_region 1 with fail
  have hB1 : Below w.heap.size w (w.alloc (.cells #[va, vb, vc] 54)) := below_box (Below.refl _ _) _
  have q0 : Row (w.alloc (.cells #[va, vb, vc] 54)) w.heap.size 54 [va, vb, vc] := Row.new w _ _ rfl
  have B1 := Lib.hid hB1
  have Q0 := Lib.hid q0
  have qM1 := Lib.hid (qM.out _ (HST.out.below hB1))
  clear hB1 q0
  generalize w.alloc _ = w1 at *
  by_cases hm : manyB l1 = true
  · rw [hm] at qM1
    go_wp2_with (first | (go_at_call 38; (with_reducible refine qM1.out.mono ?_); rintro e w2 ⟨rfl, hb2⟩) | fail "none")
    go_ret
    exact ⟨rfl, below_next B1.out hb2⟩
  · have hmf : manyB l1 = false := by simpa using hm
    rw [hmf] at qM1
    have hl30 := manyB_len hmf
    clear hm hmf
    by_cases hk : 8 < o1.length
    · have ik : (8 : Int) < (o1.length : Int) := by omega
      go_wp2_with (first | (go_at_call 38; (with_reducible refine qM1.out.mono ?_); rintro e w2 ⟨rfl, hb2⟩) | fail "none")
      go_ret
      exact ⟨rfl, below_next B1.out hb2⟩
    · have ik : ¬ (8 : Int) < (o1.length : Int) := by omega
      have ho8 : o1.length ≤ 8 := by omega
      clear hk
      go_upto_region 3 with (first | (go_at_call 38; (with_reducible refine qM1.out.mono ?_); rintro e w2 ⟨rfl, hb2⟩) | fail "none")
      have B2 := Lib.hid (below_next B1.out hb2)
      have Q02 := Lib.hid (Q0.out.below hb2 Q0.out.lt)
      clear hb2 Q0 B1 qM1 qM ik
      have y0 := Q02.out.cellAt 0 rfl
      have y1 := Q02.out.cellAt 1 rfl
      have y2 := Q02.out.cellAt 2 rfl
      go_upto_region 6 with (first | (go_at_call 22; (with_reducible refine (qB.out _).mono ?_); rintro e w3 ⟨wb, db, lb, y, rfl, hs3, hwb, hlb, hb3⟩) | fail "none")
      have SA3 := Lib.hid hs3
      have B3 := Lib.hid (below_next B2.out hb3)
      have HS3 : Hid (∀ k ∈ wb :: lb :: devB db y, w2.heap.size ≤ k) := Lib.hid (fun k hk => by
        have := hs3.dev.bounds
        rcases List.mem_cons.1 hk with rfl | hk
        · exact hwb
        rcases List.mem_cons.1 hk with rfl | hk
        · exact hlb
        · simp [devB] at hk; omega)
      have HW2 : Hid (w.heap.size ≤ w2.heap.size) := Lib.hid B2.out.size
      have hg : Hid (Geo.May G) := Lib.hid HOK0.out.may
      have hga := hg.out.ok.1
      unfold Geo.asked at hga
      have hgl := (Jr.plc_of hg.out).2.2
      clear hs3 hwb hlb hb3 y0 y1 y2 Q02 B2 qB
      go_upto_block 0 with fail
      go_cut [9, 10, 11] from 33 to 49 (fun ta tb te wx => ∃ (D : Dev) (V : LogV) (home want : List UInt8) (p q : Nat) (l : List Jr.Txn) (u0 u1 u2 : Value), u0 = ta ∧ u1 = tb ∧ u2 = te ∧ Hid (SysAt w2.heap.size wb db lb y G D V home want wx) ∧ Hid (Sys.Ok G D V home want p q l 13000) ∧ Hid (Below w.heap.size w wx))
      case first =>
        go_wp2_with fail
        go_loopw [9, 10, 11] (fun ta tb te wr => ∃ (j : Nat) (u1 u2 : Value) (D : Dev) (V : LogV) (home want : List UInt8) (p q : Nat) (l : List Jr.Txn), ta = .int .i64 (j : Int) ∧ j ≤ l1.length ∧ u1 = tb ∧ u2 = te ∧ Hid (D.armed = false) ∧ Hid (SysAt w2.heap.size wb db lb y G D V home want wr) ∧ Hid (Sys.Ok G D V home want p q l (600 + 400 * j)) ∧ Hid (Below w.heap.size w wr)) (fun ta _ _ _ => l1.length - (intOf ta).toNat)
        case atStart => exact ⟨0, _, _, _, _, _, _, _, _, _, rfl, by omega, rfl, rfl, HAR0, SA3, HOK0, B3⟩
        case round =>
          clear SA3 HOK0 B3 HAR0
          obtain ⟨j, u1, u2, D, V, home, want, p, q, l, rfl, hj, rfl, rfl, HAR, SA, HOK, HB⟩ := hrel
          by_cases hlt : j < l1.length
          · have i1 : (j : Int) < (l1.length : Int) := by omega
            obtain ⟨gs, off, vc0, vr0, rfl, c0, c1, c2, c3, c4, hs⟩ := HST.out.at j hlt
            replace c0 := below_keep HB.out (Nat.le_refl _) c0
            replace c1 := below_keep HB.out (Nat.le_refl _) c1
            replace c2 := below_keep HB.out (Nat.le_refl _) c2
            replace c3 := below_keep HB.out (Nat.le_refl _) c3
            replace c4 := below_keep HB.out (Nat.le_refl _) c4
            have hs0 := hs
            obtain ⟨⟨vc', vr', he, hc, hr⟩, hlc, hlr⟩ := hs
            obtain ⟨rfl, rfl⟩ : vc0 = vc' ∧ vr0 = vr' := by simpa using he
            obtain ⟨ac, cc, rfl⟩ := hc.form
            obtain ⟨ar, cr, rfl⟩ := hr.form
            have qSt0 := step_any SA.out HOK.out (by omega) w hs0 HB.out (fun k hk => by have := HS3.out k hk; have := HW2.out; omega)
            have qSt := Lib.hid qSt0
            clear he hc hr hlc hlr hs0 qSt0
            generalize l1.getD j step0 = x at *
            go_upto_region 10 with (first | (go_at_call 43; (with_reducible refine qSt.out.mono ?_); rintro e w6 hst; obtain ⟨next, E, hnl, rfl, ho6, D', V', home', want', hsa, hcase⟩ := step_E hst; obtain ⟨rfl, harm', a, q', l', hok⟩ := hcase.resolve_right (fun hbad => by rw [HAR.out] at hbad; exact absurd hbad.2.1 (by decide)); have ZS := Lib.hid (zeros_seg w6 next hnl); have HNL := Lib.hid hnl) | refine wpList_store_seg rfl _ _ _ rfl w6.heap.size 0 (bcells next) rfl rfl (by rw [bcells_length, HNL.out]; kernel_rfl) ZS.out.1 ZS.out.2.1 (bcells_one _) ?_ | fail "none")
            have hsl := sys_lt hsa
            have SA7 := Lib.hid ((hsa.below (below_box (Below.refl _ _) (.cells #[.int .u8 0, .int .u8 0, .int .u8 0, .int .u8 0, .int .u8 0, .int .u8 0, .int .u8 0, .int .u8 0, .int .u8 0, .int .u8 0, .int .u8 0, .int .u8 0] 64))).newCells (b := w6.heap.size) (by have := hsl wb (by simp); omega) (by have := hsl lb (by simp); omega) (fun h => by have := hsl _ (List.mem_cons_of_mem _ (List.mem_cons_of_mem _ h)); omega) (bcells next) 0)
            have HB6 := HB.out.trans (ho6.below HB.out.size (fun k hk => by have := HS3.out k hk; have := HW2.out; omega))
            have HB7 := Lib.hid ((below_box HB6 (.cells #[.int .u8 0, .int .u8 0, .int .u8 0, .int .u8 0, .int .u8 0, .int .u8 0, .int .u8 0, .int .u8 0, .int .u8 0, .int .u8 0, .int .u8 0, .int .u8 0] 64)).trans ((Only.setCells (S := [w6.heap.size]) (g := w6.heap.size) (by simp) (bcells next) 0 _).below (by have := HB6.size; simp; omega) (by intro k hk; have := List.mem_singleton.1 hk; have := HB6.size; omega)))
            have HAR7 := Lib.hid (harm'.trans HAR.out)
            have HOK7 := Lib.hid hok
            clear hsa ho6 ZS qSt hsl HB6 SA HB hnl c0 c1 c2 c3 c4 harm' hok hcase
            generalize World.setCells _ _ _ _ = w7 at *
            go_wp2_with fail
            go_roundw
            case rel => exact ⟨j + 1, _, _, D', V', home', want', a, q', l', by go_num, by omega, rfl, rfl, HAR7, SA7, Lib.hid (HOK7.out.mono (by omega)), HB7⟩
            case measure => simp [intOf]; omega
          · have i1 : ¬ (j : Int) < (l1.length : Int) := by omega
            have HOKx := Lib.hid (HOK.out.mono (show 600 + 400 * j ≤ 13000 by omega))
            go_wp2_with fail
            go_meet
            exact ⟨D, V, home, want, p, q, l, _, _, _, rfl, rfl, rfl, SA, HOKx, HB⟩
      case rest =>
        clear SA3 HOK0 B3 HAR0
        obtain ⟨D, V, home, want, p, q, l, u0, u1, u2, rfl, rfl, rfl, SA, HOK, HB⟩ := hcut
        have HWL := Lib.hid SA.out.wl
        have HHM := Lib.hid SA.out.hl
        obtain ⟨hl1, hszM, hbM⟩ := (HOK.out.dead want).kept
        have qKe : Hid (∀ wz, DevAt w2.heap.size wz db y D → Calls Tryz.prog 25 #[.pointer (some ⟨db, 0, none⟩)] wz fun e w' => e = .returned (.string (txt (cat D.kept))) ∧ Below wz.heap.size wz w') := Lib.hid (fun wz hz => kept_any hz hszM)
        obtain ⟨M, hM⟩ : ∃ M, D.kept = M := ⟨_, rfl⟩
        rw [hM] at hl1 hszM hbM qKe
        have qOp : Hid (∀ (M : List ByteArray) wz, sized M → (M.length : Int) = G.blocks → Calls Tryz.prog 24 #[.string (txt (cat M))] wz fun e w' => ∃ b, e = .returned (.tuple #[.pointer (some ⟨b, 0, none⟩), .int .i64 0]) ∧ (∃ y, DevAt wz.heap.size w' b y (Dev.fresh M)) ∧ Below wz.heap.size wz w') := Lib.hid (fun M wz h1 h2 => opendev_sys h1 (by omega))
        have HL1 := Lib.hid hl1
        have HSM := Lib.hid hszM
        have HBM := Lib.hid hbM
        have z9 := SA.out.row.cellAt 9 rfl
        clear hl1 hszM hbM hM HOK
        go_wp2_with (first | (go_at_call 25; (with_reducible refine (qKe.out _ SA.out.dev).mono ?_); rintro e w5 ⟨rfl, hb5⟩) | (go_at_call 24; (with_reducible refine (qOp.out M _ HSM.out HBM.out).mono ?_); rintro e w6 ⟨db2, rfl, ⟨y2, hd6⟩, hb6⟩) | fail "none")
        have RW6 := Lib.hid ((SA.out.row.below hb5 SA.out.row.lt).below hb6 (SA.out.row.below hb5 SA.out.row.lt).lt)
        have HB6 := Lib.hid (below_next (below_next HB.out hb5) hb6)
        have HD6 : Hid (DevAt w5.heap.size w6 db2 y2 (Dev.fresh M)) := Lib.hid hd6
        have HWB : Hid (wb < w5.heap.size ∧ w.heap.size ≤ w5.heap.size) := Lib.hid ⟨(SA.out.row.below hb5 SA.out.row.lt).lt, (below_next HB.out hb5).size⟩
        have HLM : Hid (Sys.Lost G want want 13000 M ∧ sized M ∧ (M.length : Int) = G.blocks) := Lib.hid ⟨HL1.out, HSM.out, HBM.out⟩
        clear hb5 hb6 hd6 z9 qKe SA HB HL1 HSM HBM
        go_loopw [12, 13, 14, 15, 16] (fun td te ti tx tf wr => ∃ (j db2 : Nat) (y2 : Lay) (M : List ByteArray) (u1 u2 u3 : Value), td = .pointer (some ⟨db2, 0, none⟩) ∧ u1 = te ∧ ti = .int .i64 (j : Int) ∧ j ≤ o1.length ∧ u2 = tx ∧ u3 = tf ∧ Hid (Row wr wb 66 (sysC G db lb home want)) ∧ Hid (DevAt w5.heap.size wr db2 y2 (Dev.fresh M)) ∧ Hid (Sys.Lost G want want (13000 + 5000 * j) M ∧ sized M ∧ (M.length : Int) = G.blocks) ∧ Hid (Below w.heap.size w wr)) (fun _ _ ti _ _ _ => o1.length - (intOf ti).toNat)
        case atStart => exact ⟨0, db2, y2, M, _, _, _, rfl, rfl, rfl, by omega, rfl, rfl, RW6, HD6, HLM, HB6⟩
        case round =>
          clear RW6 HD6 HLM HB6
          obtain ⟨j, db2, y2, M, u1, u2, u3, rfl, rfl, rfl, hj, rfl, rfl, RW, HD, HLM, HB⟩ := hrel
          have k0 := RW.out.cellAt 0 rfl
          have k1 := RW.out.cellAt 1 rfl
          have k2 := RW.out.cellAt 2 rfl
          have k3 := RW.out.cellAt 3 rfl
          have k4 := RW.out.cellAt 4 rfl
          have k5 := RW.out.cellAt 5 rfl
          have k6 := RW.out.cellAt 6 rfl
          have k7 := RW.out.cellAt 7 rfl
          have k8 := RW.out.cellAt 8 rfl
          by_cases hlt : j < o1.length
          · have i1 : (j : Int) < (o1.length : Int) := by omega
            obtain ⟨go, oo, ad2, cap2, rfl, d0, d1, hbo, hkl, hat⟩ := HFT.out.at j hlt
            have HBO := Lib.hid hbo
            have HD0 := Lib.hid d0
            have HD1 := Lib.hid d1
            clear hbo d0 d1
            generalize (o1.getD j fail0).keep = keep at *
            generalize (o1.getD j fail0).at_ = AT at *
            have e0 := below_keep HB.out (Nat.le_refl _) HD0.out
            have e1 := below_keep HB.out (Nat.le_refl _) HD1.out
            by_cases hk1000 : 1000 < keep.length
            · have ik : (1000 : Int) < (keep.length : Int) := by omega
              clear k0 k1 k2 k3 k4 k5 k6 k7 k8
              go_wp2_with fail
              go_ret
              exact ⟨rfl, HB.out⟩
            · have ik : ¬ (1000 : Int) < (keep.length : Int) := by omega
              clear hk1000
              have hm60 : ((AT : Int)).tmod 30 = ((AT % 30 : Nat) : Int) := by rw [Int.tmod_eq_emod_of_nonneg (by omega)]; omega
              have hm61 : ((AT : Int)) % 30 = ((AT % 30 : Nat) : Int) := by omega
              have h60 : AT % 30 < 30 := Nat.mod_lt _ (by decide)
              obtain ⟨AM, hAM⟩ : ∃ AM, AT % 30 = AM := ⟨_, rfl⟩
              rw [hAM] at hm60 hm61 h60
              clear hAM
              have hwA : IntKind.i64.wrap (AM : Int) = (AM : Int) := IntWalk.i64_in _ (by omega)
              have qArm : Hid (∀ wz, DevAt w5.heap.size wz db2 y2 (Dev.fresh M) → Calls Tryz.prog 42 #[.pointer (some ⟨db2, 0, none⟩), .int .i64 (AM : Int)] wz fun e w' => e = .returned (.tuple #[]) ∧ DevAt w5.heap.size w' db2 y2 ((Dev.fresh M).arm (AM : Int)) ∧ Only (devB db2 y2) wz w') := Lib.hid (fun wz hz => (arm_any hz (AM : Int) (by omega)).mono fun e w' hh => ⟨hh.1, hh.2.1, hh.2.2.sub (by simp [devB])⟩)
              obtain ⟨a1, q1, l2, h, hh, hRep⟩ := Sys.replay (K := 13000 + 5000 * j) (D := (Dev.fresh M).arm (AM : Int)) hg.out (((Dev.Ok.fresh M HLM.out.2.1).arm (AM : Int)).mono (by omega)) rfl HLM.out.2.2 HWL.out HWL.out HLM.out.1
              obtain rfl : h = want := hh.elim id id
              have qR1 : Hid (∀ (wz : World), DevAt w5.heap.size wz db2 y2 ((Dev.fresh M).arm (AM : Int)) → Calls Tryz.prog 15 #[.pointer (some ⟨db2, 0, none⟩), .agg (Geo.cells G)] wz fun e w' => ∃ ad n cap E D', e = .returned (.tuple #[.slice ad n cap, .int .i64 E]) ∧ DevAt w5.heap.size w' db2 y2 D' ∧ Only (devB db2 y2) wz w' ∧ (E = 0 ∨ (E = 61 ∧ n = 0)) ∧ Sys.Dead G D' h h (13000 + 5000 * (j + 1))) := Lib.hid (fun wz hz => by
                refine (replay_sys hRep hg.out hz (((Dev.Ok.fresh M HLM.out.2.1).arm (AM : Int)).mono (by omega)) rfl HLM.out.2.2 (by omega)).mono ?_
                rintro e w' ⟨v, E, D', he, hd', ho', hc | ⟨c1, c2, _, c4⟩⟩
                · obtain ⟨⟨rfl, _, _, _, ⟨a, q, c5⟩, _⟩, c7⟩ := hc
                  obtain ⟨ad, cap, rfl⟩ := c7.at.form
                  exact ⟨ad, _, cap, 0, D', he, hd', ho', .inl rfl, (c5.dead h).mono (by omega)⟩
                · subst c1 c2
                  exact ⟨none, 0, 0, 61, D', he, hd', ho', .inr ⟨rfl, rfl⟩, c4.mono (by omega)⟩)
              clear hRep hh
              unfold Geo.cells at qR1
              go_upto_region 21 with (first | (go_at_call 42; (with_reducible refine (qArm.out _ HD.out).mono ?_); rintro e w4 ⟨rfl, hd4, ho4⟩) | fail "none")
              have HDB : Hid (∀ k ∈ devB db2 y2, w5.heap.size ≤ k) := Lib.hid (fun k hk => by have := HD.out.bounds; simp [devB] at hk; omega)
              have RW4 := Lib.hid (ho4.row RW.out (fun hm => by have := HDB.out _ hm; have := HWB.out.1; omega))
              have HB4 := Lib.hid (HB.out.trans (ho4.below HB.out.size (fun k hk => by have := HDB.out k hk; have := HWB.out.2; omega)))
              have HD4 := Lib.hid hd4
              clear k0 k1 k2 k3 k4 k5 k6 k7 k8 e0 e1 hd4 ho4 HD qArm RW HB hm60 hm61 h60 hwA ik
              have k0 := RW4.out.cellAt 0 rfl
              have k1 := RW4.out.cellAt 1 rfl
              have k2 := RW4.out.cellAt 2 rfl
              have k3 := RW4.out.cellAt 3 rfl
              have k4 := RW4.out.cellAt 4 rfl
              have k5 := RW4.out.cellAt 5 rfl
              have k6 := RW4.out.cellAt 6 rfl
              have k7 := RW4.out.cellAt 7 rfl
              have k8 := RW4.out.cellAt 8 rfl
              have qR4 := Lib.hid (qR1.out _ HD4.out)
              go_upto_region 22 with (first | (go_at_call 15; (with_reducible refine qR4.out.mono ?_); rintro e w7 ⟨ad7, n7, cap7, E7, D7, rfl, hd7, ho7, hE7, hdd7⟩) | fail "none")
              have RW7 := Lib.hid (ho7.row RW4.out (fun hm => by have := HDB.out _ hm; have := HWB.out.1; omega))
              have HB7 := Lib.hid (HB4.out.trans (ho7.below HB4.out.size (fun k hk => by have := HDB.out k hk; have := HWB.out.2; omega)))
              have HD7 := Lib.hid hd7
              have HDD7 := Lib.hid hdd7
              obtain ⟨hl1, hszM, hbM⟩ := hdd7.crashed keep
              obtain ⟨M2, hM2⟩ : ∃ M2, D7.crash keep = M2 := ⟨_, rfl⟩
              have qCr : Hid (∀ wz, DevAt w5.heap.size wz db2 y2 D7 → BoolsAt wz ad2 keep → Calls Tryz.prog 44 #[.pointer (some ⟨db2, 0, none⟩), .slice ad2 keep.length cap2] wz fun e w' => e = .returned (.string (txt (cat M2))) ∧ Below wz.heap.size wz w') := Lib.hid (fun wz hz hk => by
                rw [← hM2]
                exact crash_any hz HDD7.out.dok.kept HDD7.out.dok.now ad2 cap2 keep hk hkl)
              rw [hM2] at hl1 hszM hbM
              have HLM2 : Hid (Sys.Lost G h h (13000 + 5000 * (j + 1)) M2 ∧ sized M2 ∧ (M2.length : Int) = G.blocks) := Lib.hid ⟨hl1, hszM, hbM⟩
              have HB7o : Hid (BoolsAt w7 ad2 keep) := Lib.hid (HBO.out.below HB7.out)
              have e17 := below_keep HB7.out (Nat.le_refl _) HD1.out
              clear k0 k1 k2 k3 k4 k5 k6 k7 k8 hd7 ho7 hdd7 qR4 qR1 RW4 HB4 HD4 hl1 hszM hbM hM2 HDD7 HLM
              rcases hE7 with rfl | ⟨rfl, rfl⟩
              · go_upto_region 24 with fail
                go_upto_region 17 with (first | (go_at_call 44; (with_reducible refine (qCr.out _ HD7.out HB7o.out).mono ?_); rintro e w8 ⟨rfl, hb8⟩) | (go_at_call 24; (with_reducible refine (qOp.out M2 _ HLM2.out.2.1 HLM2.out.2.2).mono ?_); rintro e w9 ⟨db3, rfl, ⟨y3, hd9⟩, hb9⟩) | fail "none")
                have RW9 := Lib.hid ((RW7.out.below hb8 RW7.out.lt).below hb9 (RW7.out.below hb8 RW7.out.lt).lt)
                have HB9 := Lib.hid (below_next (below_next HB7.out hb8) hb9)
                have HD9 := Lib.hid (hd9.monoS (show w5.heap.size ≤ w8.heap.size by have := HDB.out db2 (by simp [devB]); have := HD7.out.bounds; have := hb8.size; omega))
                clear hb8 hb9 hd9 e17 RW7 HB7 HD7 qCr HB7o
                go_wp2_with fail
                go_roundw
                case rel => exact ⟨j + 1, db3, y3, M2, _, _, _, rfl, rfl, by go_num, by omega, rfl, rfl, RW9, HD9, HLM2, HB9⟩
                case measure => simp [intOf]; omega
              · go_upto_region 24 with fail
                go_upto_region 17 with (first | (go_at_call 44; (with_reducible refine (qCr.out _ HD7.out HB7o.out).mono ?_); rintro e w8 ⟨rfl, hb8⟩) | (go_at_call 24; (with_reducible refine (qOp.out M2 _ HLM2.out.2.1 HLM2.out.2.2).mono ?_); rintro e w9 ⟨db3, rfl, ⟨y3, hd9⟩, hb9⟩) | fail "none")
                have RW9 := Lib.hid ((RW7.out.below hb8 RW7.out.lt).below hb9 (RW7.out.below hb8 RW7.out.lt).lt)
                have HB9 := Lib.hid (below_next (below_next HB7.out hb8) hb9)
                have HD9 := Lib.hid (hd9.monoS (show w5.heap.size ≤ w8.heap.size by have := HDB.out db2 (by simp [devB]); have := HD7.out.bounds; have := hb8.size; omega))
                clear hb8 hb9 hd9 e17 RW7 HB7 HD7 qCr HB7o
                go_wp2_with fail
                go_roundw
                case rel => exact ⟨j + 1, db3, y3, M2, _, _, _, rfl, rfl, by go_num, by omega, rfl, rfl, RW9, HD9, HLM2, HB9⟩
                case measure => simp [intOf]; omega
          · have i1 : ¬ (j : Int) < (o1.length : Int) := by omega
            obtain ⟨a1, q1, l2, h, hh, hRep⟩ := Sys.replay (K := 13000 + 5000 * j) (D := Dev.fresh M) hg.out ((Dev.Ok.fresh M HLM.out.2.1).mono (by omega)) rfl HLM.out.2.2 HWL.out HWL.out HLM.out.1
            obtain rfl : h = want := hh.elim id id
            have qR1 : Hid (∀ (wz : World), DevAt w5.heap.size wz db2 y2 (Dev.fresh M) → Calls Tryz.prog 15 #[.pointer (some ⟨db2, 0, none⟩), .agg (Geo.cells G)] wz fun e w' => ∃ v D', e = .returned (.tuple #[v, .int .i64 0]) ∧ DevAt w5.heap.size w' db2 y2 D' ∧ Only (devB db2 y2) wz w' ∧ Sys.AtHome G h D'.now ∧ (D'.kept.length : Int) = G.blocks) := Lib.hid (fun wz hz => by
              refine (replay_sys hRep hg.out hz ((Dev.Ok.fresh M HLM.out.2.1).mono (by omega)) rfl HLM.out.2.2 (by omega)).mono ?_
              rintro e w' ⟨v, E, D', he, hd', ho', hc | ⟨_, _, hc, _⟩⟩
              · obtain ⟨⟨rfl, _, _, _, ⟨a, q, c5⟩, _⟩, c7⟩ := hc
                exact ⟨v, D', he, hd', ho', c5.atHome, c5.blocks⟩
              · cases hc)
            clear hRep hh
            unfold Geo.cells at qR1
            have HDB : Hid (∀ k ∈ devB db2 y2, w5.heap.size ≤ k) := Lib.hid (fun k hk => by have := HD.out.bounds; simp [devB] at hk; omega)
            have qR4 := Lib.hid (qR1.out _ HD.out)
            go_upto_region 28 with (first | (go_at_call 15; (with_reducible refine qR4.out.mono ?_); rintro e w7 ⟨v7, D7, rfl, hd7, ho7, hat7, hbl7⟩) | fail "none")
            have RW7 := Lib.hid (ho7.row RW.out (fun hm => by have := HDB.out _ hm; have := HWB.out.1; omega))
            have HB7 := Lib.hid (HB.out.trans (ho7.below HB.out.size (fun k hk => by have := HDB.out k hk; have := HWB.out.2; omega)))
            have HD7 := Lib.hid hd7
            have SGw := Lib.hid (RW7.out.wantSeg HHM.out)
            have qH1 : Hid (Calls Tryz.prog 41 #[.pointer (some ⟨wb, 0, none⟩), .pointer (some ⟨db2, 0, none⟩), .agg (bcells h).toArray] w7 fun e w' => e = .returned (.bool true) ∧ Below w7.heap.size w7 w') := Lib.hid (by
              have := has_any w7 RW7.out HD7.out hg.out hbl7 hat7 HWL.out HWL.out
              rwa [decide_eq_true rfl] at this)
            clear k0 k1 k2 k3 k4 k5 k6 k7 k8 hd7 ho7 hat7 hbl7 qR4 qR1 RW HB HD HLM
            go_wp2_with (first | refine wpList_load_segw (by simp [Region.wanted, yielded]; done) _ _ rfl wb 23 rfl (bcells h) _ SGw.out Tryz.underlying64 rfl (by rw [bcells_length, HWL.out]; kernel_rfl) ?_ | (go_at_call 41; (with_reducible refine qH1.out.mono ?_); rintro e w8 ⟨rfl, hb8⟩) | (go_at_call 14; (with_reducible refine (qA.out _).mono ?_); rintro e w16 ⟨rfl, hb16⟩) | fail "none")
            go_ret
            exact ⟨rfl, below_next (below_next HB7.out hb8) hb16⟩
end Go.Proofs.YtnpdhidliaahbaaGreat
