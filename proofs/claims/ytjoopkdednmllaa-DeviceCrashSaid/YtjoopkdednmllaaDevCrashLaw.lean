/- The law DeviceCrash: its walk. -/
import Derived.Test.YtjoopkdednmllaaDevCrashMath
namespace Go.Proofs.Ytjoopkdednmllaa
open Go Go.RowKit
variable {B b : Nat} {w : World} {y : Lay} {D : Dev}

def allTo (n j : Nat) : List Value := List.replicate j (.bool true) ++ List.replicate (n - j) (.bool false)
theorem allTo_length (n j : Nat) (h : j ≤ n) : (allTo n j).length = n := by simp [allTo]; omega
theorem allTo_set (n j : Nat) (h : j < n) : (allTo n j).set j (.bool true) = allTo n (j + 1) := by
  unfold allTo
  rw [List.set_append_right _ _ (by simp), List.length_replicate, Nat.sub_self, show n - j = (n - (j + 1)) + 1 by omega, List.replicate_succ, List.set_cons_zero, List.replicate_succ']
  simp

set_option maxRecDepth 100000 in
set_option maxHeartbeats 4000000 in
theorem DeviceCrash_walk (x : UInt8) (ad : Option Addr) (cap : Nat) (l : List ActV) (ad2 : Option Addr) (cap2 : Nat) (keep : List Bool) (h1 : ActsIn w ad cap l) (h2 : BoolsIn w ad2 cap2 keep) :
    Calls Try.prog 5 #[bval x, .slice ad l.length cap, .slice ad2 keep.length cap2] w fun e w' => e = .returned (.bool true) ∧ Below w.heap.size w w' := by
  have hg := Lib.hid (great_any ad cap l h1)
  have H1 := Lib.hid h1
  have H2 := Lib.hid h2.at
  have hlen := h1.len
  have hlen2 := h2.2
  have hp := Lib.hid (fun w (h : ActsIn w ad cap l) hl => played_any x ad cap l h hl)
  have hk : ∃ n : Int, bval x = .int .u8 n := ⟨_, rfl⟩
  have hok := fun j => (zeros_ok (1 + x.toNat % 20)).plays l j
  have hcl := fun j => (zeros_clean (1 + x.toNat % 20)).plays (zeros_ok (1 + x.toNat % 20)) l j
  generalize zeros (1 + x.toNat % 20) = D0 at *
  generalize bval x = vx at *
  obtain ⟨xn, rfl⟩ := hk
  have hal := Lib.hid (fun w => alive_any w)
  clear h1 h2
  go_enter Try.func5, Try.ntmps5
  go_wp2_with fail
  refine hg.out.mono ?_
  rintro e w1 ⟨g, rfl, b1, hg1⟩
  have B1 := Lib.hid b1
  have G := Lib.hid hg1
  clear b1 hg1
  cases g
  case true =>
    go_wp2_with fail
    go_ret
    exact ⟨rfl, B1.out⟩
  by_cases hk1000 : (1000 : Int) < (keep.length : Int)
  · go_wp2_with fail
    go_ret
    exact ⟨rfl, B1.out⟩
  have hl120 := Lib.hid (G.out.out rfl)
  go_wp2_with fail
  refine (hp.out _ (H1.out.below B1.out) hl120.out).mono ?_
  rintro e w2 ⟨b, rfl, ⟨y, d2⟩, b2⟩
  have HOK := Lib.hid (hok l.length)
  have HCL := Lib.hid (hcl l.length)
  generalize D0.plays l l.length = D at *
  have B2 := Lib.hid (B1.out.trans (b2.mono B1.out.size))
  have D2 : Hid (DevAt w.heap.size w2 b y D) := Lib.hid ⟨Nat.le_trans B1.out.size d2.own, d2.cells, own_mono d2.kept B1.out.size, own_mono d2.now B1.out.size, own_mono d2.pend B1.out.size, d2.ne, d2.pos, d2.left, d2.acts⟩
  clear b2 d2 hp hok hcl
  have k1 := Lib.hid (pending_any D2.out)
  have hn0 : Hid (D.pend.length = D.kept.length) := Lib.hid HOK.out.plen
  have hpos := D2.out.pos
  have hPn : Hid ((pendTo D.pend D.pend.length).length ≤ 4096) := Lib.hid (by have := pendTo_length D.pend D.pend.length; have := hn0.out; omega)
  have hPI : Hid (∀ w' ad n cap, w'.ownsRow w2.heap.size 3 1 (.slice ad n cap) n (natVs (pendTo D.pend D.pend.length)) → IntsIn w' ad ((pendTo D.pend D.pend.length).map fun (n : Nat) => (n : Int))) := Lib.hid (fun w' ad n cap h => intsIn_own h)
  have hca := Lib.hid (crash_all D l.length HOK.out HCL.out)
  have hcn := Lib.hid (crash_none D l.length HOK.out)
  have hsz : ∀ L : List ByteArray, sized L → (txt (cat L)).size = L.length * 128 := fun L h => by
    show (List.toArray _).size = _; rw [List.size_toArray, cat_length _ h]
  have z1 : (txt (cat D.now)).size = D.kept.length * 128 := by rw [hsz _ HOK.out.now, HOK.out.len]
  have z2 : (txt (cat D.kept)).size = D.kept.length * 128 := hsz _ HOK.out.kept
  have z3 : (txt (cat (D.crash keep))).size = D.kept.length * 128 := by rw [hsz _ (crash_sized D l.length HOK.out keep), crash_length]
  obtain ⟨P, hP⟩ : ∃ P, pendTo D.pend D.pend.length = P := ⟨_, rfl⟩
  have HP := Lib.hid hP
  rw [hP] at k1 hPn hPI
  have hrk : rank D.pend D.pend.length = P.length := by unfold rank; rw [hP]
  rw [hrk] at hca
  clear hP hrk hsz
  have hPn' := hPn.out
  obtain ⟨ib, hib, hzb, hsb, hbb⟩ := info_parts info_bool
  have hmk : ∀ wx : World, (Instr.makeSlice 32 (.int .i64 (P.length : Int)) (.int .i64 (P.length : Int))).run Try.prog wx = .ok (.slice (some ⟨wx.heap.size, 0, none⟩) P.length P.length) (wx.alloc (.cells (allTo P.length 0).toArray 4)) := fun wx => by
    have hr := run_make (P := Try.prog) wx 32 4 ib (.bool false) Try.underlying32 hib hzb .i64 .i64 P.length P.length (by omega) (by omega) (by rw [hbb]; omega) (by omega)
    have e : allTo P.length 0 = List.replicate P.length (.bool false) := by simp [allTo]
    rw [e]
    simpa [hsb, Value.cells, madeCells_one] using hr
  clear hib hzb hsb hbb hPn'
  go_wp2_with fail
  refine k1.out.mono ?_
  rintro e w3 ⟨v, rfl, ho3, b3⟩
  obtain ⟨ad3, cap3, rfl, _⟩ := own_opens ho3
  have I3 := Lib.hid (hPI.out _ _ _ _ ho3)
  have B3 := Lib.hid (B2.out.trans (b3.mono B2.out.size))
  have D3 := Lib.hid (D2.out.below b3)
  clear b3 D2 B2 k1 ho3 hPI
  have k2 := Lib.hid (readall_any D3.out HOK.out.now)
  have k3 := Lib.hid (kept_any D3.out HOK.out.kept)
  go_wp2_with fail
  refine k2.out.mono ?_
  rintro e w4 ⟨rfl, rfl⟩
  go_wp2_with fail
  refine k3.out.mono ?_
  rintro e w4 ⟨rfl, b4⟩
  have B4 := Lib.hid (B3.out.trans (b4.mono B3.out.size))
  have D4 := Lib.hid (D3.out.below b4)
  have I4 := Lib.hid (I3.out.below b4)
  clear b4 D3 B3 I3 k2 k3
  have hPb := hPn.out
  have hR0 : Hid (Row (w4.alloc (.cells (allTo P.length 0).toArray 4)) w4.heap.size 4 (allTo P.length 0)) := Lib.hid (Row.new w4 _ _ rfl)
  have hB0 : Hid (Below w4.heap.size w4 (w4.alloc (.cells (allTo P.length 0).toArray 4))) := Lib.hid ((Below.refl _ _).alloc (Nat.le_refl _) _)
  go_wp2_with fail
  clear hmk
  go_loopw [12] (fun q wr => ∃ j : Nat, j ≤ P.length ∧ q = .int .i64 j ∧ Hid (Row wr w4.heap.size 4 (allTo P.length j)) ∧ Hid (Below w4.heap.size w4 wr)) (fun q _ => P.length - (intOf q).toNat)
  case atStart => exact ⟨0, by omega, rfl, hR0, hB0⟩
  case round =>
    obtain ⟨j, hj, rfl, hr, hb⟩ := hrel
    by_cases hlt : j < P.length
    · have i1 : (j : Int) < (P.length : Int) := by omega
      have i0 : (0 : Int) ≤ (j : Int) := by omega
      have hl := allTo_length P.length j hj
      have hc := hr.out.cellAt j (List.getElem?_eq_getElem (by rw [hl]; exact hlt))
      have hf := hr.out.free j (by rw [hl]; exact hlt)
      generalize (allTo P.length j)[j]'(by rw [hl]; exact hlt) = old at hc
      clear hl
      go_wp2_with fail
      go_roundw
      case rel =>
        refine ⟨j + 1, by omega, by go_num, Lib.hid ?_, Lib.hid (hb.out.setCell (by dsimp only; omega) _)⟩
        have := hr.out.set j (.bool true)
        rwa [allTo_set _ j hlt] at this
      case measure => simp [intOf]; omega
    · obtain rfl : j = P.length := by omega
      have hBA : Hid (BoolsAt wr (some ⟨w4.heap.size, 0, none⟩) (List.replicate P.length true)) := Lib.hid (fun i hi => by
        refine ⟨_, _, rfl, ?_⟩
        rw [Nat.zero_add, List.length_replicate] at *
        have e : allTo P.length P.length = List.replicate P.length (.bool true) := by simp [allTo]
        rw [hr.out.cell, e]
        simp [List.getD, hi])
      have B5 := Lib.hid (B4.out.trans (hb.out.mono B4.out.size))
      have D5 := Lib.hid (D4.out.below hb.out)
      have I5 := Lib.hid (I4.out.below hb.out)
      generalize w4.heap.size = ga at *
      clear B4 D4 I4 hB0 hR0 hr hb
      have K5 := Lib.hid (H2.out.below B5.out)
      have c1 := Lib.hid (crash_any D5.out HOK.out.kept HOK.out.now ad2 cap2 keep K5.out (by omega))
      go_wp2_with fail
      refine c1.out.mono ?_
      rintro e w6 ⟨rfl, b6⟩
      have B6 := Lib.hid (B5.out.trans (b6.mono B5.out.size))
      have D6 := Lib.hid (D5.out.below b6)
      have I6 := Lib.hid (I5.out.below b6)
      have A6 := Lib.hid (hBA.out.below b6)
      clear b6 B5 D5 I5 hBA K5 c1
      have c2 : Hid (Calls Try.prog 31 #[.pointer (some ⟨b, 0, none⟩), .slice (some ⟨ga, 0, none⟩) P.length P.length] w6 fun e w' => e = .returned (.string (txt (cat D.now))) ∧ Below w6.heap.size w6 w') := Lib.hid (by
        have := crash_any D6.out HOK.out.kept HOK.out.now (some ⟨ga, 0, none⟩) P.length (List.replicate P.length true) A6.out (by simp; omega)
        rwa [List.length_replicate, hca.out] at this)
      go_wp2_with fail
      refine c2.out.mono ?_
      rintro e w7 ⟨rfl, b7⟩
      have B7 := Lib.hid (B6.out.trans (b7.mono B6.out.size))
      have D7 := Lib.hid (D6.out.below b7)
      have I7 := Lib.hid (I6.out.below b7)
      clear b7 B6 D6 I6 A6 c2
      have c3 : Hid (Calls Try.prog 31 #[.pointer (some ⟨b, 0, none⟩), .slice none 0 0] w7 fun e w' => e = .returned (.string (txt (cat D.kept))) ∧ Below w7.heap.size w7 w') := Lib.hid (by
        have := crash_any D7.out HOK.out.kept HOK.out.now none 0 [] (fun i hi => absurd hi (Nat.not_lt_zero _)) (by simp)
        rwa [hcn.out] at this)
      go_wp2_with fail
      refine c3.out.mono ?_
      rintro e w8 ⟨rfl, b8⟩
      have B8 := Lib.hid (B7.out.trans (b8.mono B7.out.size))
      have D8 := Lib.hid (D7.out.below b8)
      have I8 := Lib.hid (I7.out.below b8)
      clear b8 B7 D7 I7 c3
      have s1 : Hid (∀ i, i < D.kept.length → (txt (cat D.now)).extract (i * 128) ((i + 1) * 128) = D.now.getD i ⟨#[]⟩) := Lib.hid fun i hi => cat_slice _ HOK.out.now i (by rw [HOK.out.len]; exact hi)
      have s2 : Hid (∀ i, i < D.kept.length → (txt (cat D.kept)).extract (i * 128) ((i + 1) * 128) = D.kept.getD i ⟨#[]⟩) := Lib.hid fun i hi => cat_slice _ HOK.out.kept i hi
      have s3 : Hid (∀ i, i < D.kept.length → (txt (cat (D.crash keep))).extract (i * 128) ((i + 1) * 128) = if D.pend.getD i false = true ∧ keep.getD (rank D.pend i) false = true then D.now.getD i ⟨#[]⟩ else D.kept.getD i ⟨#[]⟩) := Lib.hid fun i hi => by
        rw [cat_slice _ (crash_sized D l.length HOK.out keep) i (by rw [crash_length]; exact hi), crash_at D l.length HOK.out keep i hi]
      have p1 : Hid (∀ i, i < D.kept.length → D.pend.getD i false = true → rank D.pend i < P.length ∧ P.getD (rank D.pend i) 0 = i) := Lib.hid fun i hi h => by
        have hi' : i < D.pend.length := by rw [hn0.out]; exact hi
        rw [← HP.out]
        exact ⟨rank_lt D.pend i _ hi' h, pendTo_at D.pend i _ hi' h⟩
      have p2 : Hid (∀ i, i < D.kept.length → D.pend.getD i false = false → rank D.pend i < P.length → P.getD (rank D.pend i) 0 ≠ i) := Lib.hid fun i hi h hr => by
        rw [← HP.out] at hr ⊢
        have := (pendTo_rank D.pend D.pend.length (rank D.pend i) hr).2.1
        intro e; rw [e, h] at this; cases this
      have p3 : Hid (rank D.pend D.kept.length = P.length) := Lib.hid (by rw [← HP.out, hn0.out]; rfl)
      have p4 : Hid (∀ i, i ≤ D.kept.length → rank D.pend i ≤ P.length) := Lib.hid fun i hi => by rw [← p3.out]; exact rank_le _ _ _ hi
      have hq : Hid (∀ i, i < D.kept.length → D.pend.getD i false = false → D.now.getD i ⟨#[]⟩ = D.kept.getD i ⟨#[]⟩) := Lib.hid HCL.out
      have rs := fun i => Lib.hid (rank_succ D.pend i)
      have KR : Hid (∀ w', DevAt w.heap.size w' b y D → Calls Try.prog 37 #[.pointer (some ⟨b, 0, none⟩)] w' fun e w'' => e = .returned (.string (txt (cat D.now))) ∧ w' = w'') := Lib.hid fun w' h => readall_any h HOK.out.now
      have KK : Hid (∀ w', DevAt w.heap.size w' b y D → Calls Try.prog 33 #[.pointer (some ⟨b, 0, none⟩)] w' fun e w'' => e = .returned (.string (txt (cat D.kept))) ∧ Below w'.heap.size w' w'') := Lib.hid fun w' h => kept_any h HOK.out.kept
      have KP : Hid (∀ w', DevAt w.heap.size w' b y D → Calls Try.prog 23 #[.pointer (some ⟨b, 0, none⟩)] w' fun e w'' => ∃ ad c, e = .returned (.slice ad P.length c) ∧ IntsIn w'' ad (P.map fun (n : Nat) => (n : Int)) ∧ Below w'.heap.size w' w'') := Lib.hid fun w' h => by
        have := pending_any h
        rw [HP.out] at this
        refine this.mono ?_
        rintro e w'' ⟨v, rfl, ho, hb⟩
        obtain ⟨ad, c, rfl, _⟩ := own_opens ho
        exact ⟨ad, c, rfl, intsIn_own ho, hb⟩
      have KB : Hid (∀ w', DevAt w.heap.size w' b y D → Calls Try.prog 29 #[.pointer (some ⟨b, 0, none⟩)] w' fun e w'' => e = .returned (.int .i64 D.kept.length) ∧ w' = w'') := Lib.hid fun w' h => blocks_any h
      clear HP hca hcn HCL hn0 HOK
      generalize txt (cat D.now) = NOW at *
      generalize txt (cat D.kept) = WAS at *
      generalize txt (cat (D.crash keep)) = S at *
      generalize D.kept.length = n at *
      obtain ⟨R, hR⟩ : ∃ R : Nat → Nat, ∀ i, rank D.pend i = R i := ⟨_, fun _ => rfl⟩
      obtain ⟨E, hE⟩ : ∃ E : Nat → Bool, ∀ i, D.pend.getD i false = E i := ⟨_, fun _ => rfl⟩
      obtain ⟨Z1, hZ1⟩ : ∃ Z : Nat → ByteArray, ∀ i, D.now.getD i ⟨#[]⟩ = Z i := ⟨_, fun _ => rfl⟩
      obtain ⟨Z2, hZ2⟩ : ∃ Z : Nat → ByteArray, ∀ i, D.kept.getD i ⟨#[]⟩ = Z i := ⟨_, fun _ => rfl⟩
      have r0 : Hid (R 0 = 0) := Lib.hid (by rw [← hR]; rfl)
      simp only [hR, hE, hZ1, hZ2] at s1 s2 s3 p1 p2 p3 p4 hq rs
      clear hR hE hZ1 hZ2
      go_wp2_with fail
      go_loopw [14, 15] (fun k q wr => ∃ i : Nat, i ≤ n ∧ k = .int .i64 (R i) ∧ q = .int .i64 i ∧ Hid (Below w8.heap.size w8 wr)) (fun _ q _ => n - (intOf q).toNat)
      case atStart => exact ⟨0, by omega, by rw [r0.out]; rfl, rfl, Lib.hid (Below.refl _ _)⟩
      case round =>
        obtain ⟨i, hi, rfl, rfl, hb8⟩ := hrel
        have hD := Lib.hid (D8.out.below hb8.out)
        have hB := Lib.hid (B8.out.trans (hb8.out.mono B8.out.size))
        have hblk := Lib.hid (KB.out _ hD.out)
        by_cases hlt : i < n
        · have i1 : (i : Int) < (n : Int) := by omega
          have i0 : (0 : Int) ≤ (i : Int) := by omega
          have e1 := s1.out i hlt
          have e2 := s2.out i hlt
          have e3 := s3.out i hlt
          have rsi := rs i
          have HBk := fun k => Lib.hid (below_drewN hb8.out k)
          have hri := p4.out i hi
          cases hE : E i
          · have hcl := hq.out i hlt hE
            have hnp := p2.out i hlt hE
            rw [hE] at e3 rsi
            simp only [Bool.false_eq_true, false_and, if_false] at e3 rsi
            rw [hcl] at e1
            have r00 : (0 : Int) ≤ (R i : Int) := by omega
            by_cases hr1 : R i < P.length
            · obtain ⟨g3, off3, rfl, c3⟩ := I8.out.below hb8.out (R i) (by rw [List.length_map]; exact hr1)
              have hne := hnp hr1
              have e4 : (P.map fun (n : Nat) => (n : Int)).getD (R i) 0 = ((P.getD (R i) 0 : Nat) : Int) := by simp [List.getD, hr1]
              rw [e4] at c3
              have hne' : ¬ ((P.getD (R i) 0 : Nat) : Int) = (i : Int) := by omega
              clear hnp e4 hne
              generalize ((P.getD (R i) 0 : Nat) : Int) = pv at *
              have r1 : (R i : Int) < (P.length : Int) := by omega
              generalize Z2 i = zw at *
              generalize R i = ri at *
              go_wp2_with fail
              refine hblk.out.mono ?_
              rintro e w9 ⟨rfl, rfl⟩
              go_wp2_with fail
              go_quiet (fail)
              go_wp2_with fail
              go_roundw
              case rel => exact ⟨i + 1, by omega, by rw [rsi.out], by go_num, HBk _⟩
              case measure => simp [intOf]; omega
            · have r1 : ¬ (R i : Int) < (P.length : Int) := by omega
              generalize Z2 i = zw at *
              generalize R i = ri at *
              go_wp2_with fail
              refine hblk.out.mono ?_
              rintro e w9 ⟨rfl, rfl⟩
              go_wp2_with fail
              go_quiet (fail)
              go_wp2_with fail
              go_roundw
              case rel => exact ⟨i + 1, by omega, by rw [rsi.out], by go_num, HBk _⟩
              case measure => simp [intOf]; omega
          · obtain ⟨hr1, hr2⟩ := p1.out i hlt hE
            rw [hE] at e3 rsi
            simp only [true_and, if_true] at e3 rsi
            obtain ⟨g3, off3, rfl, c3⟩ := I8.out.below hb8.out (R i) (by rw [List.length_map]; exact hr1)
            have c3' : wr.cell? ⟨g3, off3 + R i, none⟩ = some (.int .i64 (i : Int)) := by
              rw [c3]
              have : (P.map fun (n : Nat) => (n : Int)).getD (R i) 0 = ((P.getD (R i) 0 : Nat) : Int) := by simp [List.getD, hr1]
              rw [this, hr2]
            have r1 : (R i : Int) < (P.length : Int) := by omega
            have r00 : (0 : Int) ≤ (R i : Int) := by omega
            clear c3
            by_cases hk : R i < keep.length
            · obtain ⟨gk, offk, rfl, ck⟩ := H2.out.below hB.out (R i) hk
              have rk : (R i : Int) < (keep.length : Int) := by omega
              cases hkb : keep.getD (R i) false
              · rw [hkb] at ck e3
                simp only [Bool.false_eq_true, if_false] at e3
                generalize Z1 i = zn at *
                generalize Z2 i = zw at *
                generalize R i = ri at *
                go_wp2_with fail
                refine hblk.out.mono ?_
                rintro e w9 ⟨rfl, rfl⟩
                go_wp2_with fail
                go_quiet (fail)
                go_wp2_with fail
                go_roundw
                case rel => exact ⟨i + 1, by omega, by rw [rsi.out]; go_num, by go_num, HBk _⟩
                case measure => simp [intOf]; omega
              · rw [hkb] at ck e3
                simp only [if_true] at e3
                generalize Z1 i = zn at *
                generalize Z2 i = zw at *
                generalize R i = ri at *
                go_wp2_with fail
                refine hblk.out.mono ?_
                rintro e w9 ⟨rfl, rfl⟩
                go_wp2_with fail
                go_quiet (fail)
                go_wp2_with fail
                go_roundw
                case rel => exact ⟨i + 1, by omega, by rw [rsi.out]; go_num, by go_num, HBk _⟩
                case measure => simp [intOf]; omega
            · have hkb : keep.getD (R i) false = false := by simp [List.getD, List.getElem?_eq_none (Nat.not_lt.1 hk)]
              have rk : ¬ (R i : Int) < (keep.length : Int) := by omega
              rw [hkb] at e3
              simp only [Bool.false_eq_true, if_false] at e3
              generalize Z1 i = zn at *
              generalize Z2 i = zw at *
              generalize R i = ri at *
              go_wp2_with fail
              refine hblk.out.mono ?_
              rintro e w9 ⟨rfl, rfl⟩
              go_wp2_with fail
              go_quiet (fail)
              go_wp2_with fail
              go_roundw
              case rel => exact ⟨i + 1, by omega, by rw [rsi.out]; go_num, by go_num, HBk _⟩
              case measure => simp [intOf]; omega
        · obtain rfl : i = n := by omega
          rw [p3.out]
          go_wp2_with fail
          refine hblk.out.mono ?_
          rintro e w9 ⟨rfl, rfl⟩
          have kr := Lib.hid (KR.out _ hD.out)
          have kk := Lib.hid (KK.out _ hD.out)
          go_wp2_with fail
          refine kr.out.mono ?_
          rintro e w9 ⟨rfl, rfl⟩
          go_wp2_with fail
          refine kk.out.mono ?_
          rintro e w10 ⟨rfl, b10⟩
          have B10 := Lib.hid (hB.out.trans (b10.mono hB.out.size))
          have D10 := Lib.hid (hD.out.below b10)
          have I10 := Lib.hid ((I8.out.below hb8.out).below b10)
          have kp := Lib.hid (KP.out _ D10.out)
          clear b10
          go_wp2_with fail
          refine kp.out.mono ?_
          rintro e w11 ⟨ad11, c11, rfl, i11, b11⟩
          have B11 := Lib.hid (B10.out.trans (b11.mono B10.out.size))
          have ks : Hid (Calls Try.prog 24 #[.slice ad11 P.length c11, .slice ad3 P.length cap3] w11 fun e w' => e = .returned (.bool true) ∧ Below w11.heap.size w11 w') := Lib.hid (by
            have := sameInts_any (w := w11) ad11 ad3 c11 cap3 _ _ i11 (I10.out.below b11) (by rw [List.length_map]; omega) (by rw [List.length_map]; omega)
            rwa [List.length_map, decide_eq_true rfl] at this)
          clear b11 i11
          go_wp2_with fail
          refine ks.out.mono ?_
          rintro e w12 ⟨rfl, b12⟩
          have B12 := Lib.hid (B11.out.trans (b12.mono B11.out.size))
          clear b12
          go_wp2_with fail
          refine (hal.out _).mono ?_
          rintro e w13 ⟨rfl, b13⟩
          have B13 := Lib.hid (B12.out.trans (b13.mono B12.out.size))
          clear b13
          go_wp2_with fail
          go_ret
          exact ⟨rfl, B13.out⟩

end Go.Proofs.Ytjoopkdednmllaa
