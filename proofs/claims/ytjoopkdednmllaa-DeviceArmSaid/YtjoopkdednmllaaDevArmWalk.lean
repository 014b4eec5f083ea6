/- The law DeviceArm: the walk. -/
import Derived.Test.YtjoopkdednmllaaDevArmLaw
import Derived.Deep.CutRange
namespace Go.Proofs.Ytjoopkdednmllaa
open Go Go.RowKit
variable {B b : Nat} {w : World} {y : Lay} {D : Dev}

/-- Behind one act that both were told. -/
structure Told2 (D C : Dev) (n done : Nat) (e1 e2 : Int) : Prop where
  over : done = n → e1 ≠ 0 ∧ Twin D C n done
  same : done < n → e1 = e2
  no : done < n → e1 ≠ 0 → Twin D C n done
  yes : done < n → e1 = 0 → Twin D C n (done + 1)

theorem plain7 (D : Dev) (hp : 0 < D.kept.length) (ha : D.armed = false) (t : ByteArray) (ht : t.size = 128) : D.writeE 0 t = 0 ∧ (D.write 0 t).flushE = 0 ∧ (D.write 0 t).flush.acts = D.acts + 2 := by
  have h1 : D.writeE 0 t = 0 := by
    unfold Dev.writeE Dev.ask Dev.dead
    rw [if_neg (show ¬ ((0 : Int) < 0 ∨ (D.kept.length : Int) ≤ 0) by omega), ha]
    simp [ht]
  have h2 : D.write 0 t = D.acted.put (0 : Int).toNat t := by unfold Dev.write; rw [if_pos h1]
  have h3 : (D.write 0 t).dead = false := by rw [h2]; unfold Dev.dead; show (D.armed && _) = _; rw [ha]; rfl
  refine ⟨h1, by unfold Dev.flushE; rw [h3]; rfl, ?_⟩
  have h4 : (D.write 0 t).flush = (D.write 0 t).acted.flushed := by unfold Dev.flush; rw [h3]; rfl
  rw [h4, h2]
  show D.acts + 1 + 1 = _
  omega

set_option maxRecDepth 100000 in
set_option maxHeartbeats 8000000 in
theorem DeviceArm_walk (x : UInt8) (ad : Option Addr) (cap : Nat) (l : List ActV) (k : UInt8) (h1 : ActsIn w ad cap l) :
    Calls Try.prog 7 #[bval x, .slice ad l.length cap, bval k] w fun e w' => e = .returned (.bool true) ∧ Below w.heap.size w w' := by
  have hal := Lib.hid (fun w => alive_any w)
  have hg := Lib.hid (great_any ad cap l h1)
  have H1 := Lib.hid h1
  have hlen := h1.len
  clear h1
  have hx := x.toNat_lt
  obtain ⟨n, hn⟩ : ∃ n, n = 1 + x.toNat % 20 := ⟨_, rfl⟩
  have hn20 : 1 ≤ n ∧ n ≤ 20 := by omega
  have hwz : wrap64 (1 + wrap64 (Int.tmod (x.toNat : Int) 20)) = (n : Int) := by
    rw [Int.tmod_eq_emod_of_nonneg (by omega)]; unfold wrap64; omega
  have hnew := Lib.hid (fun w => newdev_any (w := w) n (by omega))
  have hkk := k.toNat_lt
  obtain ⟨m, hm⟩ : ∃ m, k.toNat = m := ⟨_, rfl⟩
  have hm256 : m < 256 := by omega
  unfold bval
  rw [hm]
  have hwm : wrap64 (m : Int) = (m : Int) := by unfold wrap64; omega
  generalize (x.toNat : Int) = xi at *
  clear hx hkk hm hn
  go_enter Try.func7, Try.ntmps7
  go_wp2_with fail
  refine hg.out.mono ?_
  rintro e w1 ⟨g, rfl, b1, hg1⟩
  have B1 := Lib.hid b1
  have G := Lib.hid hg1
  clear b1 hg1
  cases g
  case true =>
    go_wp2_with fail
    go_ret
    exact ⟨rfl, B1.out⟩
  have hl120 := Lib.hid (G.out.out rfl)
  go_wp2_with fail
  rw [hwz]
  refine (hnew.out _).mono ?_
  rintro e w2 ⟨b, rfl, ⟨y, d2⟩, b2⟩
  have D2 : Hid (DevAt w.heap.size w2 b y (zeros n)) := Lib.hid ⟨Nat.le_trans B1.out.size d2.own, d2.cells, own_mono d2.kept B1.out.size, own_mono d2.now B1.out.size, own_mono d2.pend B1.out.size, d2.ne, d2.pos, d2.left, d2.acts⟩
  have B2 := Lib.hid (B1.out.trans (b2.mono B1.out.size))
  clear d2 b2 B1
  go_wp2_with fail
  rw [hwz]
  refine (hnew.out _).mono ?_
  rintro e w3 ⟨c, rfl, ⟨z, c3⟩, b3⟩
  have D3 := Lib.hid (D2.out.below b3)
  have C3 : Hid (DevAt w2.heap.size w3 c z (zeros n)) := Lib.hid c3
  have B3 := Lib.hid (B2.out.trans (b3.mono B2.out.size))
  have hdb := Lib.hid D2.out.bounds
  have hcb := Lib.hid C3.out.bounds
  have hw2 := Lib.hid (show w.heap.size ≤ w2.heap.size from B2.out.size)
  have harm := Lib.hid (arm_any D3.out (m : Int) (by omega))
  clear c3 b3 B2 D2 hwz
  go_wp2_with fail
  refine harm.out.mono ?_
  rintro e w4 ⟨rfl, d4, o4⟩
  have D4 := Lib.hid d4
  have C4 := Lib.hid (C3.out.only o4 (by have := hdb.out; have := hcb.out; simp; omega) (by have := hdb.out; have := hcb.out; simp; omega) (by have := hdb.out; have := hcb.out; simp; omega) (by have := hdb.out; have := hcb.out; simp; omega))
  have B4 := Lib.hid (below_only B3.out (Nat.le_refl _) o4 (by have := hdb.out; simp; omega))
  have T4 : Hid (Twin ((zeros n).arm (m : Int)) (zeros n) m 0) := Lib.hid ⟨rfl, rfl, rfl, by show decide (0 ≤ (m : Int)) = true; simp, rfl, by show (m : Int) = _; omega, rfl, rfl, Nat.zero_le _⟩
  have OD : Hid (((zeros n).arm (m : Int)).Ok 0) := Lib.hid ((zeros_ok n).arm _)
  have OC : Hid ((zeros n).Ok 0) := Lib.hid (zeros_ok n)
  clear d4 o4 D3 C3 B3 harm
  go_wp2_with fail
  go_loopw [11, 12] (fun v q wr => ∃ (j done : Nat) (D C : Dev), j ≤ l.length ∧ q = .int .i64 j ∧ v = .int .i64 done ∧ Hid (Twin D C m done) ∧ Hid (D.Ok j) ∧ Hid (C.Ok j) ∧ Hid (DevAt w.heap.size wr b y D) ∧ Hid (DevAt w2.heap.size wr c z C) ∧ Hid (Below w.heap.size w wr)) (fun _ q _ => l.length - (intOf q).toNat)
  case atStart => exact ⟨0, 0, _, _, by omega, rfl, rfl, T4, OD, OC, D4, C4, B4⟩
  case round =>
    obtain ⟨j, done, D, C, hj, rfl, rfl, ht, hod, hoc, hd, hc, hb⟩ := hrel
    have hle := ht.out.le
    by_cases hlt : j < l.length
    · have i1 : (j : Int) < (l.length : Int) := by omega
      obtain ⟨g, off, rfl, c0, c1, c2, c3, c4, c5⟩ := (H1.out.below hb.out).at j hlt
      obtain ⟨hk, hx1, hx2, hdt⟩ := H1.out.okAt j hlt
      have hk2 := hk.2
      clear hk
      have hwhat := fun w => Lib.hid (what_any (l.getD j default) w)
      generalize l.getD j default = X at *
      obtain ⟨kind, xb, xn, fill, data, kad, kcap, keep⟩ := X
      dsimp only [actCells] at c0 c1 c2 c3 c4 c5 hx1 hx2 hk2 hdt hwhat
      unfold bval at c0 c3 hwhat
      have hkz := kind.toNat_lt
      have htm : Int.tmod (kind.toNat : Int) 8 = ((kind.toNat % 8 : Nat) : Int) := by rw [Int.tmod_eq_emod_of_nonneg (by omega)]; omega
      obtain ⟨q, hq⟩ : ∃ q, kind.toNat % 8 = q := ⟨_, rfl⟩
      have hq8 : q < 8 := by omega
      rw [hq] at htm
      have hT : Hid ((ActV.what ⟨kind, xb, xn, fill, data, kad, kcap, keep⟩).size ≤ 9223372036854775807) := Lib.hid (by
        unfold ActV.what; split
        · show (List.toArray _).size ≤ _; simp
        · exact hdt)
      clear hq
      generalize (ActV.what ⟨kind, xb, xn, fill, data, kad, kcap, keep⟩) = T at *
      generalize (kind.toNat : Int) = kz at *
      generalize (fill.toNat : Int) = fz at *
      generalize keep.length = kl at *
      have hdA : Hid (DevAt w.heap.size (wr.alloc (.cells #[.int .u8 kz, .int .i64 xb, .int .i64 xn, .int .u8 fz, .string data, .slice kad kl kcap] 34)) b y D) := Lib.hid (hd.out.below ((Below.refl _ _).alloc (Nat.le_refl _) _))
      have hcA : Hid (DevAt w2.heap.size (wr.alloc (.cells #[.int .u8 kz, .int .i64 xb, .int .i64 xn, .int .u8 fz, .string data, .slice kad kl kcap] 34)) c z C) := Lib.hid (hc.out.below ((Below.refl _ _).alloc (Nat.le_refl _) _))
      have hbA : Hid (Below w.heap.size w (wr.alloc (.cells #[.int .u8 kz, .int .i64 xb, .int .i64 xn, .int .u8 fz, .string data, .slice kad kl kcap] 34))) := Lib.hid (hb.out.alloc hb.out.size _)
      have hacd : D.acts < 1000000000000 := by have := hod.out.acts; have := hl120.out; omega
      have hacc : C.acts < 1000000000000 := by have := hoc.out.acts; have := hl120.out; omega
      have hat := Lib.hid (ActAt.new wr kz xb xn fz data kad kl kcap)
      have hbr := Lib.hid hc.out.bounds
      have hbd := Lib.hid hd.out.bounds
      go_upto_region 13 with fail
      iterate 11 go_step
      go_cut [14, 15] from 52 to 113 (fun u v wx => ∃ (e1 e2 : Int) (D2 C2 : Dev), u = .int .i64 e1 ∧ v = .int .i64 e2 ∧ Hid (Told2 D2 C2 m done e1 e2) ∧ Hid (D2.Ok (j + 1)) ∧ Hid (C2.Ok (j + 1)) ∧ Hid (DevAt w.heap.size wx b y D2) ∧ Hid (DevAt w2.heap.size wx c z C2) ∧ Hid (Below w.heap.size w wx))
      case first =>
        by_cases h5 : 5 ≤ q
        · have k0 : ¬ (q : Int) = 0 := by omega
          have k1 : ¬ (q : Int) = 1 := by omega
          have k2 : ¬ (q : Int) = 2 := by omega
          have k3 : ¬ (q : Int) = 3 := by omega
          have k4 : ¬ (q : Int) = 4 := by omega
          clear hwhat
          go_wp2_with fail
          go_roundw
          case rel => exact ⟨j + 1, done, D, C, by omega, by go_num, rfl, ht, Lib.hid (hod.out.mono (by omega)), Lib.hid (hoc.out.mono (by omega)), hdA, hcA, hbA⟩
          case measure => simp [intOf]; omega
        by_cases h4 : q = 4
        · subst h4
          have ha := Lib.hid (flush_any hdA.out hacd)
          clear hwhat
          by_cases hdm : done = m
          · subst hdm
            have hov := Lib.hid ht.out.over_flush
            rw [hov.out.1, hov.out.2] at ha
            go_wp2_with fail
            refine ha.out.mono ?_
            rintro e w5 ⟨rfl, d5, o5⟩
            have D5 := Lib.hid d5
            have C5 := Lib.hid (hcA.out.only o5 (by have := hbr.out; have := hdb.out; have := hbd.out; simp; omega) (by have := hbr.out; have := hdb.out; have := hbd.out; simp; omega) (by have := hbr.out; have := hdb.out; have := hbd.out; simp; omega) (by have := hbr.out; have := hdb.out; have := hbd.out; simp; omega))
            have B5 := Lib.hid (below_only hbA.out (Nat.le_refl _) o5 (by have := hbd.out; simp; omega))
            clear d5 o5 ha
            go_wp2_with fail
            go_meet
            case rel => exact ⟨_, _, D, C, rfl, rfl, Lib.hid ⟨fun _ => ⟨by decide, ht.out⟩, fun h => by omega, fun h => by omega, fun h => by omega⟩, Lib.hid (hod.out.mono (by omega)), Lib.hid (hoc.out.mono (by omega)), D5, C5, B5⟩
          · have hlm : (done : Int) < (m : Int) := by omega
            have hfl := Lib.hid (ht.out.flush (by omega) (by omega))
            rw [hfl.out.1] at ha
            go_wp2_with fail
            refine ha.out.mono ?_
            rintro e w5 ⟨rfl, d5, o5⟩
            have D5 := Lib.hid d5
            have C5 := Lib.hid (hcA.out.only o5 (by have := hbr.out; have := hdb.out; have := hbd.out; simp; omega) (by have := hbr.out; have := hdb.out; have := hbd.out; simp; omega) (by have := hbr.out; have := hdb.out; have := hbd.out; simp; omega) (by have := hbr.out; have := hdb.out; have := hbd.out; simp; omega))
            have B5 := Lib.hid (below_only hbA.out (Nat.le_refl _) o5 (by have := hbd.out; simp; omega))
            have hc2 := Lib.hid (flush_any C5.out hacc)
            rw [hfl.out.2.1] at hc2
            clear d5 o5 ha
            go_wp2_with fail
            refine hc2.out.mono ?_
            rintro e w6 ⟨rfl, c6, o6⟩
            have C6 := Lib.hid c6
            have D6 := Lib.hid (D5.out.only o6 (by have := hbr.out; have := hdb.out; have := hbd.out; simp; omega) (by have := hbr.out; have := hdb.out; have := hbd.out; simp; omega) (by have := hbr.out; have := hdb.out; have := hbd.out; simp; omega) (by have := hbr.out; have := hdb.out; have := hbd.out; simp; omega))
            have B6 := Lib.hid (below_only B5.out (Nat.le_refl _) o6 (by have := hbr.out; have := hw2.out; simp; omega))
            clear c6 o6 hc2
            go_wp2_with fail
            go_meet
            case rel => exact ⟨_, _, D.flush, C.flush, rfl, rfl, Lib.hid ⟨fun h => absurd h hdm, fun _ => rfl, fun _ h => absurd rfl h, fun _ _ => hfl.out.2.2⟩, Lib.hid hod.out.flush, Lib.hid hoc.out.flush, D6, C6, B6⟩
        · have hq3 : q = 0 ∨ q = 1 ∨ q = 2 ∨ q = 3 := by omega
          go_upto_region 14 with fail
          iterate 15 go_step
          generalize hX : wr.heap.size = X at *
          generalize wr.alloc _ = wx at *
          go_cut [65] from 66 to 69 (fun v wy => v = .bool true ∧ wy = wx)
          case first =>
            clear hwhat
            rcases hq3 with rfl | rfl | rfl | rfl
            all_goals
              go_wp2_with fail
              go_meet
              case rel => exact ⟨rfl, rfl⟩
          obtain ⟨rfl, rfl⟩ := hcut
          obtain ⟨x0, x1, x2, x3, x4, x5⟩ := hat.out
          go_upto_region 19 with fail
          go_region_held3 (fun w' => w'.cell? ⟨X, 0, none⟩ = some (.int .u8 kz) ∧ w'.cell? ⟨X, 1, none⟩ = some (.int .i64 xb) ∧ w'.cell? ⟨X, 2, none⟩ = some (.int .i64 xn) ∧ w'.cell? ⟨X, 3, none⟩ = some (.int .u8 fz) ∧ w'.cell? ⟨X, 4, none⟩ = some (.string data) ∧ w'.cell? ⟨X, 5, none⟩ = some (.slice kad kl kcap))
            (first | exact ⟨x0, x1, x2, x3, x4, x5⟩ | exact ⟨h1.x0, h1.x1, h1.x2, h1.x3, h1.x4, h1.x5⟩ | exact ⟨h2.x0, h2.x1, h2.x2, h2.x3, h2.x4, h2.x5⟩)
            (first | (go_at_call 15; refine ((hwhat _).out).mono ?_; rintro e w4 ⟨rfl, hb4'⟩; have hb4 : Below wc.heap.size wc w4 := ⟨hb4'.os, hb4'.tape, hb4'.output, hb4'.size, hb4'.block⟩; have h1 := ActAt.below ⟨x0, x1, x2, x3, x4, x5⟩ hb4; have d4 := Lib.hid (hdA.out.below hb4)) | (go_at_call 14; refine (write_any d4.out xb T hT.out hacd).mono ?_; rintro e w5 ⟨rfl, d5, o5⟩; have h2 := h1.only o5 (by have := hbd.out; simp; omega)))
          have D5 := Lib.hid d5
          have B5 := Lib.hid (below_only (hbA.out.trans (hb4.mono hbA.out.size)) (Nat.le_refl _) o5 (by have := hbd.out; simp; omega))
          have C5 := Lib.hid ((hcA.out.below hb4).only o5 (by have := hbr.out; have := hbd.out; have := hdb.out; simp; omega) (by have := hbr.out; have := hbd.out; have := hdb.out; simp; omega) (by have := hbr.out; have := hbd.out; have := hdb.out; simp; omega) (by have := hbr.out; have := hbd.out; have := hdb.out; simp; omega))
          obtain ⟨y0, y1, y2, y3, y4, y5⟩ := h2
          clear d5 o5 hb4 hb4' h1 d4 x0 x1 x2 x3 x4 x5
          by_cases hdm : done = m
          · subst hdm
            have hov := Lib.hid (ht.out.over_write xb T)
            rw [hov.out.2] at D5
            generalize hee : D.writeE xb T = ee at *
            go_wp2_with fail
            go_meet
            case rel => exact ⟨_, _, D, C, rfl, rfl, Lib.hid ⟨fun _ => ⟨hov.out.1, ht.out⟩, fun h => by omega, fun h => by omega, fun h => by omega⟩, Lib.hid (hod.out.mono (by omega)), Lib.hid (hoc.out.mono (by omega)), D5, C5, B5⟩
          · have hlm : (done : Int) < (m : Int) := by omega
            have hww := Lib.hid (ht.out.write (by omega) (by omega) xb T)
            go_upto_region 21 with fail
            go_region_held3 (fun w' => w'.cell? ⟨X, 0, none⟩ = some (.int .u8 kz) ∧ w'.cell? ⟨X, 1, none⟩ = some (.int .i64 xb) ∧ w'.cell? ⟨X, 2, none⟩ = some (.int .i64 xn) ∧ w'.cell? ⟨X, 3, none⟩ = some (.int .u8 fz) ∧ w'.cell? ⟨X, 4, none⟩ = some (.string data) ∧ w'.cell? ⟨X, 5, none⟩ = some (.slice kad kl kcap))
              (first | exact ⟨y0, y1, y2, y3, y4, y5⟩ | exact ⟨h1.x0, h1.x1, h1.x2, h1.x3, h1.x4, h1.x5⟩ | exact ⟨h2.x0, h2.x1, h2.x2, h2.x3, h2.x4, h2.x5⟩)
              (first | (go_at_call 15; refine ((hwhat _).out).mono ?_; rintro e w6 ⟨rfl, hb6'⟩; have hb6 : Below w5.heap.size w5 w6 := ⟨hb6'.os, hb6'.tape, hb6'.output, hb6'.size, hb6'.block⟩; have h1 := ActAt.below ⟨y0, y1, y2, y3, y4, y5⟩ hb6; have r6 := Lib.hid (C5.out.below hb6)) | (go_at_call 14; refine (write_any r6.out xb T hT.out hacc).mono ?_; rintro e w7 ⟨rfl, r7, o7⟩; have h2 := h1.only o7 (by have := hbr.out; simp; omega)))
            have C7 := Lib.hid r7
            have D7 := Lib.hid ((D5.out.below hb6).only o7 (by have := hbr.out; have := hbd.out; have := hdb.out; simp; omega) (by have := hbr.out; have := hbd.out; have := hdb.out; simp; omega) (by have := hbr.out; have := hbd.out; have := hdb.out; simp; omega) (by have := hbr.out; have := hbd.out; have := hdb.out; simp; omega))
            have B7 := Lib.hid (below_only (B5.out.trans (hb6.mono B5.out.size)) (Nat.le_refl _) o7 (by have := hbr.out; have := hw2.out; simp; omega))
            clear r7 o7 hb6 hb6' h1 h2 r6
            generalize hee : D.writeE xb T = ee at *
            generalize hee2 : C.writeE xb T = ee2 at *
            go_wp2_with fail
            go_meet
            case rel => exact ⟨_, _, D.write xb T, C.write xb T, rfl, rfl, Lib.hid ⟨fun h => absurd h hdm, fun _ => hww.out.1, fun _ h => hww.out.2.1 h, fun _ h => hww.out.2.2 h⟩, Lib.hid (hod.out.write xb T), Lib.hid (hoc.out.write xb T), D7, C7, B7⟩
      obtain ⟨e1, e2, D2, C2, rfl, rfl, hto, hod2, hoc2, hd2, hc2, hb2⟩ := hcut
      clear hdA hcA hbA hat hwhat hT c0 c1 c2 c3 c4 c5
      by_cases hdm : done = m
      · subst hdm
        obtain ⟨he1, ht2⟩ := hto.out.over rfl
        have hdd := Lib.hid (dead_any hd2.out)
        have hT2 := Lib.hid ht2
        rw [ht2.dead, decide_eq_true rfl] at hdd
        clear ht2
        go_wp2_with fail
        refine hdd.out.mono ?_
        rintro e w5 ⟨rfl, rfl⟩
        go_wp2_with fail
        go_roundw
        case rel => exact ⟨j + 1, done, D2, C2, by omega, by go_num, rfl, hT2, hod2, hoc2, hd2, hc2, hb2⟩
        case measure => simp [intOf]; omega
      · have hlm : ¬ (m : Int) ≤ (done : Int) := by omega
        obtain rfl := hto.out.same (by omega)
        by_cases he : e1 = 0
        · have hT2 := Lib.hid (hto.out.yes (by omega) he)
          subst he
          go_wp2_with fail
          go_roundw
          case rel => exact ⟨j + 1, done + 1, D2, C2, by omega, by go_num, by go_num, hT2, hod2, hoc2, hd2, hc2, hb2⟩
          case measure => simp [intOf]; omega
        · have hT2 := Lib.hid (hto.out.no (by omega) he)
          go_wp2_with fail
          go_roundw
          case rel => exact ⟨j + 1, done, D2, C2, by omega, by go_num, rfl, hT2, hod2, hoc2, hd2, hc2, hb2⟩
          case measure => simp [intOf]; omega
    · obtain rfl : j = l.length := by omega
      have k1 := Lib.hid (readall_any hd.out hod.out.now)
      have k2 := Lib.hid (readall_any hc.out hoc.out.now)
      have k3 := Lib.hid (kept_any hd.out hod.out.kept)
      rw [ht.out.now] at k1
      rw [ht.out.kept] at k3
      generalize txt (cat C.now) = NOW at *
      have hsk := hoc.out.kept
      have kc := Lib.hid (fun w' (h : DevAt w2.heap.size w' c z C) => kept_any h hsk)
      generalize txt (cat C.kept) = KEP at *
      have hPn : Hid ((pendTo C.pend C.pend.length).length ≤ 4096) := Lib.hid (by have := pendTo_length C.pend C.pend.length; have := hoc.out.plen; have := hc.out.pos; omega)
      have hPI : Hid (∀ B w' ad n cap, w'.ownsRow B 3 1 (.slice ad n cap) n (natVs (pendTo C.pend C.pend.length)) → IntsIn w' ad ((pendTo C.pend C.pend.length).map fun (n : Nat) => (n : Int))) := Lib.hid (fun B w' ad n cap h => intsIn_own h)
      have hCP : Hid (∀ w', DevAt w2.heap.size w' c z C → Calls Try.prog 23 #[.pointer (some ⟨c, 0, none⟩)] w' fun e w'' => ∃ v, e = .returned v ∧ w''.ownsRow w'.heap.size 3 1 v (pendTo C.pend C.pend.length).length (natVs (pendTo C.pend C.pend.length)) ∧ Below w'.heap.size w' w'') := Lib.hid (fun w' h => pending_any h)
      have hDP : Hid (∀ w', DevAt w.heap.size w' b y D → Calls Try.prog 23 #[.pointer (some ⟨b, 0, none⟩)] w' fun e w'' => ∃ v, e = .returned v ∧ w''.ownsRow w'.heap.size 3 1 v (pendTo C.pend C.pend.length).length (natVs (pendTo C.pend C.pend.length)) ∧ Below w'.heap.size w' w'') := Lib.hid (fun w' h => by
        have := pending_any h; rw [ht.out.pend] at this; exact this)
      generalize pendTo C.pend C.pend.length = P at *
      have hsame : Hid (∀ w' a1 c1 a2 c2, IntsIn w' a1 (P.map fun (n : Nat) => (n : Int)) → IntsIn w' a2 (P.map fun (n : Nat) => (n : Int)) → Calls Try.prog 24 #[.slice a1 P.length c1, .slice a2 P.length c2] w' fun e w'' => e = .returned (.bool true) ∧ Below w'.heap.size w' w'') := Lib.hid (fun w' a1 c1 a2 c2 h1 h2 => by
        have := sameInts_any (w := w') a1 a2 c1 c2 _ _ h1 h2 (by rw [List.length_map]; have := hPn.out; omega) (by rw [List.length_map]; have := hPn.out; omega)
        rwa [List.length_map, decide_eq_true rfl] at this)
      go_wp2_with fail
      refine k1.out.mono ?_
      rintro e w5 ⟨rfl, rfl⟩
      go_wp2_with fail
      refine k2.out.mono ?_
      rintro e w5 ⟨rfl, rfl⟩
      go_wp2_with fail
      refine k3.out.mono ?_
      rintro e w5 ⟨rfl, b5⟩
      have D5 := Lib.hid (hd.out.below b5)
      have C5 := Lib.hid (hc.out.below b5)
      have B5 := Lib.hid (hb.out.trans (b5.mono hb.out.size))
      have k4 := Lib.hid (kc.out _ C5.out)
      clear b5 k1 k2 k3 hd hc hb
      go_wp2_with fail
      refine k4.out.mono ?_
      rintro e w6 ⟨rfl, b6⟩
      have D6 := Lib.hid (D5.out.below b6)
      have C6 := Lib.hid (C5.out.below b6)
      have B6 := Lib.hid (B5.out.trans (b6.mono B5.out.size))
      have k5 := Lib.hid (acts_any D6.out)
      rw [ht.out.dacts] at k5
      have k6 := Lib.hid (hDP.out _ D6.out)
      clear b6 k4 D5 C5 B5
      go_wp2_with fail
      refine k5.out.mono ?_
      rintro e w7 ⟨rfl, rfl⟩
      go_wp2_with fail
      refine k6.out.mono ?_
      rintro e w7 ⟨v7, rfl, o7, b7⟩
      obtain ⟨ad7, c7, rfl, _⟩ := own_opens o7
      have I7 := Lib.hid (hPI.out _ _ _ _ _ o7)
      have D7 := Lib.hid (D6.out.below b7)
      have C7 := Lib.hid (C6.out.below b7)
      have B7 := Lib.hid (B6.out.trans (b7.mono B6.out.size))
      have k7 := Lib.hid (hCP.out _ C7.out)
      clear b7 o7 k5 k6 D6 C6 B6
      go_wp2_with fail
      refine k7.out.mono ?_
      rintro e w8 ⟨v8, rfl, o8, b8⟩
      obtain ⟨ad8, c8, rfl, _⟩ := own_opens o8
      have k8 := Lib.hid (hsame.out _ _ c7 _ c8 (I7.out.below b8) (hPI.out _ _ _ _ _ o8))
      have D8 := Lib.hid (D7.out.below b8)
      have B8 := Lib.hid (B7.out.trans (b8.mono B7.out.size))
      clear b8 o8 k7 D7 C7 B7
      go_wp2_with fail
      refine k8.out.mono ?_
      rintro e w9 ⟨rfl, b9⟩
      have D9 := Lib.hid (D8.out.below b9)
      have B9 := Lib.hid (B8.out.trans (b9.mono B8.out.size))
      have k9 := Lib.hid (dead_any D9.out)
      rw [ht.out.dead] at k9
      have k10 := Lib.hid (arm_any D9.out (-1) (by decide))
      have hA2 : Hid ((D.arm (-1)).Ok l.length) := Lib.hid (hod.out.arm _)
      have hpos := D9.out.pos
      have h7 := Lib.hid (plain7 (D.arm (-1)) hpos.1 rfl (blk 7) (blk_size 7))
      have hdd : Hid ((D.arm (-1)).dead = false) := Lib.hid rfl
      have hact : Hid ((D.arm (-1)).acts = (done : Int)) := Lib.hid ht.out.dacts
      have hfin : Hid (∀ w10, DevAt w.heap.size w10 b y (D.arm (-1)) → Below w.heap.size w w10 → True) := Lib.hid (fun _ _ _ => trivial)
      have hB7 : Hid (∀ w, Calls Try.prog 35 #[.int .u8 7] w fun e w' => e = .returned (.string (blk 7)) ∧ Below w.heap.size w w') := Lib.hid (fun w => block_any 7 w)
      have ht7 : Hid ((blk 7).size ≤ 9223372036854775807) := Lib.hid (by rw [blk_size]; decide)
      have hbnd := Lib.hid D9.out.bounds
      clear b9 k8 D8 B8 hfin hpos
      generalize D.arm (-1) = F at *
      generalize blk 7 = t7 at *
      have hae : F.acts < 1000000000000 := by have := hA2.out.acts; have := hl120.out; omega
      have hOk2 := Lib.hid (hA2.out.write 0 t7)
      have hae2 : (F.write 0 t7).acts < 1000000000000 := by have := hOk2.out.acts; have := hl120.out; omega
      by_cases hdm : done = m
      all_goals
        have hdmi : ((done : Int) = (m : Int)) ↔ (done = m) := by omega
        first
          | rw [decide_eq_true hdm] at k9
          | rw [decide_eq_false hdm] at k9
        have hdmj : ((done : Int) = (m : Int)) ∨ ¬ ((done : Int) = (m : Int)) := by omega
        go_wp2_with fail
        refine k9.out.mono ?_
        rintro e w10 ⟨rfl, rfl⟩
        go_wp2_with fail
        refine k10.out.mono ?_
        rintro e w10 ⟨rfl, d10, o10⟩
        have B10 := Lib.hid (below_only B9.out (Nat.le_refl _) o10 (by have := hbnd.out; simp; omega))
        have D10 := Lib.hid d10
        have k11 := Lib.hid (dead_any D10.out)
        rw [hdd.out] at k11
        clear d10 o10
        go_wp2_with fail
        refine k11.out.mono ?_
        rintro e w11 ⟨rfl, rfl⟩
        go_wp2_with fail
        refine (hB7.out _).mono ?_
        rintro e w12 ⟨rfl, b12⟩
        have D12 := Lib.hid (D10.out.below b12)
        have B12 := Lib.hid (B10.out.trans (b12.mono B10.out.size))
        have k12 := Lib.hid (write_any D12.out 0 t7 ht7.out hae)
        rw [h7.out.1] at k12
        clear b12 k11
        go_wp2_with fail
        refine k12.out.mono ?_
        rintro e w13 ⟨rfl, d13, o13⟩
        have B13 := Lib.hid (below_only B12.out (Nat.le_refl _) o13 (by have := hbnd.out; simp; omega))
        have D13 := Lib.hid d13
        have k13 := Lib.hid (flush_any D13.out hae2)
        rw [h7.out.2.1] at k13
        clear d13 o13 k12
        go_wp2_with fail
        refine k13.out.mono ?_
        rintro e w14 ⟨rfl, d14, o14⟩
        have B14 := Lib.hid (below_only B13.out (Nat.le_refl _) o14 (by have := hbnd.out; simp; omega))
        have D14 := Lib.hid d14
        have k14 := Lib.hid (acts_any D14.out)
        rw [h7.out.2.2, hact.out] at k14
        clear d14 o14 k13
        go_wp2_with fail
        refine k14.out.mono ?_
        rintro e w15 ⟨rfl, rfl⟩
        go_wp2_with fail
        refine (hal.out _).mono ?_
        rintro e w16 ⟨rfl, b16⟩
        have B16 := Lib.hid (B14.out.trans (b16.mono B14.out.size))
        clear b16
        go_wp2_with fail
        go_ret
        exact ⟨rfl, B16.out⟩

end Go.Proofs.Ytjoopkdednmllaa
