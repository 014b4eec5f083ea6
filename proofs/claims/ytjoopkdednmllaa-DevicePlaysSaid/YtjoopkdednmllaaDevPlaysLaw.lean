/- The law DevicePlays: its walk. -/
import Derived.Test.YtjoopkdednmllaaDevOpensLaw
import Derived.Test.YtjoopkdednmllaaDevArmLaw
import Derived.Deep.CutRange
namespace Go.Proofs.Ytjoopkdednmllaa
open Go Go.RowKit
variable {B b : Nat} {w : World} {y : Lay} {D : Dev}

theorem RefAt.only {z : RLay} {S : List Nat} {w' : World} (h : RefAt B w b z D) (ho : Only S w w') (h1 : b ∉ S) (h2 : z.gn ∉ S) (h3 : z.gw ∉ S) (h4 : z.gp ∉ S) : RefAt B w' b z D :=
  ⟨h.own, row_same h.cells (ho.block b h.cells.lt h1), own_only h.now ho h2, own_only h.was ho h3, own_only h.pend ho h4, h.ne, h.pos, h.left, h.acts⟩

theorem new_ask (n : Int) (h : ¬ (1 ≤ n ∧ n ≤ 4096)) : n < 1 ∨ 4096 < n := by omega

set_option maxRecDepth 100000 in
set_option maxHeartbeats 8000000 in
theorem DevicePlays_walk (nb : Int) (ad : Option Addr) (cap : Nat) (l : List ActV) (hnb : -9223372036854775808 ≤ nb ∧ nb ≤ 9223372036854775807) (h1 : ActsIn w ad cap l) :
    Calls Try.prog 3 #[.int .i64 nb, .slice ad l.length cap] w fun e w' => e = .returned (.bool true) ∧ Below w.heap.size w w' := by
  have hal := Lib.hid (fun w => alive_any w)
  have hg := Lib.hid (great_any ad cap l h1)
  have H1 := Lib.hid h1
  have hlen := h1.len
  clear h1
  go_enter Try.func3, Try.ntmps3
  go_wp2_with fail
  refine hg.out.mono ?_
  rintro e w1 ⟨g, rfl, b1, hg1⟩
  have B1 := Lib.hid b1
  have G := Lib.hid hg1
  clear b1 hg1
  cases g
  case true =>
    go_wp2_with fail
    go_ret
    exact ⟨rfl, B1.out⟩
  by_cases hbig : 30 < nb ∧ nb ≤ 4096
  · obtain ⟨hb1, hb2⟩ := hbig
    go_wp2_with fail
    go_ret
    exact ⟨rfl, B1.out⟩
  have hl120 := Lib.hid (G.out.out rfl)
  by_cases hok : 1 ≤ nb ∧ nb ≤ 4096
  case neg =>
    have k1 := Lib.hid (fun w => newdev_none (w := w) nb hnb (new_ask nb hok))
    have k2 := Lib.hid (fun w => rnew_none (w := w) nb hnb (new_ask nb hok))
    by_cases h30 : 30 < nb
    · have h40 : ¬ nb ≤ 4096 := by omega
      clear hok hbig
      go_wp2_with fail
      refine (k1.out _).mono ?_
      rintro e w2 ⟨rfl, rfl⟩
      go_wp2_with fail
      refine (k2.out _).mono ?_
      rintro e w2 ⟨rfl, rfl⟩
      go_wp2_with fail
      refine (hal.out _).mono ?_
      rintro e w2 ⟨rfl, b2⟩
      have B2 := Lib.hid (B1.out.trans (b2.mono B1.out.size))
      clear b2
      go_wp2_with fail
      go_ret
      exact ⟨rfl, B2.out⟩
    · clear hok hbig
      go_wp2_with fail
      refine (k1.out _).mono ?_
      rintro e w2 ⟨rfl, rfl⟩
      go_wp2_with fail
      refine (k2.out _).mono ?_
      rintro e w2 ⟨rfl, rfl⟩
      go_wp2_with fail
      refine (hal.out _).mono ?_
      rintro e w2 ⟨rfl, b2⟩
      have B2 := Lib.hid (B1.out.trans (b2.mono B1.out.size))
      clear b2
      go_wp2_with fail
      go_ret
      exact ⟨rfl, B2.out⟩
  have h30 : ¬ 30 < nb := by omega
  obtain ⟨n, rfl⟩ := Int.eq_ofNat_of_zero_le (show 0 ≤ nb by omega)
  have hn : 1 ≤ n ∧ n ≤ 30 := by omega
  have k1 := Lib.hid (fun w => newdev_any (w := w) n (by omega))
  have k2 := Lib.hid (fun w => rnew_any (w := w) n (by omega))
  clear hok hbig hnb
  go_wp2_with fail
  refine (k1.out _).mono ?_
  rintro e w2 ⟨b, rfl, ⟨y, d2⟩, b2⟩
  have D2 : Hid (DevAt w.heap.size w2 b y (zeros n)) := Lib.hid (d2.mono B1.out.size)
  have B2 := Lib.hid (B1.out.trans (b2.mono B1.out.size))
  clear d2 b2 k1 B1
  go_wp2_with fail
  refine (k2.out _).mono ?_
  rintro e w3 ⟨r, rfl, ⟨z, r3⟩, b3⟩
  have D3 := Lib.hid (D2.out.below b3)
  have R3 : Hid (RefAt w2.heap.size w3 r z (zeros n)) := Lib.hid r3
  have B3 := Lib.hid (B2.out.trans (b3.mono B2.out.size))
  have hdb := Lib.hid D2.out.bounds
  clear r3 b3 k2 B2
  go_wp2_with fail
  go_loopw [9] (fun q wr => ∃ j : Nat, j ≤ l.length ∧ q = .int .i64 j ∧ Hid (DevAt w.heap.size wr b y ((zeros n).plays l j)) ∧ Hid (RefAt w2.heap.size wr r z ((zeros n).plays l j)) ∧ Hid (Below w.heap.size w wr)) (fun q _ => l.length - (intOf q).toNat)
  case atStart => exact ⟨0, by omega, rfl, D3, R3, B3⟩
  case round =>
    obtain ⟨j, hj, rfl, hd, hr, hb⟩ := hrel
    have hok := Lib.hid ((zeros_ok n).plays l j)
    by_cases hlt : j < l.length
    · have i1 : (j : Int) < (l.length : Int) := by omega
      obtain ⟨g, off, rfl, c0, c1, c2, c3, c4, c5⟩ := (H1.out.below hb.out).at j hlt
      obtain ⟨hk, hx1, hx2, hdt⟩ := H1.out.okAt j hlt
      have hk2 := hk.2
      have hkeep := Lib.hid hk.at
      have hst : Hid ((zeros n).plays l (j + 1) = ((zeros n).plays l j).does (l.getD j default)) := Lib.hid rfl
      generalize (zeros n).plays l j = D at *
      clear hk
      have hwhat := fun w => Lib.hid (what_any (l.getD j default) w)
      generalize l.getD j default = X at *
      obtain ⟨kind, xb, xn, fill, data, kad, kcap, keep⟩ := X
      dsimp only [actCells] at c0 c1 c2 c3 c4 c5 hx1 hx2 hk2 hdt hwhat hkeep
      unfold bval at c0 c3 hwhat
      have hkz := kind.toNat_lt
      have htm : Int.tmod (kind.toNat : Int) 8 = ((kind.toNat % 8 : Nat) : Int) := by rw [Int.tmod_eq_emod_of_nonneg (by omega)]; omega
      obtain ⟨q, hq⟩ : ∃ q, kind.toNat % 8 = q := ⟨_, rfl⟩
      have hq8 : q < 8 := by omega
      have hdoes : Hid ((zeros n).plays l (j + 1) = if q ≤ 3 then D.write xb (ActV.what ⟨kind, xb, xn, fill, data, kad, kcap, keep⟩) else if q = 4 then D.flush else if q = 5 then D.arm xn else D) := Lib.hid (by
        rw [hst.out]; unfold Dev.does; dsimp only; rw [hq])
      rw [hq] at htm
      clear hq hst
      have hT : Hid ((ActV.what ⟨kind, xb, xn, fill, data, kad, kcap, keep⟩).size ≤ 9223372036854775807) := Lib.hid (by
        unfold ActV.what; split
        · show (List.toArray _).size ≤ _; simp
        · exact hdt)
      have hokn := Lib.hid ((zeros_ok n).plays l (j + 1))
      generalize (ActV.what ⟨kind, xb, xn, fill, data, kad, kcap, keep⟩) = T at *
      generalize (kind.toNat : Int) = kz at *
      generalize (fill.toNat : Int) = fz at *
      generalize hkl : keep.length = kl at *
      have hdA : Hid (DevAt w.heap.size (wr.alloc (.cells #[.int .u8 kz, .int .i64 xb, .int .i64 xn, .int .u8 fz, .string data, .slice kad kl kcap] 34)) b y D) := Lib.hid (hd.out.below ((Below.refl _ _).alloc (Nat.le_refl _) _))
      have hrA : Hid (RefAt w2.heap.size (wr.alloc (.cells #[.int .u8 kz, .int .i64 xb, .int .i64 xn, .int .u8 fz, .string data, .slice kad kl kcap] 34)) r z D) := Lib.hid (hr.out.below ((Below.refl _ _).alloc (Nat.le_refl _) _))
      have hbA : Hid (Below w.heap.size w (wr.alloc (.cells #[.int .u8 kz, .int .i64 xb, .int .i64 xn, .int .u8 fz, .string data, .slice kad kl kcap] 34))) := Lib.hid (hb.out.alloc hb.out.size _)
      have hac : D.acts < 1000000000000 := by have := hok.out.acts; have := hl120.out; omega
      have hat := Lib.hid (ActAt.new wr kz xb xn fz data kad kl kcap)
      have hbr := Lib.hid hr.out.bounds
      have hbd := Lib.hid hd.out.bounds
      have hw2 := Lib.hid (show w.heap.size ≤ w2.heap.size from by have := hdb.out; omega)
      go_upto_region 13 with fail
      iterate 11 go_step
      go_cut [11, 12] from 52 to 182 (fun u v wx => ∃ e : Int, u = .int .i64 e ∧ v = .int .i64 e ∧ Hid (DevAt w.heap.size wx b y ((zeros n).plays l (j + 1))) ∧ Hid (RefAt w2.heap.size wx r z ((zeros n).plays l (j + 1))) ∧ Hid (Below w.heap.size w wx) ∧ Hid (ActAt wx wr.heap.size kz xb xn fz data kad kl kcap))
      case first =>
        by_cases h6 : 6 ≤ q
        · have hdo : Hid ((zeros n).plays l (j + 1) = D) := Lib.hid (by rw [hdoes.out, if_neg (by omega), if_neg (by omega), if_neg (by omega)])
          have k0 : ¬ (q : Int) = 0 := by omega
          have k1 : ¬ (q : Int) = 1 := by omega
          have k2 : ¬ (q : Int) = 2 := by omega
          have k3 : ¬ (q : Int) = 3 := by omega
          have k4 : ¬ (q : Int) = 4 := by omega
          have k5 : ¬ (q : Int) = 5 := by omega
          clear hdoes hwhat
          go_wp2_with fail
          go_meet
          case rel => exact ⟨0, rfl, rfl, by rw [hdo.out]; exact hdA, by rw [hdo.out]; exact hrA, hbA, hat⟩
        by_cases h5 : q = 5
        · have hdo : Hid ((zeros n).plays l (j + 1) = D.arm xn) := Lib.hid (by rw [hdoes.out, if_neg (by omega), if_neg (by omega), if_pos h5])
          subst h5
          have ha := Lib.hid (arm_any hdA.out xn hx2)
          clear hdoes hwhat
          go_wp2_with fail
          refine ha.out.mono ?_
          rintro e w4 ⟨rfl, d4, o4⟩
          have R4 := Lib.hid (hrA.out.only o4 (by have := hbr.out; have := hbd.out; have := hdb.out; simp; omega) (by have := hbr.out; have := hbd.out; have := hdb.out; simp; omega) (by have := hbr.out; have := hbd.out; have := hdb.out; simp; omega) (by have := hbr.out; have := hbd.out; have := hdb.out; simp; omega))
          have X4 := Lib.hid (hat.out.only o4 (by have := hbd.out; simp; omega))
          have B4 := Lib.hid (below_only hbA.out (Nat.le_refl _) o4 (by have := hbd.out; simp; omega))
          have D4 := Lib.hid d4
          have hb4 := Lib.hid (o4.size)
          have x1 := X4.out.x1
          have x2 := X4.out.x2
          have hr4 := Lib.hid (rarm_any R4.out xn hx2)
          clear d4 o4 ha
          go_wp2_with fail
          refine hr4.out.mono ?_
          rintro e w5 ⟨rfl, r5, o5⟩
          have D5 := Lib.hid (D4.out.only o5 (by have := hbr.out; have := hbd.out; have := hdb.out; simp; omega) (by have := hbr.out; have := hbd.out; have := hdb.out; simp; omega) (by have := hbr.out; have := hbd.out; have := hdb.out; simp; omega) (by have := hbr.out; have := hbd.out; have := hdb.out; simp; omega))
          have X5 := Lib.hid (X4.out.only o5 (by have := hbr.out; simp; omega))
          have B5 := Lib.hid (below_only B4.out (Nat.le_refl _) o5 (by have := hbr.out; have := hw2.out; simp; omega))
          have R5 := Lib.hid r5
          clear r5 o5 hr4
          go_wp2_with fail
          go_meet
          case rel => exact ⟨_, rfl, rfl, by rw [hdo.out]; exact D5, by rw [hdo.out]; exact R5, B5, X5⟩
        by_cases h4 : q = 4
        · have hdo : Hid ((zeros n).plays l (j + 1) = D.flush) := Lib.hid (by rw [hdoes.out, if_neg (by omega), if_pos h4])
          subst h4
          have ha := Lib.hid (flush_any hdA.out hac)
          clear hdoes hwhat
          go_wp2_with fail
          refine ha.out.mono ?_
          rintro e w4 ⟨rfl, d4, o4⟩
          have R4 := Lib.hid (hrA.out.only o4 (by have := hbr.out; have := hbd.out; have := hdb.out; simp; omega) (by have := hbr.out; have := hbd.out; have := hdb.out; simp; omega) (by have := hbr.out; have := hbd.out; have := hdb.out; simp; omega) (by have := hbr.out; have := hbd.out; have := hdb.out; simp; omega))
          have X4 := Lib.hid (hat.out.only o4 (by have := hbd.out; simp; omega))
          have B4 := Lib.hid (below_only hbA.out (Nat.le_refl _) o4 (by have := hbd.out; simp; omega))
          have D4 := Lib.hid d4
          have hb4 := Lib.hid (o4.size)
          have x1 := X4.out.x1
          have x2 := X4.out.x2
          have hr4 := Lib.hid (rflush_any R4.out hac)
          clear d4 o4 ha
          go_wp2_with fail
          refine hr4.out.mono ?_
          rintro e w5 ⟨rfl, r5, o5⟩
          have D5 := Lib.hid (D4.out.only o5 (by have := hbr.out; have := hbd.out; have := hdb.out; simp; omega) (by have := hbr.out; have := hbd.out; have := hdb.out; simp; omega) (by have := hbr.out; have := hbd.out; have := hdb.out; simp; omega) (by have := hbr.out; have := hbd.out; have := hdb.out; simp; omega))
          have X5 := Lib.hid (X4.out.only o5 (by have := hbr.out; simp; omega))
          have B5 := Lib.hid (below_only B4.out (Nat.le_refl _) o5 (by have := hbr.out; have := hw2.out; simp; omega))
          have R5 := Lib.hid r5
          clear r5 o5 hr4
          go_wp2_with fail
          go_meet
          case rel => exact ⟨_, rfl, rfl, by rw [hdo.out]; exact D5, by rw [hdo.out]; exact R5, B5, X5⟩
        · have hdo : Hid ((zeros n).plays l (j + 1) = D.write xb T) := Lib.hid (by rw [hdoes.out, if_pos (by omega)])
          have hq3 : q = 0 ∨ q = 1 ∨ q = 2 ∨ q = 3 := by omega
          clear hdoes
          rcases hq3 with rfl | rfl | rfl | rfl
          all_goals
            go_wp2_with fail
            generalize hX : wr.heap.size = X at *
            generalize wr.alloc _ = wx at *
            obtain ⟨x0, x1, x2, x3, x4, x5⟩ := hat.out
            go_region_held3 (fun w' => w'.cell? ⟨X, 0, none⟩ = some (.int .u8 kz) ∧ w'.cell? ⟨X, 1, none⟩ = some (.int .i64 xb) ∧ w'.cell? ⟨X, 2, none⟩ = some (.int .i64 xn) ∧ w'.cell? ⟨X, 3, none⟩ = some (.int .u8 fz) ∧ w'.cell? ⟨X, 4, none⟩ = some (.string data) ∧ w'.cell? ⟨X, 5, none⟩ = some (.slice kad kl kcap))
              (first | exact ⟨x0, x1, x2, x3, x4, x5⟩ | exact ⟨h1.x0, h1.x1, h1.x2, h1.x3, h1.x4, h1.x5⟩ | exact ⟨h2.x0, h2.x1, h2.x2, h2.x3, h2.x4, h2.x5⟩)
              (first | (go_at_call 15; refine ((hwhat _).out).mono ?_; rintro e w4 ⟨rfl, hb4'⟩; have hb4 : Below wx.heap.size wx w4 := ⟨hb4'.os, hb4'.tape, hb4'.output, hb4'.size, hb4'.block⟩; have h1 := ActAt.below ⟨x0, x1, x2, x3, x4, x5⟩ hb4; have d4 := Lib.hid (hdA.out.below hb4)) | (go_at_call 14; refine (write_any d4.out xb T hT.out hac).mono ?_; rintro e w5 ⟨rfl, d5, o5⟩; have h2 := h1.only o5 (by have := hbd.out; simp; omega)))
            have D5 := Lib.hid d5
            have B5 := Lib.hid (below_only (hbA.out.trans (hb4.mono hbA.out.size)) (Nat.le_refl _) o5 (by have := hbd.out; simp; omega))
            have R5 := Lib.hid ((hrA.out.below hb4).only o5 (by have := hbr.out; have := hbd.out; have := hdb.out; simp; omega) (by have := hbr.out; have := hbd.out; have := hdb.out; simp; omega) (by have := hbr.out; have := hbd.out; have := hdb.out; simp; omega) (by have := hbr.out; have := hbd.out; have := hdb.out; simp; omega))
            obtain ⟨y0, y1, y2, y3, y4, y5⟩ := h2
            clear d5 o5 hb4 hb4' h1 d4 x0 x1 x2 x3 x4 x5
            go_upto_region 20 with fail
            go_region_held3 (fun w' => w'.cell? ⟨X, 0, none⟩ = some (.int .u8 kz) ∧ w'.cell? ⟨X, 1, none⟩ = some (.int .i64 xb) ∧ w'.cell? ⟨X, 2, none⟩ = some (.int .i64 xn) ∧ w'.cell? ⟨X, 3, none⟩ = some (.int .u8 fz) ∧ w'.cell? ⟨X, 4, none⟩ = some (.string data) ∧ w'.cell? ⟨X, 5, none⟩ = some (.slice kad kl kcap))
              (first | exact ⟨y0, y1, y2, y3, y4, y5⟩ | exact ⟨h1.x0, h1.x1, h1.x2, h1.x3, h1.x4, h1.x5⟩ | exact ⟨h2.x0, h2.x1, h2.x2, h2.x3, h2.x4, h2.x5⟩)
              (first | (go_at_call 15; refine ((hwhat _).out).mono ?_; rintro e w6 ⟨rfl, hb6'⟩; have hb6 : Below w5.heap.size w5 w6 := ⟨hb6'.os, hb6'.tape, hb6'.output, hb6'.size, hb6'.block⟩; have h1 := ActAt.below ⟨y0, y1, y2, y3, y4, y5⟩ hb6; have r6 := Lib.hid (R5.out.below hb6)) | (go_at_call 16; refine (rwrite_any r6.out xb T hT.out hac).mono ?_; rintro e w7 ⟨rfl, r7, o7⟩; have h2 := h1.only o7 (by have := hbr.out; simp; omega)))
            have R7 := Lib.hid r7
            have D7 := Lib.hid ((D5.out.below hb6).only o7 (by have := hbr.out; have := hbd.out; have := hdb.out; simp; omega) (by have := hbr.out; have := hbd.out; have := hdb.out; simp; omega) (by have := hbr.out; have := hbd.out; have := hdb.out; simp; omega) (by have := hbr.out; have := hbd.out; have := hdb.out; simp; omega))
            have B7 := Lib.hid (below_only (B5.out.trans (hb6.mono B5.out.size)) (Nat.le_refl _) o7 (by have := hbr.out; have := hw2.out; simp; omega))
            have X7 := Lib.hid h2
            clear r7 o7 hb6 hb6' h1 h2 r6
            go_wp2_with fail
            go_meet
            case rel => exact ⟨_, rfl, rfl, by rw [hdo.out]; exact D7, by rw [hdo.out]; exact R7, B7, X7⟩
      obtain ⟨ev, rfl, rfl, hdc, hrc, hbc, hxc⟩ := hcut
      clear hdA hrA hbA hat hdoes hwhat hd hr hT hdt hac hok c0 c1 c2 c3 c4 c5
      have hbrc := Lib.hid hrc.out.bounds
      have hbdc := Lib.hid hdc.out.bounds
      generalize hE : (zeros n).plays l (j + 1) = E at *
      have x1 := hxc.out.x1
      have a1 := Lib.hid (read_any hdc.out xb)
      have a2 := Lib.hid (rread_any hrc.out xb)
      generalize E.readS xb = rs at *
      generalize E.ask xb = ra at *
      have a3 := Lib.hid (pending_any hdc.out)
      have hPn : Hid ((pendTo E.pend E.pend.length).length ≤ 4096) := Lib.hid (by have := pendTo_length E.pend E.pend.length; have := hokn.out.plen; have := hdc.out.pos; omega)
      have hPI : Hid (∀ B w' ad n cap, w'.ownsRow B 3 1 (.slice ad n cap) n (natVs (pendTo E.pend E.pend.length)) → IntsIn w' ad ((pendTo E.pend E.pend.length).map fun (n : Nat) => (n : Int))) := Lib.hid (fun B w' ad n cap h => intsIn_own h)
      have hRP : Hid (∀ w', RefAt w2.heap.size w' r z E → Calls Try.prog 25 #[.pointer (some ⟨r, 0, none⟩)] w' fun e w'' => ∃ v, e = .returned v ∧ w''.ownsRow w'.heap.size 3 1 v (pendTo E.pend E.pend.length).length (natVs (pendTo E.pend E.pend.length)) ∧ Below w'.heap.size w' w'') := Lib.hid (fun w' h => rpending_any h)
      have hDP : Hid (∀ w', DevAt w.heap.size w' b y E → Calls Try.prog 23 #[.pointer (some ⟨b, 0, none⟩)] w' fun e w'' => ∃ v, e = .returned v ∧ w''.ownsRow w'.heap.size 3 1 v (pendTo E.pend E.pend.length).length (natVs (pendTo E.pend E.pend.length)) ∧ Below w'.heap.size w' w'') := Lib.hid (fun w' h => pending_any h)
      generalize pendTo E.pend E.pend.length = P at *
      have hsame : Hid (∀ w' a1 c1 a2 c2, IntsIn w' a1 (P.map fun (n : Nat) => (n : Int)) → IntsIn w' a2 (P.map fun (n : Nat) => (n : Int)) → Calls Try.prog 24 #[.slice a1 P.length c1, .slice a2 P.length c2] w' fun e w'' => e = .returned (.bool true) ∧ Below w'.heap.size w' w'') := Lib.hid (fun w' a1 c1 a2 c2 h1 h2 => by
        have := sameInts_any (w := w') a1 a2 c1 c2 _ _ h1 h2 (by rw [List.length_map]; have := hPn.out; omega) (by rw [List.length_map]; have := hPn.out; omega)
        rwa [List.length_map, decide_eq_true rfl] at this)
      have hPn' := hPn.out
      go_wp2_with fail
      refine a1.out.mono ?_
      rintro e w4 ⟨rfl, rfl⟩
      go_wp2_with fail
      refine a2.out.mono ?_
      rintro e w4 ⟨rfl, rfl⟩
      go_wp2_with fail
      refine a3.out.mono ?_
      rintro e wp ⟨v, rfl, hop, bp⟩
      obtain ⟨adp, capp, rfl, hap⟩ := own_opens hop
      have OP := Lib.hid hop
      have IP := Lib.hid (hPI.out _ _ _ _ _ hop)
      have HAP := Lib.hid hap
      have BP := Lib.hid bp
      have hcp := hop.2
      have DP := Lib.hid (hdc.out.below bp)
      have RP := Lib.hid (hrc.out.below bp)
      have XP := hxc.out.below bp
      have x5 := XP.x5
      have r4 := RP.out.c4
      have lX := XP.lt
      have lr := RP.out.cells.lt
      have HK : Hid (∀ w', Below wp.heap.size wp w' → BoolsAt w' kad keep) := Lib.hid (fun w' hb' => (hkeep.out.below hbc.out).below (bp.trans (hb'.mono bp.size)))
      have DW : Hid (∀ w', Below wp.heap.size wp w' → DevAt w.heap.size w' b y E) := Lib.hid (fun w' hb' => DP.out.below hb')
      have RW : Hid (∀ w', Below wp.heap.size wp w' → RefAt w2.heap.size w' r z E) := Lib.hid (fun w' hb' => RP.out.below hb')
      have hokE : Hid (E.Ok (j + 1)) := Lib.hid hokn.out
      have cc := Lib.hid (fun w' (h : DevAt w.heap.size w' b y E) (hk : BoolsAt w' kad keep) => crash_any h hokE.out.kept hokE.out.now kad kcap keep hk (by omega))
      have rc := Lib.hid (fun w' (h : RefAt w2.heap.size w' r z E) (hk : BoolsAt w' kad keep) => rcrash_any h (j + 1) hokE.out kad kcap keep hk (by omega))
      rw [hkl] at cc rc
      generalize txt (cat (E.crash keep)) = CR at *
      clear a1 a2 a3 hop hap bp hcp x1 XP
      have bp0 : Below wp.heap.size wp wp.drew := (Below.refl _ _).drew
      go_wp2_with fail
      generalize wr.heap.size = X at *
      go_region_held3 (fun w' => w'.cell? ⟨X, 5, none⟩ = some (.slice kad kl kcap) ∧ w'.cell? ⟨r, 4, none⟩ = some (.int .i64 E.acts))
        (first | exact ⟨x5, r4⟩ | exact ⟨(s1.cell (p := ⟨X, 5, none⟩) lX).trans x5, (s1.cell (p := ⟨r, 4, none⟩) lr).trans r4⟩ | exact ⟨(s2.cell (p := ⟨X, 5, none⟩) lX).trans x5, (s2.cell (p := ⟨r, 4, none⟩) lr).trans r4⟩ | exact ⟨(s3.cell (p := ⟨X, 5, none⟩) lX).trans x5, (s3.cell (p := ⟨r, 4, none⟩) lr).trans r4⟩)
        (first
          | (go_at_call 25; refine (hRP.out _ (RW.out _ bp0)).mono ?_; rintro e wa ⟨va, rfl, hoa, ba⟩; obtain ⟨ada, capa, rfl, _⟩ := own_opens hoa; have IA := Lib.hid (hPI.out _ _ _ _ _ hoa); have s1 : Below wp.heap.size wp wa := bp0.trans ba)
          | (go_at_call 24; refine (hsame.out _ _ _ _ _ (IP.out.below s1) IA.out).mono ?_; rintro e wb ⟨rfl, bb⟩; have s2 : Below wp.heap.size wp wb := s1.trans (bb.mono s1.size))
          | (go_at_call 26; refine (dead_any (DW.out _ s2)).mono ?_; rintro e wx ⟨rfl, rfl⟩)
          | (go_at_call 27; refine (rdead_any (RW.out _ s2)).mono ?_; rintro e wx ⟨rfl, rfl⟩)
          | (go_at_call 28; refine (acts_any (DW.out _ s2)).mono ?_; rintro e wx ⟨rfl, rfl⟩)
          | (go_at_call 29; refine (blocks_any (DW.out _ s2)).mono ?_; rintro e wx ⟨rfl, rfl⟩)
          | (go_at_call 30; refine (rblocks_any (RW.out _ s2)).mono ?_; rintro e wx ⟨rfl, rfl⟩)
          | (go_at_call 31; refine (cc.out _ (DW.out _ s2) (HK.out _ s2)).mono ?_; rintro e wd ⟨rfl, bd⟩; have s3 : Below wp.heap.size wp wd := s2.trans (bd.mono s2.size))
          | (go_at_call 32; refine (rc.out _ (RW.out _ s3) (HK.out _ s3)).mono ?_; rintro e we ⟨rfl, rfl⟩))
      have BD : Hid (Below wc.heap.size wc wd) := Lib.hid (BP.out.trans (s3.mono BP.out.size))
      have OD : Hid (wd.ownsRow wc.heap.size 3 1 (.slice adp P.length capp) P.length (natVs P)) := Lib.hid (own_below OP.out s3)
      clear s1 s2 s3 bb ba bd bp0 hoa x5 r4 lX lr
      go_wp2_with fail
      go_loopw [18] (fun q wl => ∃ k : Nat, k ≤ P.length ∧ q = .int .i64 k ∧ Hid (∃ xs, wl.ownsRow wc.heap.size 3 1 (.slice adp P.length capp) P.length xs) ∧ Hid (Below wc.heap.size wc wl)) (fun q _ => P.length - (intOf q).toNat)
      case atStart => exact ⟨0, by omega, rfl, Lib.hid ⟨_, OD.out⟩, BD⟩
      case round =>
        obtain ⟨k, hk, rfl, ho, hbl⟩ := hrel
        by_cases hkt : k < P.length
        · have k0 : (0 : Int) ≤ (k : Int) := by omega
          have k1 : (k : Int) < (P.length : Int) := by omega
          obtain ⟨gp, rfl, hgp⟩ := HAP.out (by omega)
          obtain ⟨xs, hxs⟩ := ho.out
          have z1 : ∃ u, wr.cell? ⟨gp, k, none⟩ = some u := ⟨_, own_cellAt hxs (List.getElem?_eq_getElem (by rw [hxs.1]; omega))⟩
          obtain ⟨u, z1⟩ := z1
          have z2 := ownsRow_free1 hxs k
          have ho' : Hid (∃ xs, (wr.setCell ⟨gp, k, none⟩ (.int .i64 (-1))).ownsRow wc.heap.size 3 1 (.slice (some ⟨gp, 0, none⟩) P.length capp) P.length xs) := Lib.hid ⟨_, ownsRow_set hxs k (.int .i64 (-1))⟩
          have hb' : Hid (Below wc.heap.size wc (wr.setCell ⟨gp, k, none⟩ (.int .i64 (-1)))) := Lib.hid (hbl.out.setCell (by dsimp only; omega) _)
          clear hxs ho
          go_wp2_with fail
          go_roundw
          case rel => exact ⟨k + 1, by omega, by go_num, ho', hb'⟩
          case measure => simp [intOf]; omega
        · obtain rfl : k = P.length := by omega
          have D6 := Lib.hid (hdc.out.below hbl.out)
          have e1 := Lib.hid (hDP.out _ D6.out)
          go_wp2_with fail
          refine e1.out.mono ?_
          rintro e w8 ⟨v8, rfl, o8, b8⟩
          obtain ⟨ad8, c8, rfl, _⟩ := own_opens o8
          have I8 := Lib.hid (hPI.out _ _ _ _ _ o8)
          have B8 := Lib.hid (hbl.out.trans (b8.mono hbl.out.size))
          have R8 := Lib.hid (hrc.out.below B8.out)
          have e2 := Lib.hid (hRP.out _ R8.out)
          clear o8 b8 e1
          go_wp2_with fail
          refine e2.out.mono ?_
          rintro e w9 ⟨v9, rfl, o9, b9⟩
          obtain ⟨ad9, c9, rfl, _⟩ := own_opens o9
          have e3 := Lib.hid (hsame.out _ _ c8 _ c9 (I8.out.below b9) (hPI.out _ _ _ _ _ o9))
          have B9 := Lib.hid (B8.out.trans (b9.mono B8.out.size))
          clear o9 b9 e2
          go_wp2_with fail
          refine e3.out.mono ?_
          rintro e w10 ⟨rfl, b10⟩
          have B10 := Lib.hid (B9.out.trans (b10.mono B9.out.size))
          clear b10 e3
          go_wp2_with fail
          go_roundw
          case rel => exact ⟨j + 1, by omega, by go_num, by rw [hE]; exact Lib.hid (hdc.out.below B10.out), by rw [hE]; exact Lib.hid (hrc.out.below B10.out), Lib.hid (hbc.out.trans (B10.out.mono hbc.out.size))⟩
          case measure => simp [intOf]; omega
    · obtain rfl : j = l.length := by omega
      generalize (zeros n).plays l l.length = E at *
      have e1 := Lib.hid (kept_any hd.out hok.out.kept)
      have e2 := Lib.hid (fun w' (h : RefAt w2.heap.size w' r z E) => rkept_any h l.length hok.out)
      generalize txt (cat E.kept) = KT at *
      go_wp2_with fail
      refine e1.out.mono ?_
      rintro e w4 ⟨rfl, b4⟩
      have R4 := Lib.hid (hr.out.below b4)
      have B4 := Lib.hid (hb.out.trans (b4.mono hb.out.size))
      have e3 := Lib.hid (e2.out _ R4.out)
      clear b4 e1 e2
      go_wp2_with fail
      refine e3.out.mono ?_
      rintro e w5 ⟨rfl, rfl⟩
      go_wp2_with fail
      refine (hal.out _).mono ?_
      rintro e w6 ⟨rfl, b6⟩
      have B6 := Lib.hid (B4.out.trans (b6.mono B4.out.size))
      clear b6
      go_wp2_with fail
      go_ret
      exact ⟨rfl, B6.out⟩

end Go.Proofs.Ytjoopkdednmllaa
