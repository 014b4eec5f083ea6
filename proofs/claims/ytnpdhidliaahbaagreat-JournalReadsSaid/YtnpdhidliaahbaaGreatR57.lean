/- JournalReads: the walk. -/
import Derived.Test.YtnpdhidliaahbaaGreatR56
set_option linter.unusedSimpArgs false
set_option linter.unusedVariables false
namespace Go.Proofs.YtnpdhidliaahbaaGreat
open Go.Lib (hid)
open Go Go.RowKit
set_option maxRecDepth 100000 in
set_option maxHeartbeats 4000000 in
theorem reads_big (a0 : ByteArray) (g : Geo.G) (m : Nat) (hl : a0.size ≤ 9223372036854775807) (h : 42240 < a0.size) (w : World) :
  Calls Tryz.prog 6 #[.string a0, .agg (Geo.cells g), .int .u8 (m : Int)] w fun e w' => e = .returned (.bool true) ∧ Below w.heap.size w w' := by
 have h1 : (42240 : Int) < (a0.size : Int) := by omega
 unfold Geo.cells at *
 obtain ⟨g1, g2, g3, g4, g5, g6, g7, g8, g9⟩ := g
 dsimp only at *
 have R0 := Row.new w 30 [.int .i64 g1, .int .i64 g2, .int .i64 g3, .int .i64 g4, .int .i64 g5, .int .i64 g6, .int .i64 g7, .int .i64 g8, .int .i64 g9] rfl
 have HR0 := hid R0
 have BA := hid ((Below.refl w.heap.size w).alloc (Nat.le_refl _) (.cells #[.int .i64 g1, .int .i64 g2, .int .i64 g3, .int .i64 g4, .int .i64 g5, .int .i64 g6, .int .i64 g7, .int .i64 g8, .int .i64 g9] 30))
 obtain ⟨k0, k1, k2, k3, k4, k5, k6, k7, k8⟩ := R0.c9
 clear R0
 go_enter Tryz.func6, Tryz.ntmps6
 go_wp2_with fail
 go_ret
 exact ⟨rfl, BA.out⟩
set_option maxRecDepth 100000 in
set_option maxHeartbeats 8000000 in
theorem reads_nil (a0 : ByteArray) (g : Geo.G) (m : Nat) (hm : m < 256) (hl : a0.size ≤ 9223372036854775807) (h0 : a0.size = 0 ∨ a0.size % 128 ≠ 0) (h : a0.size ≤ 42240) (w : World) :
  Calls Tryz.prog 6 #[.string a0, .agg (Geo.cells g), .int .u8 (m : Int)] w fun e w' => e = .returned (.bool true) ∧ Below w.heap.size w w' := by
 have h1 : ¬ (42240 : Int) < (a0.size : Int) := by omega
 have qd := hid (fun w => opendev_none (w := w) a0 hl (by omega))
 have qs := hid (fun w => ropen_none (w := w) a0 hl (by omega))
 have qpf := hid (fun w => noformat (v := .pointer none) g (w := w) (.inl rfl))
 have qpo := hid (fun w => noopen (v := .pointer none) g (w := w) (.inl rfl))
 have qpr := hid (fun w => noreplay (v := .pointer none) g (w := w) (.inl rfl))
 have qsf := hid (fun w => rformat_bad none 1 (by decide) g w (fun wz _ => rrefuses_nil g wz))
 have qso := hid (fun w => ropen_bad none 1 (by decide) g w (fun wz _ => rrefuses_nil g wz))
 have qsr := hid (fun w => rreplay_bad none 1 (by decide) g w (fun wz _ => rrefuses_nil g wz))
 have qsm := hid (fun w => txns_same w (.slice none 0 0) (.slice none 0 0) [] (ownT_nil w.heap.size w).at (ownT_nil w.heap.size w).at (by simp) (fun t ht => by cases ht))
 have qal := hid (fun w => alive_any w)
 unfold Geo.cells at *
 obtain ⟨g1, g2, g3, g4, g5, g6, g7, g8, g9⟩ := g
 dsimp only at *
 have R0 := Row.new w 30 [.int .i64 g1, .int .i64 g2, .int .i64 g3, .int .i64 g4, .int .i64 g5, .int .i64 g6, .int .i64 g7, .int .i64 g8, .int .i64 g9] rfl
 have HR0 := hid R0
 have BA := hid ((Below.refl w.heap.size w).alloc (Nat.le_refl _) (.cells #[.int .i64 g1, .int .i64 g2, .int .i64 g3, .int .i64 g4, .int .i64 g5, .int .i64 g6, .int .i64 g7, .int .i64 g8, .int .i64 g9] 30))
 obtain ⟨k0, k1, k2, k3, k4, k5, k6, k7, k8⟩ := R0.c9
 clear R0
 go_enter Tryz.func6, Tryz.ntmps6
 go_upto_region 5 with (first | (go_at_call 24; (with_reducible refine (qd.out _).mono ?_); rintro e wa ⟨rfl, rfl⟩) | (go_at_call 28; (with_reducible refine (qs.out _).mono ?_); rintro e wb ⟨rfl, rfl⟩) | fail "none")
 generalize w.alloc _ = w1 at *
 by_cases hm3 : m % 4 = 3
 ·have hb3 : ((m : Int) % 4 == 3) = true := by rw [beq_iff_eq]; omega
  clear hm3
  go_wp2_with fail
  go_region_held3 (fun w' => w'.cell? ⟨w.heap.size, 0, none⟩ = some (.int .i64 g1) ∧ w'.cell? ⟨w.heap.size, 1, none⟩ = some (.int .i64 g2) ∧ w'.cell? ⟨w.heap.size, 2, none⟩ = some (.int .i64 g3) ∧ w'.cell? ⟨w.heap.size, 3, none⟩ = some (.int .i64 g4) ∧ w'.cell? ⟨w.heap.size, 4, none⟩ = some (.int .i64 g5) ∧ w'.cell? ⟨w.heap.size, 5, none⟩ = some (.int .i64 g6) ∧ w'.cell? ⟨w.heap.size, 6, none⟩ = some (.int .i64 g7) ∧ w'.cell? ⟨w.heap.size, 7, none⟩ = some (.int .i64 g8) ∧ w'.cell? ⟨w.heap.size, 8, none⟩ = some (.int .i64 g9))
   (first | exact ⟨k0, k1, k2, k3, k4, k5, k6, k7, k8⟩ | exact ⟨z0, z1, z2, z3, z4, z5, z6, z7, z8⟩ | exact ⟨y0, y1, y2, y3, y4, y5, y6, y7, y8⟩)
   (first | (go_at_call 21; (with_reducible refine (qpf.out _).mono ?_); rintro e w2 ⟨rfl, hb2'⟩; have b2 : Below w1.heap.size w1 w2 := ⟨hb2'.os, hb2'.tape, hb2'.output, hb2'.size, hb2'.block⟩; have R2 := HR0.out.below b2 HR0.out.lt; obtain ⟨z0, z1, z2, z3, z4, z5, z6, z7, z8⟩ := R2.c9) | (go_at_call 29; (with_reducible refine (qsf.out _).mono ?_); rintro e w3 ⟨rfl, hb3'⟩; have b3 : Below w2.heap.size w2 w3 := ⟨hb3'.os, hb3'.tape, hb3'.output, hb3'.size, hb3'.block⟩; have R3 := R2.below b3 R2.lt; obtain ⟨y0, y1, y2, y3, y4, y5, y6, y7, y8⟩ := R3.c9) | fail "none")
  have B3 := hid (below_next (below_next BA.out b2) b3)
  have HR3 := hid R3
  clear R2 R3 b2 b3 hb2' hb3' k0 k1 k2 k3 k4 k5 k6 k7 k8 z0 z1 z2 z3 z4 z5 z6 z7 z8 y0 y1 y2 y3 y4 y5 y6 y7 y8
  obtain ⟨c0, c1, c2, c3, c4, c5, c6, c7, c8⟩ := HR3.out.c9
  go_upto_region 11 with (first | (go_at_call 16; (with_reducible refine (qpo.out _).mono ?_); rintro e w4 ⟨rfl, b4⟩; have B4 := hid (below_next B3.out b4); have HR4 := hid (HR3.out.below b4 HR3.out.lt); obtain ⟨d0, d1, d2, d3, d4, d5, d6, d7, d8⟩ := HR4.out.c9) | (go_at_call 30; (with_reducible refine (qso.out _).mono ?_); rintro e w5 ⟨rfl, b5⟩; have B5 := hid (below_next B4.out b5); have HR5 := hid (HR4.out.below b5 HR4.out.lt); obtain ⟨f0, f1, f2, f3, f4, f5, f6, f7, f8⟩ := HR5.out.c9) | fail "none")
  clear b4 b5 c0 c1 c2 c3 c4 c5 c6 c7 c8 d0 d1 d2 d3 d4 d5 d6 d7 d8 f0 f1 f2 f3 f4 f5 f6 f7 f8
  go_quiet (fail)
  have b6 : Below w5.heap.size w5 (w5.drewN nq) := below_dn _ nq
  generalize w5.drewN nq = w6 at *
  have B6 := hid (below_next B5.out b6)
  have HR6 := hid (HR5.out.below b6 HR5.out.lt)
  clear b6
  obtain ⟨c0, c1, c2, c3, c4, c5, c6, c7, c8⟩ := HR6.out.c9
  go_upto_region 15 with (first | (go_at_call 15; (with_reducible refine (qpr.out _).mono ?_); rintro e w7 ⟨rfl, b7⟩; have B7 := hid (below_next B6.out b7); have HR7 := hid (HR6.out.below b7 HR6.out.lt); obtain ⟨d0, d1, d2, d3, d4, d5, d6, d7, d8⟩ := HR7.out.c9) | (go_at_call 32; (with_reducible refine (qsr.out _).mono ?_); rintro e w8 ⟨rfl, b8⟩; have B8 := hid (below_next B7.out b8); have HR8 := hid (HR7.out.below b8 HR7.out.lt); obtain ⟨f0, f1, f2, f3, f4, f5, f6, f7, f8⟩ := HR8.out.c9) | fail "none")
  clear b7 b8 c0 c1 c2 c3 c4 c5 c6 c7 c8 d0 d1 d2 d3 d4 d5 d6 d7 d8 f0 f1 f2 f3 f4 f5 f6 f7 f8
  go_wp2_with (first | (go_at_call 26; (with_reducible refine (qsm.out _).mono ?_); rintro e w9 ⟨rfl, nq, rfl⟩; have B9 := hid (below_next B8.out (below_dn w8 nq)); generalize w8.drewN nq = w9 at *) | (go_at_call 14; (with_reducible refine (qal.out _).mono ?_); rintro e w10 ⟨rfl, b10⟩) | fail "none")
  go_ret
  exact ⟨rfl, below_next B9.out b10⟩
 ·have hb3 : ((m : Int) % 4 == 3) = false := by rw [beq_eq_false_iff_ne]; omega
  clear hm3
  obtain ⟨c0, c1, c2, c3, c4, c5, c6, c7, c8⟩ := HR0.out.c9
  go_upto_region 11 with (first | (go_at_call 16; (with_reducible refine (qpo.out _).mono ?_); rintro e w4 ⟨rfl, b4⟩; have B4 := hid (below_next BA.out b4); have HR4 := hid (HR0.out.below b4 HR0.out.lt); obtain ⟨d0, d1, d2, d3, d4, d5, d6, d7, d8⟩ := HR4.out.c9) | (go_at_call 30; (with_reducible refine (qso.out _).mono ?_); rintro e w5 ⟨rfl, b5⟩; have B5 := hid (below_next B4.out b5); have HR5 := hid (HR4.out.below b5 HR4.out.lt); obtain ⟨f0, f1, f2, f3, f4, f5, f6, f7, f8⟩ := HR5.out.c9) | fail "none")
  clear b4 b5 c0 c1 c2 c3 c4 c5 c6 c7 c8 d0 d1 d2 d3 d4 d5 d6 d7 d8 f0 f1 f2 f3 f4 f5 f6 f7 f8
  go_quiet (fail)
  have b6 : Below w5.heap.size w5 (w5.drewN nq) := below_dn _ nq
  generalize w5.drewN nq = w6 at *
  have B6 := hid (below_next B5.out b6)
  have HR6 := hid (HR5.out.below b6 HR5.out.lt)
  clear b6
  obtain ⟨c0, c1, c2, c3, c4, c5, c6, c7, c8⟩ := HR6.out.c9
  go_upto_region 15 with (first | (go_at_call 15; (with_reducible refine (qpr.out _).mono ?_); rintro e w7 ⟨rfl, b7⟩; have B7 := hid (below_next B6.out b7); have HR7 := hid (HR6.out.below b7 HR6.out.lt); obtain ⟨d0, d1, d2, d3, d4, d5, d6, d7, d8⟩ := HR7.out.c9) | (go_at_call 32; (with_reducible refine (qsr.out _).mono ?_); rintro e w8 ⟨rfl, b8⟩; have B8 := hid (below_next B7.out b8); have HR8 := hid (HR7.out.below b8 HR7.out.lt); obtain ⟨f0, f1, f2, f3, f4, f5, f6, f7, f8⟩ := HR8.out.c9) | fail "none")
  clear b7 b8 c0 c1 c2 c3 c4 c5 c6 c7 c8 d0 d1 d2 d3 d4 d5 d6 d7 d8 f0 f1 f2 f3 f4 f5 f6 f7 f8
  go_wp2_with (first | (go_at_call 26; (with_reducible refine (qsm.out _).mono ?_); rintro e w9 ⟨rfl, nq, rfl⟩; have B9 := hid (below_next B8.out (below_dn w8 nq)); generalize w8.drewN nq = w9 at *) | (go_at_call 14; (with_reducible refine (qal.out _).mono ?_); rintro e w10 ⟨rfl, b10⟩) | fail "none")
  go_ret
  exact ⟨rfl, below_next B9.out b10⟩
set_option maxRecDepth 100000 in
set_option maxHeartbeats 16000000 in
theorem reads_main (a0 : ByteArray) (g : Geo.G) (m n : Nat) (hm : m < 256) (hn : a0.size = n * 128) (hn1 : 1 ≤ n ∧ n ≤ 330) (hi : GeoIn g) (w : World) :
  Calls Tryz.prog 6 #[.string a0, .agg (Geo.cells g), .int .u8 (m : Int)] w fun e w' => e = .returned (.bool true) ∧ Below w.heap.size w w' := by
 have h1 : ¬ (42240 : Int) < (a0.size : Int) := by omega
 have hOk0 : (Dev.fresh (chop a0 n)).Ok 0 := Dev.Ok.fresh _ (chop_sized a0 n n hn (Nat.le_refl _))
 have qd := hid (fun w => opendev_any (w := w) a0 n hn (by omega))
 have qs := hid (fun w => ropen_any (w := w) a0 n hn (by omega))
 generalize Dev.fresh (chop a0 n) = D0 at *
 have qal := hid (fun w => alive_any w)
 obtain ⟨g1, g2, g3, g4, g5, g6, g7, g8, g9, hcell⟩ : ∃ g1 g2 g3 g4 g5 g6 g7 g8 g9, Geo.cells g = #[.int .i64 g1, .int .i64 g2, .int .i64 g3, .int .i64 g4, .int .i64 g5, .int .i64 g6, .int .i64 g7, .int .i64 g8, .int .i64 g9] := ⟨_, _, _, _, _, _, _, _, _, rfl⟩
 rw [hcell]
 have qpf : Hid (∀ {B0 db : Nat} {y : Lay} {D : Dev} {w : World}, DevAt B0 w db y D → D.acts + 6000 < 1000000000000 → Calls Tryz.prog 21 #[.pointer (some ⟨db, 0, none⟩), .agg #[.int .i64 g1, .int .i64 g2, .int .i64 g3, .int .i64 g4, .int .i64 g5, .int .i64 g6, .int .i64 g7, .int .i64 g8, .int .i64 g9]] w fun e w' => ActTold B0 db y (Jr.fmtS g D).2 (Jr.fmtS g D).1 w e w') := hid (fun hd ha => by have := pfmt_any g hd ha; rwa [hcell] at this)
 have qsf : Hid (∀ {B1 sb : Nat} {z : RLay} {D : Dev} {w : World}, RefAt B1 w sb z D → D.acts + 6000 < 1000000000000 → Calls Tryz.prog 29 #[.pointer (some ⟨sb, 0, none⟩), .agg #[.int .i64 g1, .int .i64 g2, .int .i64 g3, .int .i64 g4, .int .i64 g5, .int .i64 g6, .int .i64 g7, .int .i64 g8, .int .i64 g9]] w fun e w' => RTold B1 sb z (Jr.fmtS g D).2 (Jr.fmtS g D).1 w e w') := hid (fun hs ha => by have := rfmt_any g hi hs ha; rwa [hcell] at this)
 have qpo : Hid (∀ {B0 db k : Nat} {y : Lay} {D : Dev} {w : World}, D.Ok k → DevAt B0 w db y D → Calls Tryz.prog 16 #[.pointer (some ⟨db, 0, none⟩), .agg #[.int .i64 g1, .int .i64 g2, .int .i64 g3, .int .i64 g4, .int .i64 g5, .int .i64 g6, .int .i64 g7, .int .i64 g8, .int .i64 g9]] w fun e w' => ∃ v, e = .returned (.tuple #[v, .int .i64 (Jr.openS g D).2]) ∧ Below w.heap.size w w' ∧ ((Jr.openS g D).1 = none ∧ v = .pointer none ∨ ∃ L lb, (Jr.openS g D).1 = some L ∧ v = .pointer (some ⟨lb, 0, none⟩) ∧ LogAt lb db g (L.v g) w')) := hid (fun hk hd => by have := popen_any g hk hd; rwa [hcell] at this)
 have qso : Hid (∀ {B1 sb k : Nat} {z : RLay} {D : Dev} {w : World}, D.Ok k → RefAt B1 w sb z D → Calls Tryz.prog 30 #[.pointer (some ⟨sb, 0, none⟩), .agg #[.int .i64 g1, .int .i64 g2, .int .i64 g3, .int .i64 g4, .int .i64 g5, .int .i64 g6, .int .i64 g7, .int .i64 g8, .int .i64 g9]] w fun e w' => ∃ v, e = .returned (.tuple #[v, .int .i64 (Jr.openS g D).2]) ∧ Below w.heap.size w w' ∧ ((Jr.openS g D).1 = none ∧ v = .pointer none ∨ ∃ L lb, (Jr.openS g D).1 = some L ∧ v = .pointer (some ⟨lb, 0, none⟩) ∧ RLogAt lb sb g (L.v g) w')) := hid (fun hk hs => by have := ropen_any9 g hi hk hs; rwa [hcell] at this)
 have qpr : Hid (∀ {B0 db k : Nat} {y : Lay} {D : Dev} {w : World}, D.Ok k → DevAt B0 w db y D → D.acts + 6000 < 1000000000000 → Calls Tryz.prog 15 #[.pointer (some ⟨db, 0, none⟩), .agg #[.int .i64 g1, .int .i64 g2, .int .i64 g3, .int .i64 g4, .int .i64 g5, .int .i64 g6, .int .i64 g7, .int .i64 g8, .int .i64 g9]] w fun e w' => ∃ v, e = .returned (.tuple #[v, .int .i64 (Jr.repS g D).2.1]) ∧ DevAt B0 w' db y (Jr.repS g D).1 ∧ Only (devB db y) w w' ∧ OwnT w.heap.size w' v (Jr.repS g D).2.2) := hid (fun hk hd ha => by have := prep_any g hk hd ha; rwa [hcell] at this)
 have qsr : Hid (∀ {B1 sb k : Nat} {z : RLay} {D : Dev} {w : World}, D.Ok k → RefAt B1 w sb z D → D.acts + 6000 < 1000000000000 → Calls Tryz.prog 32 #[.pointer (some ⟨sb, 0, none⟩), .agg #[.int .i64 g1, .int .i64 g2, .int .i64 g3, .int .i64 g4, .int .i64 g5, .int .i64 g6, .int .i64 g7, .int .i64 g8, .int .i64 g9]] w fun e w' => ∃ v, e = .returned (.tuple #[v, .int .i64 (Jr.repS g D).2.1]) ∧ RefAt B1 w' sb z (Jr.repS g D).1 ∧ Only (refB sb z) w w' ∧ OwnT w.heap.size w' v (Jr.repS g D).2.2) := hid (fun hk hs ha => by have := rrep_any g hi hk hs ha; rwa [hcell] at this)
 have HF : Hid ((Jr.fmtS g D0).1.Ok 600 ∧ D0.Ok 600 ∧ D0.acts + 6000 < 1000000000000) := hid ⟨(Jr.fmtS_ok hOk0).mono (by omega), hOk0.mono (by omega), by have := hOk0.acts; omega⟩
 have HOP := hid (fun D => Jr.openS_cases g D)
 have HRO : Hid (∀ D, D.Ok 600 → (Jr.repS g D).1.Ok 5600 ∧ (Jr.repS g D).2.2.length ≤ 600 ∧ ∀ t ∈ (Jr.repS g D).2.2, t.ch.length ≤ 600 ∧ t.rv.length ≤ 20000) := hid (fun D h => ⟨Jr.repS_ok h, repS_txns h⟩)
 have R0 := Row.new w 30 [.int .i64 g1, .int .i64 g2, .int .i64 g3, .int .i64 g4, .int .i64 g5, .int .i64 g6, .int .i64 g7, .int .i64 g8, .int .i64 g9] rfl
 have HR0 := hid R0
 have BA := hid ((Below.refl w.heap.size w).alloc (Nat.le_refl _) (.cells #[.int .i64 g1, .int .i64 g2, .int .i64 g3, .int .i64 g4, .int .i64 g5, .int .i64 g6, .int .i64 g7, .int .i64 g8, .int .i64 g9] 30))
 have HZ : Hid (w.heap.size < (w.alloc (.cells #[.int .i64 g1, .int .i64 g2, .int .i64 g3, .int .i64 g4, .int .i64 g5, .int .i64 g6, .int .i64 g7, .int .i64 g8, .int .i64 g9] 30)).heap.size) := hid (by simp)
 have HNZ := hid hn
 have HN1 := hid hn1
 clear R0 hn hn1 hOk0 hcell
 go_enter Tryz.func6, Tryz.ntmps6
 go_upto_region 5 with (first | (go_at_call 24; (with_reducible refine (qd.out _).mono ?_); rintro e wa ⟨db, rfl, ⟨y, hDa⟩, ba⟩) | (go_at_call 28; (with_reducible refine (qs.out _).mono ?_); rintro e wb ⟨sb, rfl, ⟨z, hSb⟩, bb⟩) | fail "none")
 generalize w.alloc _ = w1 at *
 have HS0 := hid (RdS.first (HR0.out.below ba HR0.out.lt) (below_next BA.out ba) HZ.out ba.size hDa hSb bb)
 generalize wa.heap.size = B1 at *
 generalize w1.heap.size = B0 at *
 clear hDa hSb ba bb HZ BA HR0 qd qs
 go_upto_if 39 with fail
 go_cut [] (fun wx => ∃ D1, Hid (D1.Ok 600) ∧ Hid (RdS w [.int .i64 g1, .int .i64 g2, .int .i64 g3, .int .i64 g4, .int .i64 g5, .int .i64 g6, .int .i64 g7, .int .i64 g8, .int .i64 g9] B0 B1 db y sb z D1 D1 wx))
 case first =>
  by_cases hm3 : m % 4 = 3
  ·have hb3 : ((m : Int) % 4 == 3) = true := by rw [beq_iff_eq]; omega
   obtain ⟨D1, E1, hF⟩ : ∃ D1 E1, Jr.fmtS g D0 = (D1, E1) := ⟨_, _, rfl⟩
   have qpf0 : Hid (∀ {w : World}, DevAt B0 w db y D0 → Calls Tryz.prog 21 #[.pointer (some ⟨db, 0, none⟩), .agg #[.int .i64 g1, .int .i64 g2, .int .i64 g3, .int .i64 g4, .int .i64 g5, .int .i64 g6, .int .i64 g7, .int .i64 g8, .int .i64 g9]] w fun e w' => ActTold B0 db y E1 D1 w e w') := hid (fun hd => by have := qpf.out hd HF.out.2.2; rwa [hF] at this)
   have qsf0 : Hid (∀ {w : World}, RefAt B1 w sb z D0 → Calls Tryz.prog 29 #[.pointer (some ⟨sb, 0, none⟩), .agg #[.int .i64 g1, .int .i64 g2, .int .i64 g3, .int .i64 g4, .int .i64 g5, .int .i64 g6, .int .i64 g7, .int .i64 g8, .int .i64 g9]] w fun e w' => RTold B1 sb z E1 D1 w e w') := hid (fun hs => by have := qsf.out hs HF.out.2.2; rwa [hF] at this)
   have HOK1 : Hid (D1.Ok 600) := hid (by have := HF.out.1; rwa [hF] at this)
   clear hm3 hF HF qpf qsf
   have HS0d := hid (HS0.out.below (Below.refl _ _).drew)
   obtain ⟨k0, k1, k2, k3, k4, k5, k6, k7, k8⟩ := HS0.out.geo.c9
   go_wp2_with fail
   go_region_held3 (fun w' => w'.cell? ⟨w.heap.size, 0, none⟩ = some (.int .i64 g1) ∧ w'.cell? ⟨w.heap.size, 1, none⟩ = some (.int .i64 g2) ∧ w'.cell? ⟨w.heap.size, 2, none⟩ = some (.int .i64 g3) ∧ w'.cell? ⟨w.heap.size, 3, none⟩ = some (.int .i64 g4) ∧ w'.cell? ⟨w.heap.size, 4, none⟩ = some (.int .i64 g5) ∧ w'.cell? ⟨w.heap.size, 5, none⟩ = some (.int .i64 g6) ∧ w'.cell? ⟨w.heap.size, 6, none⟩ = some (.int .i64 g7) ∧ w'.cell? ⟨w.heap.size, 7, none⟩ = some (.int .i64 g8) ∧ w'.cell? ⟨w.heap.size, 8, none⟩ = some (.int .i64 g9))
    (first | exact ⟨k0, k1, k2, k3, k4, k5, k6, k7, k8⟩ | exact ⟨z0, z1, z2, z3, z4, z5, z6, z7, z8⟩ | exact ⟨y0, y1, y2, y3, y4, y5, y6, y7, y8⟩)
    (first | (go_at_call 21; (with_reducible refine (qpf0.out HS0d.out.d).mono ?_); rintro e w2 ⟨rfl, hd2, ho2⟩; have HS2 := hid (HS0d.out.dev hd2 ho2); obtain ⟨z0, z1, z2, z3, z4, z5, z6, z7, z8⟩ := HS2.out.geo.c9) | (go_at_call 29; (with_reducible refine (qsf0.out HS2.out.s).mono ?_); rintro e w3 ⟨rfl, hs3, ho3⟩; have HS3 := hid (HS2.out.ref hs3 ho3); obtain ⟨y0, y1, y2, y3, y4, y5, y6, y7, y8⟩ := HS3.out.geo.c9) | fail "none")
   go_wp2_with fail
   go_meet
   exact ⟨D1, HOK1, HS3⟩
  ·have hb3 : ((m : Int) % 4 == 3) = false := by rw [beq_eq_false_iff_ne]; omega
   clear hm3
   go_wp2_with fail
   go_meet
   exact ⟨D0, hid HF.out.2.1, HS0⟩
 case rest =>
  obtain ⟨D1, HOK, HS1⟩ := hcut
  clear HS0 HF qpf qsf
  have HA1 : Hid (D1.acts + 6000 < 1000000000000) := hid (by have := HOK.out.acts; omega)
  obtain ⟨OP, OE, hO⟩ : ∃ OP OE, Jr.openS g D1 = (OP, OE) := ⟨_, _, rfl⟩
  have qpo1 : Hid (∀ {w : World}, DevAt B0 w db y D1 → Calls Tryz.prog 16 #[.pointer (some ⟨db, 0, none⟩), .agg #[.int .i64 g1, .int .i64 g2, .int .i64 g3, .int .i64 g4, .int .i64 g5, .int .i64 g6, .int .i64 g7, .int .i64 g8, .int .i64 g9]] w fun e w' => ∃ v, e = .returned (.tuple #[v, .int .i64 OE]) ∧ Below w.heap.size w w' ∧ (OP = none ∧ v = .pointer none ∨ ∃ L lb, OP = some L ∧ v = .pointer (some ⟨lb, 0, none⟩) ∧ LogAt lb db g (L.v g) w')) := hid (fun hd => by have := qpo.out HOK.out hd; rwa [hO] at this)
  have qso1 : Hid (∀ {w : World}, RefAt B1 w sb z D1 → Calls Tryz.prog 30 #[.pointer (some ⟨sb, 0, none⟩), .agg #[.int .i64 g1, .int .i64 g2, .int .i64 g3, .int .i64 g4, .int .i64 g5, .int .i64 g6, .int .i64 g7, .int .i64 g8, .int .i64 g9]] w fun e w' => ∃ v, e = .returned (.tuple #[v, .int .i64 OE]) ∧ Below w.heap.size w w' ∧ (OP = none ∧ v = .pointer none ∨ ∃ L lb, OP = some L ∧ v = .pointer (some ⟨lb, 0, none⟩) ∧ RLogAt lb sb g (L.v g) w')) := hid (fun hs => by have := qso.out HOK.out hs; rwa [hO] at this)
  have HOP1 : Hid ((OP = none ∧ OE ≠ 0) ∨ ∃ L, OP = some L ∧ OE = 0 ∧ Geo.May g ∧ L.used ≤ 100000) := hid (by
   have := HOP.out D1
   rw [hO] at this
   rcases this with h | ⟨L, h2, h3, h4, h5⟩
   ·exact .inl h
   ·cases h2
    refine .inr ⟨L, rfl, rfl, h3, ?_⟩
    obtain ⟨-, -, -, f4, -⟩ := readL_fits h3 HOK.out.now (by have := HOK.out.len; omega) h4
    have := (Jr.plc_of h3).2.1
    omega)
  clear hO qpo qso HOP
  obtain ⟨k0, k1, k2, k3, k4, k5, k6, k7, k8⟩ := HS1.out.geo.c9
  go_upto_region 11 with (first | (go_at_call 16; (with_reducible refine (qpo1.out HS1.out.d).mono ?_); rintro e w4 ⟨v4, rfl, b4, hv4⟩; have HS4 := hid (HS1.out.below b4); have HV4 := hid hv4; clear hv4; obtain ⟨z0, z1, z2, z3, z4, z5, z6, z7, z8⟩ := HS4.out.geo.c9) | (go_at_call 30; (with_reducible refine (qso1.out HS4.out.s).mono ?_); rintro e w5 ⟨v5, rfl, b5, hv5⟩; have HS5 := hid (HS4.out.below b5); have HV5 := hid hv5; clear hv5) | fail "none")
  have HB5 := hid b5
  clear b4 b5 k0 k1 k2 k3 k4 k5 k6 k7 k8 z0 z1 z2 z3 z4 z5 z6 z7 z8
  go_cut [90] from 61 to 90 (fun t wx => t = .bool false ∧ Hid (RdS w [.int .i64 g1, .int .i64 g2, .int .i64 g3, .int .i64 g4, .int .i64 g5, .int .i64 g6, .int .i64 g7, .int .i64 g8, .int .i64 g9] B0 B1 db y sb z D1 D1 wx))
  case first =>
   rcases HOP1.out with ⟨h1, h2⟩ | ⟨L, h1, h2, h3, h4⟩
   ·have e4 : v4 = .pointer none := by
     rcases HV4.out with ⟨-, h⟩ | ⟨L, lb, h, -⟩
     ·exact h
     ·rw [h1] at h; cases h
    have e5 : v5 = .pointer none := by
     rcases HV5.out with ⟨-, h⟩ | ⟨L, lb, h, -⟩
     ·exact h
     ·rw [h1] at h; cases h
    subst e4 e5
    have hE1 : (OE == 0) = false := by rw [beq_eq_false_iff_ne]; exact h2
    have hE2 : (OE != 0) = true := by rw [bne_iff_ne]; exact h2
    clear h1 h2 HV4 HV5 HOP1
    go_quiet (fail)
    go_step
    go_step
    go_meet
    exact ⟨rfl, hid (HS5.out.below (below_dn _ nq))⟩
   ·obtain ⟨la, e4, L4⟩ : ∃ la, v4 = .pointer (some ⟨la, 0, none⟩) ∧ LogAt la db g (L.v g) w4 := by
     rcases HV4.out with ⟨h, -⟩ | ⟨L', la, h, e, k⟩
     ·rw [h1] at h; cases h
     ·rw [h1] at h; cases h; exact ⟨la, e, k⟩
    obtain ⟨lb, e5, L5⟩ : ∃ lb, v5 = .pointer (some ⟨lb, 0, none⟩) ∧ RLogAt lb sb g (L.v g) w5 := by
     rcases HV5.out with ⟨h, -⟩ | ⟨L', lb, h, e, k⟩
     ·rw [h1] at h; cases h
     ·rw [h1] at h; cases h; exact ⟨lb, e, k⟩
    subst e4 e5 h2
    have LA := hid (show LogAt la db g (L.v g) w5.drew from (Row.below L4 HB5.out (Row.lt L4)).below (Below.refl _ _).drew (Row.lt (Row.below L4 HB5.out (Row.lt L4))))
    have LB := hid (show RLogAt lb sb g (L.v g) w5.drew from Row.below L5 (Below.refl _ _).drew (Row.lt L5))
    have HS5d := hid (HS5.out.below (Below.refl _ _).drew)
    have c0 : w5.cell? ⟨lb, 11, none⟩ = some (.int .u64 ((L.v g).seq : Int)) := Row.cellAt L5 11 rfl
    have qR : Hid (∀ {w}, LogAt la db g (L.v g) w → Calls Tryz.prog 17 #[.pointer (some ⟨la, 0, none⟩)] w fun e w' => e = .returned (.int .i64 ((Jr.plc g : Nat) - ((L.v g).used : Int))) ∧ Below w.heap.size w w') := hid (fun h => room_any h3 _ h h4)
    have qRR : Hid (∀ {w}, RLogAt lb sb g (L.v g) w → Calls Tryz.prog 31 #[.pointer (some ⟨lb, 0, none⟩)] w fun e w' => e = .returned (.int .i64 ((Jr.plc g : Nat) - ((L.v g).used : Int))) ∧ Below w.heap.size w w') := hid (fun h => rroom_any h3 _ h h4)
    have qN : Hid (∀ {w}, LogAt la db g (L.v g) w → Calls Tryz.prog 18 #[.pointer (some ⟨la, 0, none⟩)] w fun e w' => e = .returned (.int .u64 ((L.v g).seq : Int)) ∧ w = w') := hid (fun h => next_any _ h)
    generalize (Jr.plc g : Nat) - ((L.v g).used : Int) = RM at *
    clear h1 h3 h4 HV4 HV5 HOP1 L4 L5 HB5 qpo1 qso1
    go_region_held3 (fun w' => w'.cell? ⟨lb, 11, none⟩ = some (.int .u64 ((L.v g).seq : Int)))
     (first | exact c0 | exact c1 | exact c2)
     (first | (go_at_call 17; (with_reducible refine (qR.out LA.out).mono ?_); rintro e w6 ⟨rfl, b6⟩; have LA6 := hid (show LogAt la db g (L.v g) w6 from Row.below LA.out b6 (Row.lt LA.out)); have LB6 := hid (show RLogAt lb sb g (L.v g) w6 from Row.below LB.out b6 (Row.lt LB.out)); have HS6 := hid (HS5d.out.below b6); have c1 : w6.cell? ⟨lb, 11, none⟩ = some (.int .u64 ((L.v g).seq : Int)) := Row.cellAt LB6.out 11 rfl) | (go_at_call 31; (with_reducible refine (qRR.out LB6.out).mono ?_); rintro e w7 ⟨rfl, b7⟩; have LA7 := hid (show LogAt la db g (L.v g) w7 from Row.below LA6.out b7 (Row.lt LA6.out)); have LB7 := hid (show RLogAt lb sb g (L.v g) w7 from Row.below LB6.out b7 (Row.lt LB6.out)); have HS7 := hid (HS6.out.below b7); have c2 : w7.cell? ⟨lb, 11, none⟩ = some (.int .u64 ((L.v g).seq : Int)) := Row.cellAt LB7.out 11 rfl) | (go_at_call 18; (with_reducible refine (qN.out LA7.out).mono ?_); rintro e w8 ⟨rfl, rfl⟩) | fail "none")
    go_step
    go_step
    go_meet
    exact ⟨rfl, HS7⟩
  case rest =>
   obtain ⟨rfl, HS6⟩ := hcut
   clear HV4 HV5 HOP1 HS1 HS4 HS5 HB5 qpo1 qso1
   obtain ⟨D2, RE, RT, hRP⟩ : ∃ D2 RE RT, Jr.repS g D1 = (D2, RE, RT) := ⟨_, _, _, rfl⟩
   have qpr1 : Hid (∀ {w : World}, DevAt B0 w db y D1 → Calls Tryz.prog 15 #[.pointer (some ⟨db, 0, none⟩), .agg #[.int .i64 g1, .int .i64 g2, .int .i64 g3, .int .i64 g4, .int .i64 g5, .int .i64 g6, .int .i64 g7, .int .i64 g8, .int .i64 g9]] w fun e w' => ∃ v, e = .returned (.tuple #[v, .int .i64 RE]) ∧ DevAt B0 w' db y D2 ∧ Only (devB db y) w w' ∧ OwnT w.heap.size w' v RT) := hid (fun hd => by have := qpr.out HOK.out hd HA1.out; rwa [hRP] at this)
   have qsr1 : Hid (∀ {w : World}, RefAt B1 w sb z D1 → Calls Tryz.prog 32 #[.pointer (some ⟨sb, 0, none⟩), .agg #[.int .i64 g1, .int .i64 g2, .int .i64 g3, .int .i64 g4, .int .i64 g5, .int .i64 g6, .int .i64 g7, .int .i64 g8, .int .i64 g9]] w fun e w' => ∃ v, e = .returned (.tuple #[v, .int .i64 RE]) ∧ RefAt B1 w' sb z D2 ∧ Only (refB sb z) w w' ∧ OwnT w.heap.size w' v RT) := hid (fun hs => by have := qsr.out HOK.out hs HA1.out; rwa [hRP] at this)
   have HRO1 : Hid (D2.Ok 5600 ∧ RT.length ≤ 600 ∧ ∀ t ∈ RT, t.ch.length ≤ 600 ∧ t.rv.length ≤ 20000) := hid (by have := HRO.out D1 HOK.out; rwa [hRP] at this)
   clear hRP qpr qsr HRO
   obtain ⟨k0, k1, k2, k3, k4, k5, k6, k7, k8⟩ := HS6.out.geo.c9
   go_upto_region 15 with (first | (go_at_call 15; (with_reducible refine (qpr1.out HS6.out.d).mono ?_); rintro e w7 ⟨v7, rfl, hd7, ho7, hv7⟩; have HS7 := hid (HS6.out.dev hd7 ho7); have HV7 := hid hv7; clear hv7; obtain ⟨z0, z1, z2, z3, z4, z5, z6, z7, z8⟩ := HS7.out.geo.c9) | (go_at_call 32; (with_reducible refine (qsr1.out HS7.out.s).mono ?_); rintro e w8 ⟨v8, rfl, hs8, ho8, hv8⟩; have HS8 := hid (HS7.out.ref hs8 ho8); have HV8 := hid hv8; clear hv8) | fail "none")
   clear k0 k1 k2 k3 k4 k5 k6 k7 k8 z0 z1 z2 z3 z4 z5 z6 z7 z8
   have HX8 : Hid (OwnT wc.heap.size w8 v7 RT) := hid (OwnT.onlyB HV7.out ho8 (fun k hk => HS6.out.s.refB_lt k hk))
   have HK : Hid (w.heap.size < wc.heap.size ∧ (∀ k ∈ devB db y, k < wc.heap.size) ∧ (∀ k ∈ refB sb z, k < wc.heap.size)) := hid ⟨HS6.out.geo.lt, HS6.out.dev_lt, HS6.out.s.refB_lt⟩
   have HKZ8 : Hid (wc.heap.size ≤ w8.heap.size) := hid (Nat.le_trans ho7.size ho8.size)
   have qsm := hid (txns_same w8 v7 v8 RT HX8.out.at HV8.out.at (by have := HRO1.out.2.1; omega) (fun t ht => by have := HRO1.out.2.2 t ht; omega))
   clear hd7 ho7 hs8 ho8 HS6 HS7 HV7 HV8
   go_upto_region 17 with (first | (go_at_call 26; (with_reducible refine (qsm.out).mono ?_); rintro e w9 ⟨rfl, nq, rfl⟩) | fail "none")
   have HS9 := hid (HS8.out.below (below_dn w8 nq))
   have HX9 := hid (OwnT.drewN HX8.out nq)
   have HKZ : Hid (wc.heap.size ≤ (w8.drewN nq).heap.size) := hid HKZ8.out
   generalize w8.drewN nq = w9 at *
   clear HKZ8 HS8 HX8 qsm
   obtain ⟨xs, hxl, hsp⟩ := HX9.out.spoil HRO1.out.2.2
   obtain ⟨N, hN⟩ : ∃ N, xs.length = N := ⟨_, rfl⟩
   have HN := hid hN
   have hN6 : N ≤ 600 := by have := HRO1.out.2.1; omega
   have hrow := hsp.row
   rw [hN] at hrow
   obtain ⟨ad, cap, rfl⟩ := own_formW hrow
   have SP := hid hsp
   have HOK2 := hid HRO1.out.1
   have HB9 := hid (Below.refl wc.heap.size w9)
   generalize wc.heap.size = K at *
   clear hN hxl hsp hrow HX9 HRO1
   go_wp2_with fail
   go_loopw [21, 22, 23] (fun ta tb tc wr => ∃ (k : Nat) (u1 u2 : Value), ta = .int .i64 (k : Int) ∧ u1 = tb ∧ u2 = tc ∧ k ≤ N ∧ Hid (Spoil K wr (.slice ad N cap) xs) ∧ Hid (Below K w9 wr)) (fun ta _ _ _ => N - (intOf ta).toNat)
   case atStart => exact ⟨0, _, _, rfl, rfl, rfl, by omega, SP, HB9⟩
   case round =>
    clear SP HB9
    obtain ⟨k, u1, u2, rfl, rfl, rfl, hk, SP, HB⟩ := hrel
    by_cases hlt : k < N
    ·have i1 : (k : Int) < (N : Int) := by omega
     obtain ⟨hb, ha, -, -, -⟩ := own_someW SP.out.row (by omega)
     subst ha
     obtain ⟨⟨cv, rv⟩, hx⟩ : ∃ x, xs[k]? = some x := ⟨_, List.getElem?_eq_getElem (by have := HN.out; omega)⟩
     obtain ⟨⟨nc, hnc, lc, oc⟩, nr, hnr, lr, orr⟩ := SP.out.ins k _ hx
     dsimp only at oc orr
     obtain ⟨ca, cc, rfl⟩ := own_formW oc
     obtain ⟨ra, rc, rfl⟩ := own_formW orr
     have HX := hid hx
     clear oc orr hx lc lr
     go_wp2_with fail
     go_loopw [22] (fun tb wr => ∃ (j : Nat), tb = .int .i64 (j : Int) ∧ j ≤ nc ∧ Hid (Spoil K wr (.slice (some ⟨hb, 0, none⟩) N cap) xs) ∧ Hid (Below K w9 wr)) (fun tb _ => nc - (intOf tb).toNat)
     case atStart => exact ⟨0, rfl, by omega, SP, HB⟩
     case round =>
      clear SP HB
      obtain ⟨j, rfl, hj, SP, HB⟩ := hrel
      have c0 := (SP.out.heads HX.out).1
      have c1 := (SP.out.heads HX.out).2
      by_cases hlj : j < nc
      ·have i2 : (j : Int) < (nc : Int) := by omega
       obtain ⟨cg, RC⟩ := SP.out.chg HX (by omega)
       have e := RC.ad
       subst e
       obtain ⟨x0, d0⟩ := RC.cell (j * 2) (by omega)
       obtain ⟨x1, d1⟩ := RC.cell (j * 2 + 1) (by omega)
       have f0 := RC.free (j * 2)
       have f1 := RC.free (j * 2 + 1)
       have HRC := hid RC
       clear RC
       have S2 := hid ((SP.out.setR HRC.out (by decide) (j * 2) (.int .i64 (-1))).setR (HRC.out.set (by omega) (j * 2) (.int .i64 (-1))) (by decide) (j * 2 + 1) (.string ⟨#[]⟩))
       have B2 := hid ((HB.out.setCell (p := ⟨cg, j * 2, none⟩) HRC.out.lo (.int .i64 (-1))).setCell (p := ⟨cg, j * 2 + 1, none⟩) HRC.out.lo (.string ⟨#[]⟩))
       clear SP HB
       go_wp2_with fail
       go_roundw
       case rel => exact ⟨j + 1, by go_num, by omega, S2, B2⟩
       case measure => simp [intOf]; omega
      ·have i2 : ¬ (j : Int) < (nc : Int) := by omega
       go_wp2_with fail
       go_loopw [23] (fun tb wr => ∃ (j : Nat), tb = .int .i64 (j : Int) ∧ j ≤ nr ∧ Hid (Spoil K wr (.slice (some ⟨hb, 0, none⟩) N cap) xs) ∧ Hid (Below K w9 wr)) (fun tb _ => nr - (intOf tb).toNat)
       case atStart => exact ⟨0, rfl, by omega, SP, HB⟩
       case round =>
        clear SP HB c0 c1
        obtain ⟨j, rfl, hj, SP, HB⟩ := hrel
        have c0 := (SP.out.heads HX.out).1
        have c1 := (SP.out.heads HX.out).2
        by_cases hlj : j < nr
        ·have i2 : (j : Int) < (nr : Int) := by omega
         obtain ⟨rg, RC⟩ := SP.out.int HX (by omega)
         have e := RC.ad
         subst e
         obtain ⟨x0, d0⟩ := RC.cell j (by omega)
         have f0 := RC.free j
         have HRC := hid RC
         clear RC
         have S2 := hid (SP.out.setR HRC.out (by decide) j (.int .i64 (-1)))
         have B2 := hid (HB.out.setCell (p := ⟨rg, j, none⟩) HRC.out.lo (.int .i64 (-1)))
         clear SP HB
         go_wp2_with fail
         go_roundw
         case rel => exact ⟨j + 1, by go_num, by omega, S2, B2⟩
         case measure => simp [intOf]; omega
        ·have i2 : ¬ (j : Int) < (nr : Int) := by omega
         go_wp2_with fail
         go_roundw
         case rel => exact ⟨k + 1, _, _, by go_num, rfl, rfl, by omega, SP, HB⟩
         case measure => simp [intOf]; omega
    ·have i1 : ¬ (k : Int) < (N : Int) := by omega
     have HS10 := hid (HS9.out.belowK HB.out HK.out HKZ.out)
     clear HS9 SP HB HK HKZ HN
     go_wp2_with fail
     have HS11 := hid (HS10.out.below (Below.refl _ _).drew)
     have PL : Hid ((pendI D2).length ≤ 4096) := hid (pendI_length HOK2.out HS10.out.d.pos.2)
     have qA : Hid (∀ {w}, DevAt B0 w db y D2 → Calls Tryz.prog 33 #[.pointer (some ⟨db, 0, none⟩)] w fun e w' => e = .returned (.int .i64 D2.acts) ∧ w = w') := hid (fun h => acts_any h)
     have qK : Hid (∀ {w}, DevAt B0 w db y D2 → Calls Tryz.prog 25 #[.pointer (some ⟨db, 0, none⟩)] w fun e w' => e = .returned (.string (txt (cat D2.kept))) ∧ Below w.heap.size w w') := hid (fun h => kept_any h HOK2.out.kept)
     have qKR : Hid (∀ {w}, RefAt B1 w sb z D2 → Calls Tryz.prog 34 #[.pointer (some ⟨sb, 0, none⟩)] w fun e w' => e = .returned (.string (txt (cat D2.kept))) ∧ w = w') := hid (fun h => rkept_any h 5600 HOK2.out)
     have qP : Hid (∀ {w}, DevAt B0 w db y D2 → Calls Tryz.prog 36 #[.pointer (some ⟨db, 0, none⟩)] w fun e w' => ∃ v, e = .returned v ∧ OwnInts w.heap.size w' v (pendI D2) ∧ Below w.heap.size w w') := hid (fun h => (pending_any h).mono (by rintro e w' ⟨v, h1, h2, h3⟩; exact ⟨v, h1, pend_ints h2, h3⟩))
     have qPR : Hid (∀ {w}, RefAt B1 w sb z D2 → Calls Tryz.prog 37 #[.pointer (some ⟨sb, 0, none⟩)] w fun e w' => ∃ v, e = .returned v ∧ OwnInts w.heap.size w' v (pendI D2) ∧ Below w.heap.size w w') := hid (fun h => (rpending_any h).mono (by rintro e w' ⟨v, h1, h2, h3⟩; exact ⟨v, h1, pend_ints h2, h3⟩))
     have qSI : Hid (∀ {w v1 v2}, IntsAt w v1 (pendI D2) → IntsAt w v2 (pendI D2) → Calls Tryz.prog 35 #[v1, v2] w fun e w' => e = .returned (.bool true) ∧ Below w.heap.size w w') := hid (fun h1 h2 => (isame_any _ _ _ _ _ h1 h2 (by have := PL.out; omega) (by have := PL.out; omega)).mono (by rintro e w' ⟨h1, m, rfl⟩; exact ⟨by rw [h1]; simp, below_dn _ m⟩))
     have c0 : wr.cell? ⟨sb, 4, none⟩ = some (.int .i64 D2.acts) := HS10.out.s.cells.cellAt 4 rfl
     generalize hDA : (D2.acts : Int) = DA at *
     generalize pendI D2 = PI at *
     generalize txt (cat D2.kept) = TX at *
     clear HOK2 PL hDA
     go_region_held3 (fun w' => w'.cell? ⟨sb, 4, none⟩ = some (.int .i64 DA))
      (first | exact c0 | exact c1 | exact c2 | exact c3 | exact c4 | exact c5)
      (first | (go_at_call 33; (with_reducible refine (qA.out HS11.out.d).mono ?_); rintro e wq ⟨rfl, rfl⟩) | (go_at_call 25; (with_reducible refine (qK.out HS11.out.d).mono ?_); rintro e wA ⟨rfl, bA⟩; have HSA := hid (HS11.out.below bA); have c1 : wA.cell? ⟨sb, 4, none⟩ = some (.int .i64 DA) := (bA.cell (p := ⟨sb, 4, none⟩) (World.block_lt_of_cell? _ _ c0)).trans c0) | (go_at_call 34; (with_reducible refine (qKR.out HSA.out.s).mono ?_); rintro e wq ⟨rfl, rfl⟩) | (go_at_call 36; (with_reducible refine (qP.out HSA.out.d).mono ?_); rintro e wP ⟨vP, rfl, oP, bP⟩; (obtain ⟨aP, cP, rfl⟩ := oP.slice); have HSP := hid (HSA.out.below bP); have c2 : wP.cell? ⟨sb, 4, none⟩ = some (.int .i64 DA) := (bP.cell (p := ⟨sb, 4, none⟩) (World.block_lt_of_cell? _ _ c1)).trans c1) | (go_at_call 37; (with_reducible refine (qPR.out HSP.out.s).mono ?_); rintro e wQ ⟨vQ, rfl, oQ, bQ⟩; (obtain ⟨aQ, cQ, rfl⟩ := oQ.slice); have HSQ := hid (HSP.out.below bQ); have c3 : wQ.cell? ⟨sb, 4, none⟩ = some (.int .i64 DA) := (bQ.cell (p := ⟨sb, 4, none⟩) (World.block_lt_of_cell? _ _ c2)).trans c2) | (go_at_call 35; (with_reducible refine (qSI.out (oP.below bQ).at oQ.at).mono ?_); rintro e wS ⟨rfl, bS⟩; have HSS := hid (HSQ.out.below bS); have c4 : wS.cell? ⟨sb, 4, none⟩ = some (.int .i64 DA) := (bS.cell (p := ⟨sb, 4, none⟩) (World.block_lt_of_cell? _ _ c3)).trans c3) | (go_at_call 14; (with_reducible refine (qal.out _).mono ?_); rintro e wT ⟨rfl, bT⟩; have HST := hid (HSS.out.below bT); have c5 : wT.cell? ⟨sb, 4, none⟩ = some (.int .i64 DA) := (bT.cell (p := ⟨sb, 4, none⟩) (World.block_lt_of_cell? _ _ c4)).trans c4) | fail "none")
     go_wp2_with fail
     go_ret
     exact ⟨rfl, HST.out.bel⟩
theorem JournalReads_walk (a0 : ByteArray) (g : Geo.G) (a2 : UInt8) (hl : a0.size ≤ 9223372036854775807) (hi : GeoIn g) {w : World} :
  Calls Tryz.prog 6 #[.string a0, .agg (Geo.cells g), .int .u8 (a2.toNat : Int)] w fun e w' => e = .returned (.bool true) ∧ Below w.heap.size w w' := by
 have hm : a2.toNat < 256 := a2.toNat_lt
 by_cases h : 42240 < a0.size
 ·exact reads_big a0 g _ hl h w
 ·by_cases h0 : a0.size = 0 ∨ a0.size % 128 ≠ 0
  ·exact reads_nil a0 g _ hm hl h0 (by omega) w
  ·exact reads_main a0 g _ (a0.size / 128) hm (by omega) (by omega) hi w
end Go.Proofs.YtnpdhidliaahbaaGreat
