/- The law DeviceTwo: its walk. -/
import Derived.Test.YtjoopkdednmllaaDevOpensLaw
import Derived.Test.YtjoopkdednmllaaDevArmLaw
namespace Go.Proofs.Ytjoopkdednmllaa
open Go Go.RowKit
variable {B b : Nat} {w : World} {y : Lay} {D : Dev}

theorem chop_cat_self (L : List ByteArray) (hL : sized L) : chop (txt (cat L)) L.length = L := by
  apply ext_blocks
  · exact chop_length _ _
  intro i hi
  rw [chop_length] at hi
  have hg : ∀ n, i < n → n ≤ L.length → (chop (txt (cat L)) n).getD i ⟨#[]⟩ = blkS (txt (cat L)) i := by
    intro n
    induction n with
    | zero => intro h; omega
    | succ n ih =>
      intro h1 h2
      show (chop (txt (cat L)) n ++ [blkS (txt (cat L)) n]).getD i ⟨#[]⟩ = _
      rcases Nat.lt_or_ge i n with h | h
      · have := ih h (by omega)
        rw [← this]
        simp only [List.getD]; rw [List.getElem?_append_left (by rw [chop_length]; exact h)]
      · obtain rfl : i = n := by omega
        simp [List.getD, chop_length]
  rw [hg L.length hi (Nat.le_refl _), ← blk_mid, cat_slice L hL i hi]

theorem Dev.Ok.fresh' (s : ByteArray) (n : Nat) (hs : s.size = n * 128) : (Dev.fresh (chop s n)).Ok 0 := Dev.Ok.fresh _ (chop_sized s n n hs (Nat.le_refl _))

set_option maxRecDepth 100000 in
set_option maxHeartbeats 8000000 in
theorem DeviceTwo_walk (x : UInt8) (ad : Option Addr) (cap : Nat) (l : List ActV) (ad2 : Option Addr) (cap2 : Nat) (m : List ActV) (h1 : ActsIn w ad cap l) (h2 : ActsIn w ad2 cap2 m) :
    Calls Try.prog 9 #[bval x, .slice ad l.length cap, .slice ad2 m.length cap2] w fun e w' => e = .returned (.bool true) ∧ Below w.heap.size w w' := by
  have hal := Lib.hid (fun w => alive_any w)
  have hg := Lib.hid (great_any ad cap l h1)
  have hg2 := Lib.hid (fun w (h : ActsIn w ad2 cap2 m) => great_any ad2 cap2 m h)
  have H1 := Lib.hid h1
  have H2 := Lib.hid h2
  have hlen := h1.len
  have hlen2 := h2.len
  have hp := Lib.hid (fun w (h : ActsIn w ad cap l) hl => played_any x ad cap l h hl)
  have hk : ∃ n : Int, bval x = .int .u8 n := ⟨_, rfl⟩
  have hok := fun j => (zeros_ok (1 + x.toNat % 20)).plays l j
  generalize zeros (1 + x.toNat % 20) = D0 at *
  generalize bval x = vx at *
  obtain ⟨xn, rfl⟩ := hk
  clear h1 h2
  go_enter Try.func9, Try.ntmps9
  go_wp2_with fail
  refine hg.out.mono ?_
  rintro e w1 ⟨g, rfl, b1, hg1⟩
  have B1 := Lib.hid b1
  have G := Lib.hid hg1
  clear b1 hg1
  cases g
  case true =>
    go_wp2_with fail
    go_ret
    exact ⟨rfl, B1.out⟩
  have hl120 := Lib.hid (G.out.out rfl)
  go_wp2_with fail
  refine (hg2.out _ (H2.out.below B1.out)).mono ?_
  rintro e w2 ⟨g2, rfl, b2, hg2'⟩
  have B2 := Lib.hid (B1.out.trans (b2.mono B1.out.size))
  have G2 := Lib.hid hg2'
  clear b2 hg2' hg2 B1
  cases g2
  case true =>
    go_wp2_with fail
    go_ret
    exact ⟨rfl, B2.out⟩
  have hm120 := Lib.hid (G2.out.out rfl)
  go_wp2_with fail
  refine (hp.out _ (H1.out.below B2.out) hl120.out).mono ?_
  rintro e w3 ⟨b, rfl, ⟨y, d3⟩, b3⟩
  have HOK := Lib.hid (hok l.length)
  have hac : (D0.plays l l.length).acts < 1000000000000 := by have := HOK.out.acts; have := hl120.out; omega
  generalize D0.plays l l.length = D at *
  have B3 := Lib.hid (B2.out.trans (b3.mono B2.out.size))
  have D3 : Hid (DevAt w.heap.size w3 b y D) := Lib.hid (d3.mono B2.out.size)
  clear b3 d3 B2 hp hok
  have k1 := Lib.hid (readall_any D3.out HOK.out.now)
  have kk := Lib.hid (fun w' (h : DevAt w.heap.size w' b y D) => kept_any h HOK.out.kept)
  have kr := Lib.hid (fun w' (h : DevAt w.heap.size w' b y D) => readall_any h HOK.out.now)
  have hPn : Hid ((pendTo D.pend D.pend.length).length ≤ 4096) := Lib.hid (by have := pendTo_length D.pend D.pend.length; have := HOK.out.plen; have := D3.out.pos; omega)
  have hPI : Hid (∀ B w' ad n cap, w'.ownsRow B 3 1 (.slice ad n cap) n (natVs (pendTo D.pend D.pend.length)) → IntsIn w' ad ((pendTo D.pend D.pend.length).map fun (n : Nat) => (n : Int))) := Lib.hid (fun B w' ad n cap h => intsIn_own h)
  have hDP : Hid (∀ w', DevAt w.heap.size w' b y D → Calls Try.prog 23 #[.pointer (some ⟨b, 0, none⟩)] w' fun e w'' => ∃ v, e = .returned v ∧ w''.ownsRow w'.heap.size 3 1 v (pendTo D.pend D.pend.length).length (natVs (pendTo D.pend D.pend.length)) ∧ Below w'.heap.size w' w'') := Lib.hid (fun w' h => pending_any h)
  have hcr := Lib.hid (fun w' (h : DevAt w.heap.size w' b y D) ad cap hk => crash_any h HOK.out.kept HOK.out.now ad cap [true, false, true] hk (by decide))
  obtain ⟨L, hL⟩ : ∃ L, D.crash [true, false, true] = L := ⟨_, rfl⟩
  have hLs : sized L := by rw [← hL]; exact crash_sized D l.length HOK.out _
  have hLl : L.length = D.kept.length := by rw [← hL]; exact crash_length D _
  have hpos := D3.out.pos
  have hS : (txt (cat L)).size = L.length * 128 := by show (List.toArray _).size = _; rw [List.size_toArray, cat_length _ hLs]
  have hop := Lib.hid (fun w => opendev_any (w := w) (txt (cat L)) L.length hS (by omega))
  have hch := Lib.hid (chop_cat_self L hLs)
  have hfo := Lib.hid (Dev.Ok.fresh' (txt (cat L)) L.length hS)
  rw [hL] at hcr
  rw [hch.out] at hop hfo
  have hkF : Hid ((Dev.fresh L).kept = L ∧ (Dev.fresh L).now = L) := Lib.hid ⟨rfl, rfl⟩
  have hkF2 := Lib.hid (fun B w' b y (h : DevAt B w' b y (Dev.fresh L)) => kept_any h (show sized (Dev.fresh L).kept from hLs))
  have hrF2 := Lib.hid (fun B w' b y (h : DevAt B w' b y (Dev.fresh L)) => readall_any h (show sized (Dev.fresh L).now from hLs))
  simp only [show (Dev.fresh L).kept = L from rfl] at hkF2
  simp only [show (Dev.fresh L).now = L from rfl] at hrF2
  clear hL hLs hS hch
  generalize txt (cat D.now) = NOW at *
  generalize txt (cat D.kept) = KEP at *
  generalize txt (cat L) = IMG at *
  generalize Dev.fresh L = F at *
  generalize pendTo D.pend D.pend.length = P at *
  have hsame : Hid (∀ w' a1 c1 a2 c2, IntsIn w' a1 (P.map fun (n : Nat) => (n : Int)) → IntsIn w' a2 (P.map fun (n : Nat) => (n : Int)) → Calls Try.prog 24 #[.slice a1 P.length c1, .slice a2 P.length c2] w' fun e w'' => e = .returned (.bool true) ∧ Below w'.heap.size w' w'') := Lib.hid (fun w' a1 c1 a2 c2 h1 h2 => by
    have := sameInts_any (w := w') a1 a2 c1 c2 _ _ h1 h2 (by rw [List.length_map]; have := hPn.out; omega) (by rw [List.length_map]; have := hPn.out; omega)
    rwa [List.length_map, decide_eq_true rfl] at this)
  have k2 := Lib.hid (kk.out _ D3.out)
  go_wp2_with fail
  refine k1.out.mono ?_
  rintro e w4 ⟨rfl, rfl⟩
  go_wp2_with fail
  refine k2.out.mono ?_
  rintro e w4 ⟨rfl, b4⟩
  have D4 := Lib.hid (D3.out.below b4)
  have B4 := Lib.hid (B3.out.trans (b4.mono B3.out.size))
  have k3 := Lib.hid (hDP.out _ D4.out)
  clear b4 k1 k2 D3 B3
  go_wp2_with fail
  refine k3.out.mono ?_
  rintro e w5 ⟨v5, rfl, o5, b5⟩
  obtain ⟨adp, capp, rfl, _⟩ := own_opens o5
  have I5 := Lib.hid (hPI.out _ _ _ _ _ o5)
  have D5 := Lib.hid (D4.out.below b5)
  have B5 := Lib.hid (B4.out.trans (b5.mono B4.out.size))
  clear b5 o5 k3 D4 B4
  go_wp2_with fail
  have b6 : Below w5.heap.size w5 (w5.alloc (.cells #[.bool true, .bool false, .bool true] 4)) := (Below.refl _ _).alloc (Nat.le_refl _) _
  have k4 := Lib.hid (hcr.out _ (D5.out.below b6) (some ⟨w5.heap.size, 0, none⟩) 3 (fun i hi => by
    refine ⟨_, _, rfl, ?_⟩
    rw [cell_of_row _ _ _ _ _ _ (heap_alloc_new w5 _)]
    simp at hi
    rcases (show i = 0 ∨ i = 1 ∨ i = 2 by omega) with rfl | rfl | rfl <;> rfl))
  have k4' : Hid (Calls Try.prog 31 #[.pointer (some ⟨b, 0, none⟩), .slice (some ⟨w5.heap.size, 0, none⟩) 3 3] (w5.alloc (.cells #[.bool true, .bool false, .bool true] 4)) fun e w' => e = .returned (.string IMG) ∧ Below (w5.alloc (.cells #[.bool true, .bool false, .bool true] 4)).heap.size (w5.alloc (.cells #[.bool true, .bool false, .bool true] 4)) w') := Lib.hid k4.out
  refine k4'.out.mono ?_
  rintro e wb ⟨rfl, b7⟩
  have b67 := b6.trans (b7.mono b6.size)
  have DB := Lib.hid (D5.out.below b67)
  have IB := Lib.hid (I5.out.below b67)
  have BB := Lib.hid (B5.out.trans (b67.mono B5.out.size))
  have HB2 := Lib.hid (H2.out.below BB.out)
  have hwB := BB.out.size
  clear b6 b7 b67 k4 k4' D5 I5 B5
  go_wp2_with fail
  refine (hop.out _).mono ?_
  rintro e w8 ⟨c, rfl, ⟨z, c8⟩, b8⟩
  have C8 : Hid (DevAt wb.heap.size w8 c z F) := Lib.hid c8
  have B8 := Lib.hid b8
  have k5 := Lib.hid (hkF2.out _ _ _ _ c8)
  clear c8 b8
  go_wp2_with fail
  refine k5.out.mono ?_
  rintro e w9 ⟨rfl, b9⟩
  have C9 := Lib.hid (C8.out.below b9)
  have B9 := Lib.hid (B8.out.trans (b9.mono B8.out.size))
  clear b9 k5 C8 B8
  go_wp2_with fail
  go_loopw [14] (fun q wr => ∃ (i : Nat) (E : Dev), i ≤ m.length ∧ q = .int .i64 i ∧ Hid (E.Ok (2 * i)) ∧ Hid (DevAt wb.heap.size wr c z E) ∧ Hid (Below wb.heap.size wb wr)) (fun q _ => m.length - (intOf q).toNat)
  case atStart => exact ⟨0, F, by omega, rfl, hfo, C9, B9⟩
  case round =>
    obtain ⟨i, E, hi, rfl, hoe, hc, hb⟩ := hrel
    by_cases hlt : i < m.length
    · have i1 : (i : Int) < (m.length : Int) := by omega
      have i0 : (0 : Int) ≤ (i : Int) := by omega
      obtain ⟨gm, off, rfl, c0, c1, c2, c3, c4, c5⟩ := (HB2.out.below hb.out).at i hlt
      obtain ⟨hk, hx1, hx2, hdt⟩ := H2.out.okAt i hlt
      have hk2 := hk.2
      clear hk
      have hlm := World.block_lt_of_cell? _ _ c0
      have hmb : gm < wb.heap.size := by
        obtain ⟨g', o', e', hc'⟩ := HB2.out.cells i hlt 0 _ rfl
        cases e'
        exact World.block_lt_of_cell? _ _ hc'
      have hwhat := fun w => Lib.hid (what_any (m.getD i default) w)
      generalize m.getD i default = X at *
      obtain ⟨kind, xb, xn, fill, data, kad, kcap, keep⟩ := X
      dsimp only [actCells] at c0 c1 c2 c3 c4 c5 hx1 hx2 hk2 hdt hwhat
      unfold bval at c0 c3 hwhat
      have hkz := kind.toNat_lt
      have htm : Int.tmod (kind.toNat : Int) 2 = ((kind.toNat % 2 : Nat) : Int) := by rw [Int.tmod_eq_emod_of_nonneg (by omega)]; omega
      obtain ⟨q, hq⟩ : ∃ q, kind.toNat % 2 = q := ⟨_, rfl⟩
      have hq2 : q = 0 ∨ q = 1 := by omega
      rw [hq] at htm
      have hT : Hid ((ActV.what ⟨kind, xb, xn, fill, data, kad, kcap, keep⟩).size ≤ 9223372036854775807) := Lib.hid (by
        unfold ActV.what; split
        · show (List.toArray _).size ≤ _; simp
        · exact hdt)
      clear hq
      generalize (ActV.what ⟨kind, xb, xn, fill, data, kad, kcap, keep⟩) = T at *
      generalize (kind.toNat : Int) = kz at *
      generalize (fill.toNat : Int) = fz at *
      generalize keep.length = kl at *
      have hace : E.acts < 1000000000000 := by have := hoe.out.acts; have := hm120.out; omega
      have hbe := Lib.hid hc.out.bounds
      have hoe2 := Lib.hid (hoe.out.write xb T)
      have hace2 : (E.write xb T).acts < 1000000000000 := by have := hoe2.out.acts; have := hm120.out; omega
      have wbr := hb.out.size
      go_upto_region 14 with fail
      go_region_held3 (fun w' => w'.cell? ⟨gm, off + i * 6, none⟩ = some (.int .u8 kz) ∧ w'.cell? ⟨gm, off + i * 6 + 1, none⟩ = some (.int .i64 xb) ∧ w'.cell? ⟨gm, off + i * 6 + 2, none⟩ = some (.int .i64 xn) ∧ w'.cell? ⟨gm, off + i * 6 + 3, none⟩ = some (.int .u8 fz) ∧ w'.cell? ⟨gm, off + i * 6 + 4, none⟩ = some (.string data) ∧ w'.cell? ⟨gm, off + i * 6 + 5, none⟩ = some (.slice kad kl kcap))
        (first | exact ⟨c0, c1, c2, c3, c4, c5⟩ | exact ⟨(q4 _).trans c0, (q4 _).trans c1, (q4 _).trans c2, (q4 _).trans c3, (q4 _).trans c4, (q4 _).trans c5⟩ | exact ⟨(q5 _).trans c0, (q5 _).trans c1, (q5 _).trans c2, (q5 _).trans c3, (q5 _).trans c4, (q5 _).trans c5⟩)
        (first | (go_at_call 15; refine ((hwhat _).out).mono ?_; rintro e w4 ⟨rfl, hb4'⟩; have hb4 : Below wr.heap.size wr w4 := ⟨hb4'.os, hb4'.tape, hb4'.output, hb4'.size, hb4'.block⟩; have q4 : ∀ o, w4.cell? ⟨gm, o, none⟩ = wr.cell? ⟨gm, o, none⟩ := fun o => hb4.cell (p := ⟨gm, o, none⟩) hlm; have d4 := Lib.hid (hc.out.below hb4)) | (go_at_call 14; refine (write_any d4.out xb T hT.out hace).mono ?_; rintro e w5 ⟨rfl, d5, o5⟩; have q5 : ∀ o, w5.cell? ⟨gm, o, none⟩ = wr.cell? ⟨gm, o, none⟩ := fun o => (World.cell?_of_block (o5.block gm (Nat.lt_of_lt_of_le hlm hb4.size) (by have := hbe.out; simp; omega))).trans (q4 o)))
      have D5 := Lib.hid d5
      have B5 := Lib.hid (below_only (hb.out.trans (hb4.mono wbr)) (Nat.le_refl _) o5 (by have := hbe.out; simp; omega))
      have c0' := (q5 (off + i * 6)).trans c0
      clear d5 o5 hb4 hb4' q4 q5 d4 c1 c2 c3 c4 c5
      rcases hq2 with rfl | rfl
      · have hfl := Lib.hid (flush_any D5.out hace2)
        go_wp2_with fail
        refine hfl.out.mono ?_
        rintro e w6 ⟨rfl, d6, o6⟩
        have D6 := Lib.hid d6
        have B6 := Lib.hid (below_only B5.out (Nat.le_refl _) o6 (by have := hbe.out; simp; omega))
        clear d6 o6 hfl
        go_wp2_with fail
        go_roundw
        case rel => exact ⟨i + 1, _, by omega, by go_num, Lib.hid (hoe2.out.flush.mono (by omega)), D6, B6⟩
        case measure => simp [intOf]; omega
      · go_wp2_with fail
        go_roundw
        case rel => exact ⟨i + 1, _, by omega, by go_num, Lib.hid (hoe2.out.mono (by omega)), D5, B5⟩
        case measure => simp [intOf]; omega
    · obtain rfl : i = m.length := by omega
      have D6 := Lib.hid (DB.out.below hb.out)
      have I6 := Lib.hid (IB.out.below hb.out)
      have B6 := Lib.hid (BB.out.trans (hb.out.mono hwB))
      have e1 := Lib.hid (kr.out _ D6.out)
      have e2 := Lib.hid (kk.out _ D6.out)
      clear hb hc
      go_wp2_with fail
      refine e1.out.mono ?_
      rintro e w10 ⟨rfl, rfl⟩
      go_wp2_with fail
      refine e2.out.mono ?_
      rintro e w11 ⟨rfl, b11⟩
      have D11 := Lib.hid (D6.out.below b11)
      have I11 := Lib.hid (I6.out.below b11)
      have B11 := Lib.hid (B6.out.trans (b11.mono B6.out.size))
      have e3 := Lib.hid (hDP.out _ D11.out)
      clear b11 e1 e2 D6 I6 B6
      go_wp2_with fail
      refine e3.out.mono ?_
      rintro e w12 ⟨v12, rfl, o12, b12⟩
      obtain ⟨ad12, cap12, rfl, _⟩ := own_opens o12
      have e4 := Lib.hid (hsame.out _ _ cap12 _ capp (hPI.out _ _ _ _ _ o12) (I11.out.below b12))
      have D12 := Lib.hid (D11.out.below b12)
      have B12 := Lib.hid (B11.out.trans (b12.mono B11.out.size))
      clear b12 o12 e3 D11 I11 B11
      go_wp2_with fail
      refine e4.out.mono ?_
      rintro e w13 ⟨rfl, b13⟩
      have D13 := Lib.hid (D12.out.below b13)
      have B13 := Lib.hid (B12.out.trans (b13.mono B12.out.size))
      clear b13 e4 D12 B12
      go_wp2_with fail
      refine (hop.out _).mono ?_
      rintro e w14 ⟨cc, rfl, ⟨zz, c14⟩, b14⟩
      have D14 := Lib.hid (D13.out.below b14)
      have C14 := Lib.hid c14
      have B14 := Lib.hid (B13.out.trans (b14.mono B13.out.size))
      have hbd := Lib.hid D13.out.bounds
      have hbc := Lib.hid C14.out.bounds
      have e5 := Lib.hid (flush_any D14.out hac)
      clear c14 b14 D13 B13
      go_wp2_with fail
      refine e5.out.mono ?_
      rintro e w15 ⟨rfl, d15, o15⟩
      have C15 := Lib.hid (C14.out.only o15 (by have := hbd.out; have := hbc.out; simp; omega) (by have := hbd.out; have := hbc.out; simp; omega) (by have := hbd.out; have := hbc.out; simp; omega) (by have := hbd.out; have := hbc.out; simp; omega))
      have B15 := Lib.hid (below_only B14.out (Nat.le_refl _) o15 (by have := hbd.out; simp; omega))
      have e6 := Lib.hid (hkF2.out _ _ _ _ C15.out)
      clear d15 o15 e5 C14 B14 D14
      generalize D.flushE = fe at *
      go_wp2_with fail
      refine e6.out.mono ?_
      rintro e w16 ⟨rfl, b16⟩
      have C16 := Lib.hid (C15.out.below b16)
      have B16 := Lib.hid (B15.out.trans (b16.mono B15.out.size))
      have e7 := Lib.hid (hrF2.out _ _ _ _ C16.out)
      clear b16 e6 C15 B15
      go_wp2_with fail
      refine e7.out.mono ?_
      rintro e w17 ⟨rfl, rfl⟩
      go_wp2_with fail
      refine (hal.out _).mono ?_
      rintro e w18 ⟨rfl, b18⟩
      have B18 := Lib.hid (B16.out.trans (b18.mono B16.out.size))
      clear b18
      go_wp2_with fail
      go_ret
      exact ⟨rfl, B18.out⟩

end Go.Proofs.Ytjoopkdednmllaa
