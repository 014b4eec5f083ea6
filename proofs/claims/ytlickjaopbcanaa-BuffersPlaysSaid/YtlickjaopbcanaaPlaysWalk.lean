/- BuffersPlays: the walk. -/
import Derived.Test.YtlickjaopbcanaaPlaysMath
import Derived.Test.YtlickjaopbcanaaNoCache
import Derived.Test.YtlickjaopbcanaaRefDevA
import Derived.Deep.RegionHeld3
namespace Go.Proofs.Ytlickjaopbcanaa
open Go Go.RowKit Bufs
variable {w : World}

set_option maxRecDepth 100000 in
set_option maxHeartbeats 16000000 in
theorem BuffersPlays_walk (za zc : Int) (ad : Option Addr) (cap : Nat) (l : List ActC) (hza : -9223372036854775808 ≤ za ∧ za ≤ 9223372036854775807) (hzc : -9223372036854775808 ≤ zc ∧ zc ≤ 9223372036854775807) (h : ActsIn w ad cap l) : Calls Try.prog 8 #[.agg #[.int .i64 za, .int .i64 zc], .slice ad l.length cap] w fun e w' => e = .returned (.bool true) ∧ Below w.heap.size w w' := by
  have hcap := h.len
  have qal := Lib.hid alive_any
  have b0' : Below w.heap.size w (w.alloc (.cells #[.int .i64 za, .int .i64 zc] 66)) := (Below.refl _ _).alloc (Nat.le_refl _) _
  have hg := Lib.hid (great_any ad cap l (h.below b0'))
  have H0 := Lib.hid (h.below b0')
  have kc : Hid (∀ wx, Below (w.heap.size + 1) (w.alloc (.cells #[.int .i64 za, .int .i64 zc] 66)) wx → wx.cell? ⟨w.heap.size, 0, none⟩ = some (.int .i64 za) ∧ wx.cell? ⟨w.heap.size, 1, none⟩ = some (.int .i64 zc)) := Lib.hid (fun wx hb => by
    have e : ∀ k, wx.cell? ⟨w.heap.size, k, none⟩ = _ := fun k => (hb.cell (p := ⟨w.heap.size, k, none⟩) (by dsimp only; omega)).trans (cell_of_row _ _ _ _ _ _ (heap_alloc_new w _))
    exact ⟨(e 0).trans rfl, (e 1).trans rfl⟩)
  have hsz : Hid ((w.alloc (.cells #[.int .i64 za, .int .i64 zc] 66)).heap.size = w.heap.size + 1) := Lib.hid (by simp)
  have B0 := Lib.hid b0'
  clear h b0'
  go_enter Try.func8, Try.ntmps8
  go_wp2_with fail
  refine hg.out.mono ?_
  generalize w.alloc (.cells #[.int .i64 za, .int .i64 zc] 66) = W at *
  rintro e w1 ⟨gb, rfl, b1, hgt⟩
  have H1 := Lib.hid (H0.out.below b1)
  have B1 := Lib.hid (B0.out.trans (b1.mono B0.out.size))
  have KC : Hid (∀ wx, Below w1.heap.size w1 wx → wx.cell? ⟨w.heap.size, 0, none⟩ = some (.int .i64 za) ∧ wx.cell? ⟨w.heap.size, 1, none⟩ = some (.int .i64 zc)) := Lib.hid (fun wx hb => kc.out wx (by have h1 := b1.trans (hb.mono b1.size); rw [hsz.out] at h1; exact h1))
  obtain ⟨k0, k1⟩ := KC.out w1 (Below.refl _ _)
  have hs1 : w.heap.size + 1 ≤ w1.heap.size := by have h1 := b1.size; have h2 := hsz.out; omega
  clear hg H0 kc B0 hsz b1
  cases gb
  case true =>
    go_wp2_with fail
    go_ret
    exact ⟨rfl, B1.out⟩
  have hl150 : l.length ≤ 150 := hgt.out rfl
  clear hgt
  by_cases h20 : 20 < za
  · go_wp2_with fail
    go_ret
    exact ⟨rfl, B1.out⟩
  by_cases h01 : za < 1
  · have q1 := Lib.hid (newdev_none (w := w1) za hza (.inl h01))
    have q2 := Lib.hid (rnew_none (w := w1) za hza (.inl h01))
    have q3 := Lib.hid (none_new (w := w1) (.pointer none) zc (.inl rfl))
    have q4 := Lib.hid (rcnew_none (w := w1) zc)
    go_wp2_with fail
    (with_reducible refine q1.out.mono ?_)
    rintro e w2 ⟨rfl, rfl⟩
    go_wp2_with fail
    (with_reducible refine q2.out.mono ?_)
    rintro e w2 ⟨rfl, rfl⟩
    go_wp2_with fail
    (with_reducible refine q3.out.mono ?_)
    rintro e w2 ⟨rfl, rfl⟩
    go_wp2_with fail
    (with_reducible refine q4.out.mono ?_)
    rintro e w2 ⟨rfl, rfl⟩
    clear q1 q2 q3 q4
    go_wp2_with fail
    refine (qal.out _).mono ?_
    rintro e w6 ⟨rfl, b6⟩
    have B6 := Lib.hid (B1.out.trans (b6.mono B1.out.size))
    clear b6
    go_wp2_with fail
    go_ret
    exact ⟨rfl, B6.out⟩
  obtain ⟨n, rfl⟩ : ∃ n : Nat, za = (n : Int) := ⟨za.toNat, by omega⟩
  have hn : 1 ≤ n ∧ n ≤ 20 := by omega
  have hzk : Hid ((zeros n).kept.length = n) := Lib.hid (by simp [zeros, Dev.fresh])
  have hok := Lib.hid (zeros_ok n)
  have q1 := Lib.hid (fun w : World => newdev_any (w := w) n (by omega))
  have q2 := Lib.hid (fun w : World => rnew_any (w := w) n (by omega))
  clear h01
  go_wp2_with fail
  refine (q1.out _).mono ?_
  rintro e w2 ⟨db, rfl, ⟨y, d2⟩, b2⟩
  obtain ⟨k0, k1⟩ := KC.out w2 b2
  have D2 : Hid (DevAt w1.heap.size w2 db y (zeros n)) := Lib.hid d2
  have B2 := Lib.hid b2
  clear d2 b2 q1
  go_wp2_with fail
  refine (q2.out _).mono ?_
  rintro e w3 ⟨rd, rfl, ⟨z, r3⟩, b3⟩
  have B3 := Lib.hid (B2.out.trans (b3.mono B2.out.size))
  obtain ⟨k0, k1⟩ := KC.out w3 B3.out
  have D3 := Lib.hid (D2.out.below b3)
  have R3 : Hid (RefAt w2.heap.size w3 rd z (zeros n)) := Lib.hid r3
  have hap : Hid (∀ j ∈ rblocks rd z, j < w3.heap.size ∧ j ∉ dblocks db y) := Lib.hid (fun j hj => ⟨(rblocks_lt r3 j hj).2, fun hm => by have h1 := (rblocks_lt r3 j hj).1; have h2 := (D2.out.bounds2 j hm).2; omega⟩)
  have hB2 : w1.heap.size ≤ w2.heap.size := B2.out.size
  clear r3 b3 D2 B2 q2
  by_cases hm : 1 ≤ zc ∧ zc ≤ 256
  case neg =>
    have q3 := Lib.hid (newcache_arg D3.out zc hm)
    have q4 := Lib.hid (rcnew_arg R3.out zc hm)
    unfold ptr at q3
    go_wp2_with fail
    (with_reducible refine q3.out.mono ?_)
    rintro e w4 ⟨rfl, rfl⟩
    go_wp2_with fail
    (with_reducible refine q4.out.mono ?_)
    rintro e w4 ⟨rfl, rfl⟩
    clear q3 q4
    go_wp2_with fail
    refine (qal.out _).mono ?_
    rintro e w6 ⟨rfl, b6⟩
    have B6 := Lib.hid (B1.out.trans ((B3.out.mono B1.out.size).trans (b6.mono (Nat.le_trans B1.out.size B3.out.size))))
    clear b6
    go_wp2_with fail
    go_ret
    exact ⟨rfl, B6.out⟩
  obtain ⟨m, rfl⟩ : ∃ m : Nat, zc = (m : Int) := ⟨zc.toNat, by omega⟩
  have hm1 : 1 ≤ m ∧ m ≤ 256 := by omega
  have q3 := Lib.hid (newcache_any D3.out hm1 hap.out)
  unfold ptr at q3
  clear hm hza hzc
  go_wp2_with fail
  (with_reducible refine q3.out.mono ?_)
  rintro e w4 ⟨cb, rfl, c4, _, b4⟩
  have C4 : Hid (CS w1.heap.size w4 cb db y (zeros n) m [] (rblocks rd z) 0) := Lib.hid ⟨0, [], c4, rfl, by omega, hok.out, fun _ h => nomatch h⟩
  have B4 := Lib.hid (B3.out.trans (b4.mono B3.out.size))
  obtain ⟨k0, k1⟩ := KC.out w4 B4.out
  have R4 := Lib.hid (R3.out.below b4)
  have q4 := Lib.hid (rcnew_any R4.out hm1)
  clear c4 b4 q3 R3 D3 B3 hap
  go_wp2_with fail
  (with_reducible refine q4.out.mono ?_)
  rintro e w5 ⟨rc, rfl, r5, rcl, b5⟩
  have C5 : Hid (CS w1.heap.size w5 cb db y (zeros n) m [] (rown rc rd z (.slice none 0 0)) (6000 * 0)) := Lib.hid (C4.out.more (S := []) (Only.ofBelow b5) (fun _ h => nomatch h) _ (fun j hj => ⟨(r5.lt j hj).2, by
    rcases List.mem_cons.1 hj with rfl | hj
    · exact .inr rcl
    · rcases List.mem_append.1 hj with hj | hj
      · exact .inl hj
      · simp [Value.ownBlock] at hj⟩))
  have R5 := Lib.hid r5
  have B5 := Lib.hid (B4.out.trans (b5.mono B4.out.size))
  clear r5 b5 rcl q4 R4 C4 B4 k0 k1
  go_wp2_with fail
  have hs2 := hs1
  generalize hBB : w2.heap.size = B2 at *
  clear hBB
  go_loopw [13] (fun q wr => ∃ (i : Nat) (D : Dev) (L : PL) (v : Value), i ≤ l.length ∧ q = .int .i64 i ∧ Hid (CS w1.heap.size wr cb db y D m L (rown rc rd z v) (6000 * i)) ∧ Hid (RCD B2 wr rc rd z D m L v) ∧ Hid (D.kept.length = n) ∧ Hid (Below w1.heap.size w1 wr)) (fun q _ => l.length - (intOf q).toNat)
  case atStart => exact ⟨0, _, _, _, by omega, rfl, C5, R5, hzk, B5⟩
  case round =>
    obtain ⟨i, D, L, v, hi, rfl, hC, hR, hK, hB⟩ := hrel
    clear C5 R5 B5 hok hzk
    by_cases hil : i < l.length
    · have i0 : (0 : Int) ≤ (i : Int) := by omega
      have i1 : (i : Int) < (l.length : Int) := by omega
      obtain ⟨ga, off, rfl, e0, e1, e2, e3, e4, e5⟩ := H1.out.at i hil
      have hok := H1.out.okAt i hil
      have HD := does_any hC.out (by omega) (l.getD i default) hok
      have HV : ∀ w', RCD B2 w' rc rd z D m L v → _ := fun w' h => did_any h hC.out.bufs hC.out.ok (by omega) (l.getD i default) hok
      have hlen' := does_len D L m (l.getD i default) (by rw [hC.out.ok.len])
      generalize l.getD i default = x at *
      obtain ⟨⟨⟨rs, ra⟩, D', L'⟩, hZ⟩ : ∃ r, doesS D L m x = r := ⟨_, rfl⟩
      rw [hZ] at HD hlen'
      have HV : ∀ w', RCD B2 w' rc rd z D m L v → Calls Try.prog 35 #[.pointer (some ⟨rc, 0, none⟩), .pointer (some ⟨rd, 0, none⟩), .agg (actCells x).toArray] w' fun e w'' => e = .returned (.tuple #[.string rs, .int .i64 ra]) ∧ RGo B2 w' w'' rc rd z v D' m L' := fun w' h => by have h2 := HV w' h; rw [hZ] at h2; exact h2
      have hK' : Hid (D'.kept.length = n) := Lib.hid (hlen'.trans hK.out)
      clear hZ hok hlen'
      obtain ⟨kind, xb, xn, fill, pin, data⟩ := x
      dsimp only [actCells] at e0 e1 e2 e3 e4 e5 HD HV
      unfold bval at e0 e3 HD HV
      generalize (kind.toNat : Int) = kz at *
      generalize (fill.toNat : Int) = fz at *
      have lt0 : ga < w1.heap.size := World.block_lt_of_cell? w1 _ e0
      have HAT : Hid (∀ wx, Below w1.heap.size w1 wx → wx.cell? ⟨ga, off + i * 6, none⟩ = some (.int .u8 kz) ∧ wx.cell? ⟨ga, off + i * 6 + 1, none⟩ = some (.int .i64 xb) ∧ wx.cell? ⟨ga, off + i * 6 + 2, none⟩ = some (.int .i64 xn) ∧ wx.cell? ⟨ga, off + i * 6 + 3, none⟩ = some (.int .u8 fz) ∧ wx.cell? ⟨ga, off + i * 6 + 4, none⟩ = some (.bool pin) ∧ wx.cell? ⟨ga, off + i * 6 + 5, none⟩ = some (.string data)) := Lib.hid (fun wx hb => ⟨(hb.cell (p := ⟨ga, _, none⟩) lt0).trans e0, (hb.cell (p := ⟨ga, _, none⟩) lt0).trans e1, (hb.cell (p := ⟨ga, _, none⟩) lt0).trans e2, (hb.cell (p := ⟨ga, _, none⟩) lt0).trans e3, (hb.cell (p := ⟨ga, _, none⟩) lt0).trans e4, (hb.cell (p := ⟨ga, _, none⟩) lt0).trans e5⟩)
      clear e0 e1 e2 e3 e4 e5
      obtain ⟨f0, f1, f2, f3, f4, f5⟩ := HAT.out wr hB.out
      have q := Lib.hid HD
      have qv := Lib.hid HV
      clear HD HV
      go_wp2_with fail
      (with_reducible refine q.out.mono ?_)
      rintro e w6 ⟨rfl, d1, d2⟩
      have B6 := Lib.hid (fr_below hB.out (Nat.le_refl _) d2)
      have C6 := Lib.hid (d1.mono (k' := 6000 * (i + 1)) (by omega))
      have R6 := Lib.hid (hR.out.fr d2 (fun _ h => h))
      have q2 := Lib.hid (qv.out w6 R6.out)
      clear q qv d1 d2 hC hR hB f0 f1 f2 f3 f4 f5
      obtain ⟨f0, f1, f2, f3, f4, f5⟩ := HAT.out w6 B6.out
      go_wp2_with fail
      (with_reducible refine q2.out.mono ?_)
      rintro e w7 ⟨rfl, g7⟩
      obtain ⟨v', c7, r7⟩ := pair_did C6.out R6.out g7
      have B7 := Lib.hid (B6.out.trans (rgo_below R6.out g7 hB2))
      have C7 := Lib.hid c7
      have R7 := Lib.hid r7
      clear q2 g7 c7 r7 C6 R6 B6 f0 f1 f2 f3 f4 f5 HAT lt0 hK
      have hlt7 : rd < w7.heap.size := R7.out.dev.cells.lt
      have QD : Hid (∀ wx, Below w7.heap.size w7 wx → Calls Try.prog 15 #[.pointer (some ⟨cb, 0, none⟩)] wx fun e w' => Listed wx.heap.size (blocksOf L' PB.dirty n) e w' ∧ Below wx.heap.size wx w') := Lib.hid (fun wx hb => by have h2 := cs_dirty (C7.out.below hb); rw [hK'.out] at h2; exact h2)
      have QP : Hid (∀ wx, Below w7.heap.size w7 wx → Calls Try.prog 24 #[.pointer (some ⟨cb, 0, none⟩)] wx fun e w' => Listed wx.heap.size (blocksOf L' PB.pinned n) e w' ∧ Below wx.heap.size wx w') := Lib.hid (fun wx hb => by have h2 := cs_pinned (C7.out.below hb); rw [hK'.out] at h2; exact h2)
      have QRD : Hid (∀ wx, Below w7.heap.size w7 wx → Calls Try.prog 36 #[.pointer (some ⟨rc, 0, none⟩), .bool true, .bool false] wx fun e w' => ∃ u, e = .returned u ∧ w'.ownsRow wx.heap.size 3 1 u (blocksOf L' PB.dirty n).length (natVs (blocksOf L' PB.dirty n)) ∧ Below wx.heap.size wx w') := Lib.hid (fun wx hb => by have h2 := rlist_any (R7.out.below hb) C7.out.bufs true false; rw [hK'.out, so_dirty] at h2; exact h2)
      have QRP : Hid (∀ wx, Below w7.heap.size w7 wx → Calls Try.prog 36 #[.pointer (some ⟨rc, 0, none⟩), .bool false, .bool true] wx fun e w' => ∃ u, e = .returned u ∧ w'.ownsRow wx.heap.size 3 1 u (blocksOf L' PB.pinned n).length (natVs (blocksOf L' PB.pinned n)) ∧ Below wx.heap.size wx w') := Lib.hid (fun wx hb => by have h2 := rlist_any (R7.out.below hb) C7.out.bufs false true; rw [hK'.out, so_pinned] at h2; exact h2)
      have QRI : Hid (∀ wx, Below w7.heap.size w7 wx → Calls Try.prog 36 #[.pointer (some ⟨rc, 0, none⟩), .bool false, .bool false] wx fun e w' => ∃ u, e = .returned u ∧ w'.ownsRow wx.heap.size 3 1 u (blocksOf L' (soOf false false) n).length (natVs (blocksOf L' (soOf false false) n)) ∧ Below wx.heap.size wx w') := Lib.hid (fun wx hb => by have h2 := rlist_any (R7.out.below hb) C7.out.bufs false false; rw [hK'.out] at h2; exact h2)
      have QA : Hid (∀ wx, Below w7.heap.size w7 wx → Calls Try.prog 14 #[.pointer (some ⟨db, 0, none⟩)] wx fun e w' => e = .returned (.int .i64 D'.acts) ∧ wx = w') := Lib.hid (fun wx hb => acts_any (C7.out.below hb).dev)
      have QPE : Hid (∀ wx, Below w7.heap.size w7 wx → Calls Try.prog 37 #[.pointer (some ⟨db, 0, none⟩)] wx fun e w' => ∃ u, e = .returned u ∧ w'.ownsRow wx.heap.size 3 1 u (pendTo D'.pend D'.pend.length).length (natVs (pendTo D'.pend D'.pend.length)) ∧ Below wx.heap.size wx w') := Lib.hid (fun wx hb => pending_any (C7.out.below hb).dev)
      have QRE : Hid (∀ wx, Below w7.heap.size w7 wx → Calls Try.prog 38 #[.pointer (some ⟨rd, 0, none⟩)] wx fun e w' => ∃ u, e = .returned u ∧ w'.ownsRow wx.heap.size 3 1 u (pendTo D'.pend D'.pend.length).length (natVs (pendTo D'.pend D'.pend.length)) ∧ Below wx.heap.size wx w') := Lib.hid (fun wx hb => rpending_any (R7.out.below hb).dev)
      have QH : Hid (∀ wx, Below w7.heap.size w7 wx → ∀ b : Int, Calls Try.prog 13 #[.pointer (some ⟨cb, 0, none⟩), .int .i64 b] wx fun e w' => e = .returned (.bool (decide (b ∈ (blocksOf L' (soOf false false) n).map fun (n : Nat) => (n : Int)))) ∧ wx = w') := Lib.hid (fun wx hb b => by have h2 := cs_has (C7.out.below hb) b; rw [hK'.out, has_in] at h2; exact h2)
      have QC : Hid (∀ wx, Below w7.heap.size w7 wx → wx.cell? ⟨rd, 4, none⟩ = some (.int .i64 D'.acts)) := Lib.hid (fun wx hb => (R7.out.below hb).dev.c4)
      have hdl : (blocksOf L' PB.dirty n).length ≤ 5000 := by have := blocksOf_length L' PB.dirty n; omega
      have hpl : (blocksOf L' PB.pinned n).length ≤ 5000 := by have := blocksOf_length L' PB.pinned n; omega
      have hil' : Hid ((blocksOf L' (soOf false false) n).length ≤ 5000) := Lib.hid (by have := blocksOf_length L' (soOf false false) n; omega)
      have hel : Hid ((pendTo D'.pend D'.pend.length).length ≤ 5000) := Lib.hid (by have := pendTo_length D'.pend D'.pend.length; have := C7.out.ok.plen; have := hK'.out; omega)
      generalize blocksOf L' PB.dirty n = dl at *
      generalize blocksOf L' PB.pinned n = pl at *
      generalize blocksOf L' (soOf false false) n = il at *
      generalize pendTo D'.pend D'.pend.length = el at *
      have BR7 := Below.refl w7.heap.size w7
      have q := Lib.hid (QD.out w7 BR7)
      go_wp2_with fail
      (with_reducible refine q.out.mono ?_)
      rintro e w8 ⟨⟨u1, rfl, h1⟩, b8⟩
      have q2 := Lib.hid (QP.out w8 b8)
      have BL8 := Lib.hid b8
      have h78 : w7.heap.size ≤ w8.heap.size := b8.size
      obtain ⟨ad1, cp1, rfl, _⟩ := h1.form
      have L1 := Lib.hid h1
      clear q h1 b8 BR7
      go_wp2_with fail
      (with_reducible refine q2.out.mono ?_)
      rintro e w9 ⟨⟨u2, rfl, h2⟩, b9⟩
      obtain ⟨ad2, cp2, rfl, _⟩ := h2.form
      have L2 := Lib.hid h2
      have L1 := Lib.hid (L1.out.below b9)
      have BL9 := Lib.hid (BL8.out.trans (b9.mono BL8.out.size))
      have conv : Hid (∀ wx, Below w9.heap.size w9 wx → Below w7.heap.size w7 wx) := Lib.hid (fun wx hb => BL9.out.trans (hb.mono BL9.out.size))
      have KEEP : Hid (∀ wx, Below w9.heap.size w9 wx → wx.cell? ⟨rd, 4, none⟩ = some (.int .i64 D'.acts)) := Lib.hid (fun wx hb => QC.out wx (conv.out wx hb))
      have r4 := KEEP.out w9 (Below.refl _ _)
      have lr : rd < w9.heap.size := by have := BL9.out.size; omega
      generalize D'.acts = da at *
      clear q2 h2 b9 BL8
      have s0 : Below w9.heap.size w9 w9.drew := (Below.refl _ _).drew
      go_wp2_with fail
      go_region_held3 (fun w' => w'.cell? ⟨rd, 4, none⟩ = some (.int .i64 da))
        (first | exact r4 | (refine KEEP.out _ ?_; assumption))
        (first
          | (go_at_call 36; (with_reducible refine (QRD.out _ (conv.out _ s0)).mono ?_); rintro e wa ⟨ua, rfl, oa, ba⟩; obtain ⟨ada, cpa, rfl, _⟩ := own_opens oa; have s1 : Below w9.heap.size w9 wa := s0.trans ba)
          | (go_at_call 31; (with_reducible refine (same_heads (L1.out.below s1) oa hdl).mono ?_); rintro e wb ⟨rfl, bb⟩; have s2 : Below w9.heap.size w9 wb := s1.trans (bb.mono s1.size))
          | (go_at_call 36; (with_reducible refine (QRP.out _ (conv.out _ s2)).mono ?_); rintro e wc ⟨uc, rfl, oc, bc⟩; obtain ⟨adc, cpc, rfl, _⟩ := own_opens oc; have s3 : Below w9.heap.size w9 wc := s2.trans (bc.mono s2.size))
          | (go_at_call 31; (with_reducible refine (same_heads (L2.out.below s3) oc hpl).mono ?_); rintro e wd ⟨rfl, bd⟩; have s4 : Below w9.heap.size w9 wd := s3.trans (bd.mono s3.size))
          | (go_at_call 14; (with_reducible refine (QA.out _ (conv.out _ s4)).mono ?_); rintro e wx ⟨rfl, rfl⟩)
          | (go_at_call 37; (with_reducible refine (QPE.out _ (conv.out _ s4)).mono ?_); rintro e we ⟨ue, rfl, oe, be⟩; obtain ⟨ade, cpe, rfl, _⟩ := own_opens oe; have s5 : Below w9.heap.size w9 we := s4.trans (be.mono s4.size))
          | (go_at_call 38; (with_reducible refine (QRE.out _ (conv.out _ s5)).mono ?_); rintro e wf ⟨uf, rfl, of, bf⟩; obtain ⟨adf, cpf, rfl, _⟩ := own_opens of; have s6 : Below w9.heap.size w9 wf := s5.trans (bf.mono s5.size); have oe2 := own_below oe bf)
          | (go_at_call 31; (with_reducible refine (same_owns oe2 of hel.out).mono ?_); rintro e wg ⟨rfl, bg⟩; have s7 : Below w9.heap.size w9 wg := s6.trans (bg.mono s6.size)))
      have BG := Lib.hid (conv.out _ s7)
      have S1 := Lib.hid (L1.out.slots.below s7)
      have S2 := Lib.hid ((L2.out.slots.below s7).mono h78)
      clear s0 s1 s2 s3 s4 s5 s6 s7 oa oc oe of oe2 ba bb bc bd be bf bg L1 L2 r4 KEEP QPE QRE QA QC conv
      go_wp2_with fail
      go_loopw [20] (fun q wl => ∃ k : Nat, k ≤ dl.length ∧ q = .int .i64 k ∧ Hid (Slots wl w7.heap.size ad1 dl.length) ∧ Hid (Slots wl w7.heap.size ad2 pl.length) ∧ Hid (Below w7.heap.size w7 wl)) (fun q _ => dl.length - (intOf q).toNat)
      case atStart => exact ⟨0, by omega, rfl, S1, S2, BG⟩
      case round =>
        obtain ⟨k, hk, rfl, hs1', hs2', hbl⟩ := hrel
        clear S1 S2 BG
        by_cases hkt : k < dl.length
        · have k0 : (0 : Int) ≤ (k : Int) := by omega
          have k1 : (k : Int) < (dl.length : Int) := by omega
          obtain ⟨gp, u, rfl, hgp, z1, z2⟩ := hs1'.out k hkt
          have T1 := Lib.hid (hs1'.out.set (p := ⟨gp, k, none⟩) (.int .i64 (-1)))
          have T2 := Lib.hid (hs2'.out.set (p := ⟨gp, k, none⟩) (.int .i64 (-1)))
          have T3 := Lib.hid (hbl.out.setCell (p := ⟨gp, k, none⟩) hgp (.int .i64 (-1)))
          clear hs1' hs2' hbl
          go_wp2_with fail
          go_roundw
          case rel => exact ⟨k + 1, by omega, by go_num, T1, T2, T3⟩
          case measure => simp [intOf]; omega
        · obtain rfl : k = dl.length := by omega
          clear hs1'
          go_wp2_with fail
          go_loopw [21] (fun q wl => ∃ k : Nat, k ≤ pl.length ∧ q = .int .i64 k ∧ Hid (Slots wl w7.heap.size ad2 pl.length) ∧ Hid (Below w7.heap.size w7 wl)) (fun q _ => pl.length - (intOf q).toNat)
          case atStart => exact ⟨0, by omega, rfl, hs2', hbl⟩
          case round =>
            obtain ⟨k, hk, rfl, hs2', hbl⟩ := hrel
            by_cases hkt : k < pl.length
            · have k0 : (0 : Int) ≤ (k : Int) := by omega
              have k1 : (k : Int) < (pl.length : Int) := by omega
              obtain ⟨gp, u, rfl, hgp, z1, z2⟩ := hs2'.out k hkt
              have T2 := Lib.hid (hs2'.out.set (p := ⟨gp, k, none⟩) (.int .i64 (-1)))
              have T3 := Lib.hid (hbl.out.setCell (p := ⟨gp, k, none⟩) hgp (.int .i64 (-1)))
              clear hs2' hbl
              go_wp2_with fail
              go_roundw
              case rel => exact ⟨k + 1, by omega, by go_num, T2, T3⟩
              case measure => simp [intOf]; omega
            · obtain rfl : k = pl.length := by omega
              clear hs2'
              go_wp2_with fail
              go_loopw [22] (fun q wl => ∃ b : Int, -1 ≤ b ∧ b ≤ (n : Int) + 1 ∧ q = .int .i64 b ∧ Hid (Below w7.heap.size w7 wl)) (fun q _ => ((n : Int) + 1 - intOf q).toNat)
              case atStart => exact ⟨-1, by omega, by omega, rfl, hbl⟩
              case round =>
                obtain ⟨b, hb0, hb1, rfl, hbl⟩ := hrel
                obtain ⟨k0, _⟩ := KC.out wr (B7.out.trans (hbl.out.mono B7.out.size))
                by_cases hbn : b ≤ (n : Int)
                · have q1 := QH.out wr hbl.out b
                  have q2 := Lib.hid (QRI.out wr hbl.out)
                  have q3 : Hid (∀ wx Bx ux, wx.ownsRow Bx 3 1 ux il.length (natVs il) → Calls Try.prog 29 #[ux, .int .i64 b] wx fun e w' => e = .returned (.bool (decide (b ∈ il.map fun (n : Nat) => (n : Int)))) ∧ wx = w') := Lib.hid (fun wx Bx ux hx => in_owns hx hil'.out b)
                  generalize decide (b ∈ il.map fun (n : Nat) => (n : Int)) = hv at *
                  have q1 := Lib.hid q1
                  cases hv
                  all_goals
                    go_wp2_with fail
                    (with_reducible refine q1.out.mono ?_)
                    rintro e w10 ⟨rfl, rfl⟩
                    clear q1
                    go_wp2_with fail
                    (with_reducible refine q2.out.mono ?_)
                    rintro e wa ⟨ua, rfl, oa, ba⟩
                    have q4 := Lib.hid (q3.out _ _ _ oa)
                    have T3 := Lib.hid (hbl.out.trans (ba.mono hbl.out.size))
                    obtain ⟨ada, cpa, rfl, _⟩ := own_opens oa
                    clear q2 q3 oa ba
                    go_wp2_with fail
                    (with_reducible refine q4.out.mono ?_)
                    rintro e wb ⟨rfl, rfl⟩
                    clear q4
                    go_wp2_with fail
                    go_roundw
                    case rel => exact ⟨b + 1, by omega, by omega, by go_num, T3⟩
                    case measure => simp [intOf]; omega
                · have q1 := Lib.hid (QD.out wr hbl.out)
                  go_wp2_with fail
                  (with_reducible refine q1.out.mono ?_)
                  rintro e wa ⟨⟨ua, rfl, ha⟩, ba⟩
                  have BA := Lib.hid (hbl.out.trans (ba.mono hbl.out.size))
                  have q2 := Lib.hid (QRD.out wa BA.out)
                  have HA := Lib.hid ha
                  obtain ⟨ada, cpa, rfl, _⟩ := ha.form
                  clear q1 ba ha
                  go_wp2_with fail
                  (with_reducible refine q2.out.mono ?_)
                  rintro e wb ⟨ub, rfl, ob, bb⟩
                  have BB := Lib.hid (BA.out.trans (bb.mono BA.out.size))
                  have q3 := Lib.hid (same_heads (HA.out.below bb) ob hdl)
                  obtain ⟨adb, cpb, rfl, _⟩ := own_opens ob
                  clear q2 bb ob BA HA
                  go_wp2_with fail
                  (with_reducible refine q3.out.mono ?_)
                  rintro e wc ⟨rfl, bc⟩
                  have BC := Lib.hid (BB.out.trans (bc.mono BB.out.size))
                  have q4 := Lib.hid (QP.out wc BC.out)
                  clear q3 bc BB
                  go_wp2_with fail
                  (with_reducible refine q4.out.mono ?_)
                  rintro e wd ⟨⟨ud, rfl, hd⟩, bd⟩
                  have BD := Lib.hid (BC.out.trans (bd.mono BC.out.size))
                  have q5 := Lib.hid (QRP.out wd BD.out)
                  have HD := Lib.hid hd
                  obtain ⟨add, cpd, rfl, _⟩ := hd.form
                  clear q4 bd hd BC
                  go_wp2_with fail
                  (with_reducible refine q5.out.mono ?_)
                  rintro e we ⟨ue, rfl, oe, be⟩
                  have BE := Lib.hid (BD.out.trans (be.mono BD.out.size))
                  have q6 := Lib.hid (same_heads (HD.out.below be) oe hpl)
                  obtain ⟨ade, cpe, rfl, _⟩ := own_opens oe
                  clear q5 be oe BD HD
                  go_wp2_with fail
                  (with_reducible refine q6.out.mono ?_)
                  rintro e wf ⟨rfl, bf⟩
                  have BF := Lib.hid (BE.out.trans (bf.mono BE.out.size))
                  clear q6 bf BE
                  go_wp2_with fail
                  go_roundw
                  case rel => exact ⟨i + 1, D', L', v', by omega, by go_num, Lib.hid (C7.out.below BF.out), Lib.hid (R7.out.below BF.out), hK', Lib.hid (B7.out.trans (BF.out.mono B7.out.size))⟩
                  case measure => simp [intOf]; omega
    · obtain rfl : i = l.length := by omega
      have ok := Lib.hid hC.out.ok
      obtain ⟨k0, _⟩ := KC.out wr hB.out
      have lz : w.heap.size < wr.heap.size := by have := hB.out.size; omega
      have QK : Hid (∀ wx, Below wr.heap.size wr wx → Calls Try.prog 39 #[.pointer (some ⟨db, 0, none⟩)] wx fun e w' => e = .returned (.string (txt (cat D.kept))) ∧ Below wx.heap.size wx w') := Lib.hid (fun wx hb => kept_any (hC.out.below hb).dev ok.out.kept)
      have QRK : Hid (∀ wx, Below wr.heap.size wr wx → Calls Try.prog 40 #[.pointer (some ⟨rd, 0, none⟩)] wx fun e w' => e = .returned (.string (txt (cat D.kept))) ∧ wx = w') := Lib.hid (fun wx hb => rkept_any (hR.out.below hb).dev _ ok.out)
      have QAL : Hid (∀ wx, Below wr.heap.size wr wx → Calls Try.prog 42 #[.int .i64 n] wx fun e w' => ∃ ad cap, e = .returned (.slice ad n cap) ∧ BoolsAt w' ad (List.replicate n true) ∧ Below wx.heap.size wx w') := Lib.hid (fun wx hb => all_any n (by omega) wx)
      have QCR : Hid (∀ wx ad cap, Below wr.heap.size wr wx → BoolsAt wx ad (List.replicate n true) → Calls Try.prog 41 #[.pointer (some ⟨db, 0, none⟩), .slice ad n cap] wx fun e w' => e = .returned (.string (txt (cat (D.crash (List.replicate n true))))) ∧ Below wx.heap.size wx w') := Lib.hid (fun wx ad cap hb hk => by
        have h2 := crash_any (hC.out.below hb).dev ok.out.kept ok.out.now ad cap (List.replicate n true) hk (by rw [List.length_replicate]; omega)
        rw [List.length_replicate] at h2; exact h2)
      have QRC : Hid (∀ wx ad cap, Below wr.heap.size wr wx → BoolsAt wx ad (List.replicate n true) → Calls Try.prog 43 #[.pointer (some ⟨rd, 0, none⟩), .slice ad n cap] wx fun e w' => e = .returned (.string (txt (cat (D.crash (List.replicate n true))))) ∧ wx = w') := Lib.hid (fun wx ad cap hb hk => by
        have h2 := rcrash_any (hR.out.below hb).dev _ ok.out ad cap (List.replicate n true) hk (by rw [List.length_replicate]; omega)
        rw [List.length_replicate] at h2; exact h2)
      have QLV : Hid (∀ wx, Below wr.heap.size wr wx → Calls Try.prog 16 #[] wx fun e w' => e = .returned (.bool true) ∧ Below wx.heap.size wx w') := Lib.hid (fun wx _ => qal.out wx)
      have KEEP : Hid (∀ wx, Below wr.heap.size wr wx → wx.cell? ⟨w.heap.size, 0, none⟩ = some (.int .i64 n)) := Lib.hid (fun wx hb => (hb.cell (p := ⟨w.heap.size, 0, none⟩) lz).trans k0)
      generalize txt (cat D.kept) = KT at *
      generalize txt (cat (D.crash (List.replicate n true))) = CT at *
      have s0 : Below wr.heap.size wr wr.drew := (Below.refl _ _).drew
      have BW := Lib.hid (B1.out.trans (hB.out.mono B1.out.size))
      clear hC hR hB ok hK
      go_wp2_with fail
      go_region_held3 (fun w' => w'.cell? ⟨w.heap.size, 0, none⟩ = some (.int .i64 n))
        (first | exact k0 | (refine KEEP.out _ ?_; assumption))
        (first
          | (go_at_call 39; (with_reducible refine (QK.out _ s0).mono ?_); rintro e wa ⟨rfl, ba⟩; have s1 : Below wr.heap.size wr wa := s0.trans ba)
          | (go_at_call 40; (with_reducible refine (QRK.out _ s1).mono ?_); rintro e wx ⟨rfl, rfl⟩)
          | (go_at_call 42; (with_reducible refine (QAL.out _ s1).mono ?_); rintro e wb ⟨adb, cpb, rfl, hb1, bb⟩; have s2 : Below wr.heap.size wr wb := s1.trans (bb.mono s1.size))
          | (go_at_call 41; (with_reducible refine (QCR.out _ _ _ s2 hb1).mono ?_); rintro e wc ⟨rfl, bc⟩; have s3 : Below wr.heap.size wr wc := s2.trans (bc.mono s2.size))
          | (go_at_call 42; (with_reducible refine (QAL.out _ s3).mono ?_); rintro e wd ⟨add, cpd, rfl, hd1, bd⟩; have s4 : Below wr.heap.size wr wd := s3.trans (bd.mono s3.size))
          | (go_at_call 43; (with_reducible refine (QRC.out _ _ _ s4 hd1).mono ?_); rintro e wx ⟨rfl, rfl⟩)
          | (go_at_call 16; (with_reducible refine (QLV.out _ s4).mono ?_); rintro e we ⟨rfl, be⟩; have s5 : Below wr.heap.size wr we := s4.trans (be.mono s4.size)))
      have BZ := Lib.hid (BW.out.trans (s5.mono BW.out.size))
      clear s0 s1 s2 s3 s4 s5
      go_wp2_with fail
      go_ret
      exact ⟨rfl, BZ.out⟩

end Go.Proofs.Ytlickjaopbcanaa
