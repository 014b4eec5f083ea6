/- ExtsPieces' walk. -/
import Derived.Test.YtgpjldmndibalaaExtsBackMath
import Derived.Test.YtgpjldmndibalaaExtsJoined
import Derived.Test.YtgpjldmndibalaaExtsRead
namespace Go.Proofs.Ytgpjldmndibalaa
open Go Go.RowKit

theorem esays_b (v1 v2 : Value) (l1 l2 : EL) (w : World) (r1 : Exts.Row l1) (r2 : Exts.Row l2) (h1 : ExtsAt w v1 l1) (h2 : ExtsAt w v2 l2) (hn1 : l1.length ≤ 1000000) (hn2 : l2.length ≤ 1000000) (r : Bool) (hr : (Exts.joinedR l1 == Exts.joinedR l2) = r) :
    Calls Try.prog 31 #[v1, v2] w fun e w' => e = .returned (.bool r) ∧ Below w.heap.size w w' := by
  have A_0 := Lib.hid h1
  have B_0 := Lib.hid h2
  have j1 := Exts.joined_len l1 l1.length
  have j2 := Exts.joined_len l2 l2.length
  rw [List.take_length] at j1 j2
  have R1 := Lib.hid r1
  have R2 := Lib.hid r2
  have HQ := Lib.hid hr
  clear h1 h2 r1 r2 hr
  go_enter Try.func31, Try.ntmps31
  have q1 := Lib.hid (ejoined_any _ l1 _ R1.out A_0.out hn1)
  go_wp2_with fail
  refine q1.out.mono ?_
  rintro e w1 ⟨v1, rfl, o1, b1⟩
  have B_1 := Lib.hid (B_0.out.below (B := 0) b1)
  have Y1 := Lib.hid b1
  have JA_1 := Lib.hid (OwnExts.at o1)
  obtain ⟨ad1, c1, rfl⟩ := o1.slice
  clear o1 b1 q1 A_0 B_0
  have q2 := Lib.hid (ejoined_any _ l2 _ R2.out B_1.out hn2)
  go_wp2_with fail
  refine q2.out.mono ?_
  rintro e w2 ⟨v2, rfl, o2, b2⟩
  have JA_2 := Lib.hid (JA_1.out.below (B := 0) b2)
  have Y2 := Lib.hid (Y1.out.trans (b2.mono Y1.out.size))
  have JB_2 := Lib.hid (OwnExts.at o2)
  obtain ⟨ad2, c2, rfl⟩ := o2.slice
  clear o2 b2 q2 B_1 JA_1 Y1
  have q3 := Lib.hid (esame_b _ _ _ (Exts.joinedR l1) (Exts.joinedR l2) JA_2.out JB_2.out (by omega) (by omega) r HQ.out)
  go_wp2_with fail
  refine q3.out.mono ?_
  rintro e w3 ⟨rfl, b3⟩
  have JA_3 := Lib.hid (JA_2.out.below (B := 0) b3)
  have JB_3 := Lib.hid (JB_2.out.below (B := 0) b3)
  have Y3 := Lib.hid (Y2.out.trans (b3.mono Y2.out.size))
  clear b3 q3 JA_2 JB_2 Y2
  go_wp2_with fail
  go_ret
  exact ⟨rfl, Y3.out⟩
theorem box_cells' {w : World} {X : Nat} {a b c : Int} (h : ExtsAt w (.slice (some ⟨X, 0, none⟩) 1 1) [(a, b, c)]) : w.cell? ⟨X, 0, none⟩ = some (.int .i64 a) ∧ w.cell? ⟨X, 1, none⟩ = some (.int .i64 b) ∧ w.cell? ⟨X, 2, none⟩ = some (.int .i64 c) := by
  obtain ⟨_, g, off, e, h0, h1, h2⟩ := h.cells 0 (by simp)
  cases e
  exact ⟨h0, h1, h2⟩

set_option maxRecDepth 100000 in
set_option maxHeartbeats 4000000 in
theorem pieces_no {w : World} (ad : Option Addr) (cap : Nat) (l : EL) (xa xb xc cut : Int) (hl : ExtsAt w (.slice ad l.length cap) l) (hs : SmallsE l) (hx : SmallE (xa, xb, xc)) (hlen : (l.length : Int) ≤ 200) (hno : ¬ (Exts.okTo l l.length = true ∧ Exts.may (xa, xb, xc))) :
    Calls Try.prog 6 #[.slice ad l.length cap, .agg #[.int .i64 xa, .int .i64 xb, .int .i64 xc], .int .i64 cut] w fun e w' => e = .returned (.bool true) ∧ Below w.heap.size w w' := by
  obtain ⟨p1, p2, p3⟩ := put_no hno
  have P1 := Lib.hid p1
  have P2 := Lib.hid p2
  have P3 := Lib.hid p3
  clear p1 p2 p3
  have Y0 := Lib.hid (below_box (Below.refl w.heap.size w) (.cells #[.int .i64 xa, .int .i64 xb, .int .i64 xc] 37))
  have L_0 := Lib.hid (hl.below (B := 0) Y0.out)
  have X_0 : Hid (ExtsAt _ (.slice (some ⟨w.heap.size, 0, none⟩) 1 1) [(xa, xb, xc)]) := Lib.hid (extsAt_lit w [(xa, xb, xc)] #[.int .i64 xa, .int .i64 xb, .int .i64 xc] rfl 1)
  obtain ⟨x0, x1, x2⟩ := box_cells' X_0.out
  have S := Lib.hid hs
  have SX := Lib.hid hx
  have nb : ¬ 200 < (l.length : Int) := by omega
  clear hl hs hx
  clear hno
  go_enter Try.func6, Try.ntmps6
  have q1 := Lib.hid (ePut_b _ l (xa, xb, xc) _ S.out SX.out L_0.out (by omega) [] [] 2 P1.out P2.out P3.out)
  go_wp2_with fail
  refine q1.out.mono ?_
  rintro e w1 ⟨v1, f1, _, rfl, o1, _, _, p1, b1⟩
  have L_1 := Lib.hid (L_0.out.below (B := 0) b1)
  have X_1 := Lib.hid (X_0.out.below (B := 0) b1)
  have Y1 := Lib.hid (Y0.out.trans (b1.mono Y0.out.size))
  obtain ⟨ad1, c1, rfl⟩ := o1.slice
  obtain ⟨ae1, ce1, rfl⟩ := own_sliceR p1
  clear o1 p1 b1 q1 L_0 X_0 Y0
  have q2 := Lib.hid (ealive_any w1)
  go_wp2_with fail
  refine q2.out.mono ?_
  rintro e w2 ⟨rfl, b2⟩
  have L_2 := Lib.hid (L_1.out.below (B := 0) b2)
  have X_2 := Lib.hid (X_1.out.below (B := 0) b2)
  have Y2 := Lib.hid (Y1.out.trans (b2.mono Y1.out.size))
  clear b2 q2 L_1 X_1 Y1
  go_wp2_with fail
  go_ret
  exact ⟨rfl, Y2.out⟩

set_option maxRecDepth 100000 in
set_option maxHeartbeats 4000000 in
theorem pieces_mid {w : World} (ad : Option Addr) (cap : Nat) (l : EL) (xa xb xc cut : Int) (hl : ExtsAt w (.slice ad l.length cap) l) (hs : SmallsE l) (hx : SmallE (xa, xb, xc)) (hlen : (l.length : Int) ≤ 200) (OUT A : EL) (hRl : Exts.Row l) (hm : Exts.may (xa, xb, xc)) (h1 : Exts.putOut l (xa, xb, xc) = OUT) (h3 : Exts.putE l (xa, xb, xc) = 0) (hRo : Exts.Row OUT) (hlo : OUT.length ≤ 1000) (g1 : Exts.punchOut OUT xa xc = A) (g2 : Exts.punchOut l xa xc = A) (e1 : Exts.punchE OUT xa xc = 0) (e2 : Exts.punchE l xa xc = 0) (hla : A.length ≤ 2000) (hc : cut < 1 ∨ xc ≤ cut) :
    Calls Try.prog 6 #[.slice ad l.length cap, .agg #[.int .i64 xa, .int .i64 xb, .int .i64 xc], .int .i64 cut] w fun e w' => e = .returned (.bool true) ∧ Below w.heap.size w w' := by
  have P1 := Lib.hid h1
  have P3 := Lib.hid h3
  have SO := Lib.hid (SmallsE.row hRo)
  have LO := Lib.hid hlo
  have LA := Lib.hid hla
  have G1 := Lib.hid g1
  have G2 := Lib.hid g2
  have E1 := Lib.hid e1
  have E2 := Lib.hid e2
  have BA : Hid (-9223372036854775808 ≤ xa ∧ xa ≤ 9223372036854775807) := Lib.hid hx.1
  have BC : Hid (-9223372036854775808 ≤ xc ∧ xc ≤ 9223372036854775807) := Lib.hid hx.2.2
  have RL := Lib.hid hRl
  have RO := Lib.hid hRo
  unfold Exts.may at hm
  dsimp only at hm
  clear hRl h1 h3 hRo hlo g1 g2 e1 e2 hla
  have Y0 := Lib.hid (below_box (Below.refl w.heap.size w) (.cells #[.int .i64 xa, .int .i64 xb, .int .i64 xc] 37))
  have L_0 := Lib.hid (hl.below (B := 0) Y0.out)
  have X_0 : Hid (ExtsAt _ (.slice (some ⟨w.heap.size, 0, none⟩) 1 1) [(xa, xb, xc)]) := Lib.hid (extsAt_lit w [(xa, xb, xc)] #[.int .i64 xa, .int .i64 xb, .int .i64 xc] rfl 1)
  obtain ⟨x0, x1, x2⟩ := box_cells' X_0.out
  have S := Lib.hid hs
  have SX := Lib.hid hx
  have nb : ¬ 200 < (l.length : Int) := by omega
  clear hl hs hx
  by_cases k : cut < 1
  · clear hc
    go_enter Try.func6, Try.ntmps6
    have q1 := Lib.hid (ePut_b _ l (xa, xb, xc) _ S.out SX.out L_0.out (by omega) OUT _ 0 P1.out rfl P3.out)
    go_wp2_with fail
    refine q1.out.mono ?_
    rintro e w1 ⟨v1, f1, _, rfl, o1, _, _, p1, b1⟩
    have L_1 := Lib.hid (L_0.out.below (B := 0) b1)
    have X_1 := Lib.hid (X_0.out.below (B := 0) b1)
    have Y1 := Lib.hid (Y0.out.trans (b1.mono Y0.out.size))
    obtain ⟨ad1, c1, rfl⟩ := o1.slice
    obtain ⟨ae1, ce1, rfl⟩ := own_sliceR p1
    have OUT_1 := Lib.hid (OwnExts.at o1)
    clear o1 p1 b1 q1 L_0 X_0 Y0
    clear x0 x1 x2
    obtain ⟨x0, x1, x2⟩ := box_cells' X_1.out
    have q2 := Lib.hid (ePunch_b _ OUT xa xc _ SO.out OUT_1.out (by have := LO.out; omega) BA.out BC.out A _ 0 G1.out rfl E1.out)
    go_wp2_with fail
    refine q2.out.mono ?_
    rintro e w2 ⟨v2, f2, _, rfl, o2, _, _, p2, b2⟩
    have L_2 := Lib.hid (L_1.out.below (B := 0) b2)
    have X_2 := Lib.hid (X_1.out.below (B := 0) b2)
    have OUT_2 := Lib.hid (OUT_1.out.below (B := 0) b2)
    have Y2 := Lib.hid (Y1.out.trans (b2.mono Y1.out.size))
    obtain ⟨ad2, c2, rfl⟩ := o2.slice
    obtain ⟨ae2, ce2, rfl⟩ := own_sliceR p2
    have A_2 := Lib.hid (OwnExts.at o2)
    clear o2 p2 b2 q2 L_1 X_1 OUT_1 Y1
    clear x0 x1 x2
    obtain ⟨x0, x1, x2⟩ := box_cells' X_2.out
    have q3 := Lib.hid (ePunch_b _ l xa xc _ S.out L_2.out (by omega) BA.out BC.out A _ 0 G2.out rfl E2.out)
    go_wp2_with fail
    refine q3.out.mono ?_
    rintro e w3 ⟨v3, f3, _, rfl, o3, _, _, p3, b3⟩
    have L_3 := Lib.hid (L_2.out.below (B := 0) b3)
    have X_3 := Lib.hid (X_2.out.below (B := 0) b3)
    have OUT_3 := Lib.hid (OUT_2.out.below (B := 0) b3)
    have A_3 := Lib.hid (A_2.out.below (B := 0) b3)
    have Y3 := Lib.hid (Y2.out.trans (b3.mono Y2.out.size))
    obtain ⟨ad3, c3, rfl⟩ := o3.slice
    obtain ⟨ae3, ce3, rfl⟩ := own_sliceR p3
    have B_3 := Lib.hid (OwnExts.at o3)
    clear o3 p3 b3 q3 L_2 X_2 OUT_2 A_2 Y2
    have q4 := Lib.hid (esame_b _ _ _ A A A_3.out B_3.out (by have := LA.out; omega) (by have := LA.out; omega) true (by simp))
    go_wp2_with fail
    refine q4.out.mono ?_
    rintro e w4 ⟨rfl, b4⟩
    have L_4 := Lib.hid (L_3.out.below (B := 0) b4)
    have X_4 := Lib.hid (X_3.out.below (B := 0) b4)
    have OUT_4 := Lib.hid (OUT_3.out.below (B := 0) b4)
    have Y4 := Lib.hid (Y3.out.trans (b4.mono Y3.out.size))
    clear b4 q4 L_3 X_3 OUT_3 A_3 B_3 Y3
    clear x0 x1 x2
    obtain ⟨x0, x1, x2⟩ := box_cells' X_4.out
    have q5 := Lib.hid (ealive_any w4)
    go_wp2_with fail
    refine q5.out.mono ?_
    rintro e w5 ⟨rfl, b5⟩
    have L_5 := Lib.hid (L_4.out.below (B := 0) b5)
    have X_5 := Lib.hid (X_4.out.below (B := 0) b5)
    have OUT_5 := Lib.hid (OUT_4.out.below (B := 0) b5)
    have Y5 := Lib.hid (Y4.out.trans (b5.mono Y4.out.size))
    clear b5 q5 L_4 X_4 OUT_4 Y4
    go_wp2_with fail
    go_ret
    exact ⟨rfl, Y5.out⟩
  · have k2 : xc ≤ cut := by omega
    clear hc
    go_enter Try.func6, Try.ntmps6
    have q1 := Lib.hid (ePut_b _ l (xa, xb, xc) _ S.out SX.out L_0.out (by omega) OUT _ 0 P1.out rfl P3.out)
    go_wp2_with fail
    refine q1.out.mono ?_
    rintro e w1 ⟨v1, f1, _, rfl, o1, _, _, p1, b1⟩
    have L_1 := Lib.hid (L_0.out.below (B := 0) b1)
    have X_1 := Lib.hid (X_0.out.below (B := 0) b1)
    have Y1 := Lib.hid (Y0.out.trans (b1.mono Y0.out.size))
    obtain ⟨ad1, c1, rfl⟩ := o1.slice
    obtain ⟨ae1, ce1, rfl⟩ := own_sliceR p1
    have OUT_1 := Lib.hid (OwnExts.at o1)
    clear o1 p1 b1 q1 L_0 X_0 Y0
    clear x0 x1 x2
    obtain ⟨x0, x1, x2⟩ := box_cells' X_1.out
    have q2 := Lib.hid (ePunch_b _ OUT xa xc _ SO.out OUT_1.out (by have := LO.out; omega) BA.out BC.out A _ 0 G1.out rfl E1.out)
    go_wp2_with fail
    refine q2.out.mono ?_
    rintro e w2 ⟨v2, f2, _, rfl, o2, _, _, p2, b2⟩
    have L_2 := Lib.hid (L_1.out.below (B := 0) b2)
    have X_2 := Lib.hid (X_1.out.below (B := 0) b2)
    have OUT_2 := Lib.hid (OUT_1.out.below (B := 0) b2)
    have Y2 := Lib.hid (Y1.out.trans (b2.mono Y1.out.size))
    obtain ⟨ad2, c2, rfl⟩ := o2.slice
    obtain ⟨ae2, ce2, rfl⟩ := own_sliceR p2
    have A_2 := Lib.hid (OwnExts.at o2)
    clear o2 p2 b2 q2 L_1 X_1 OUT_1 Y1
    clear x0 x1 x2
    obtain ⟨x0, x1, x2⟩ := box_cells' X_2.out
    have q3 := Lib.hid (ePunch_b _ l xa xc _ S.out L_2.out (by omega) BA.out BC.out A _ 0 G2.out rfl E2.out)
    go_wp2_with fail
    refine q3.out.mono ?_
    rintro e w3 ⟨v3, f3, _, rfl, o3, _, _, p3, b3⟩
    have L_3 := Lib.hid (L_2.out.below (B := 0) b3)
    have X_3 := Lib.hid (X_2.out.below (B := 0) b3)
    have OUT_3 := Lib.hid (OUT_2.out.below (B := 0) b3)
    have A_3 := Lib.hid (A_2.out.below (B := 0) b3)
    have Y3 := Lib.hid (Y2.out.trans (b3.mono Y2.out.size))
    obtain ⟨ad3, c3, rfl⟩ := o3.slice
    obtain ⟨ae3, ce3, rfl⟩ := own_sliceR p3
    have B_3 := Lib.hid (OwnExts.at o3)
    clear o3 p3 b3 q3 L_2 X_2 OUT_2 A_2 Y2
    have q4 := Lib.hid (esame_b _ _ _ A A A_3.out B_3.out (by have := LA.out; omega) (by have := LA.out; omega) true (by simp))
    go_wp2_with fail
    refine q4.out.mono ?_
    rintro e w4 ⟨rfl, b4⟩
    have L_4 := Lib.hid (L_3.out.below (B := 0) b4)
    have X_4 := Lib.hid (X_3.out.below (B := 0) b4)
    have OUT_4 := Lib.hid (OUT_3.out.below (B := 0) b4)
    have Y4 := Lib.hid (Y3.out.trans (b4.mono Y3.out.size))
    clear b4 q4 L_3 X_3 OUT_3 A_3 B_3 Y3
    clear x0 x1 x2
    obtain ⟨x0, x1, x2⟩ := box_cells' X_4.out
    have q5 := Lib.hid (ealive_any w4)
    go_wp2_with fail
    refine q5.out.mono ?_
    rintro e w5 ⟨rfl, b5⟩
    have L_5 := Lib.hid (L_4.out.below (B := 0) b5)
    have X_5 := Lib.hid (X_4.out.below (B := 0) b5)
    have OUT_5 := Lib.hid (OUT_4.out.below (B := 0) b5)
    have Y5 := Lib.hid (Y4.out.trans (b5.mono Y4.out.size))
    clear b5 q5 L_4 X_4 OUT_4 Y4
    go_wp2_with fail
    go_ret
    exact ⟨rfl, Y5.out⟩

set_option maxRecDepth 100000 in
set_option maxHeartbeats 8000000 in
theorem pieces_all {w : World} (ad : Option Addr) (cap : Nat) (l : EL) (xa xb xc cut : Int) (hl : ExtsAt w (.slice ad l.length cap) l) (hs : SmallsE l) (hx : SmallE (xa, xb, xc)) (hlen : (l.length : Int) ≤ 200) (OUT A : EL) (hRl : Exts.Row l) (hm : Exts.may (xa, xb, xc)) (h1 : Exts.putOut l (xa, xb, xc) = OUT) (h3 : Exts.putE l (xa, xb, xc) = 0) (hRo : Exts.Row OUT) (hlo : OUT.length ≤ 1000) (g1 : Exts.punchOut OUT xa xc = A) (g2 : Exts.punchOut l xa xc = A) (e1 : Exts.punchE OUT xa xc = 0) (e2 : Exts.punchE l xa xc = 0) (hla : A.length ≤ 2000) (k1 : 1 ≤ cut) (k2 : cut < xc) (C D M : EL) (c1 : Exts.putOut l (xa, xb, cut) = C) (c3 : Exts.putE l (xa, xb, cut) = 0) (d1 : Exts.putOut C (xa + cut, xb + cut, xc - cut) = D) (d3 : Exts.putE C (xa + cut, xb + cut, xc - cut) = 0)
    (m1 : Exts.putOut l (xa + cut, xb + cut, xc - cut) = M) (m3 : Exts.putE l (xa + cut, xb + cut, xc - cut) = 0) (n1 : Exts.putOut M (xa, xb, cut) = D) (n3 : Exts.putE M (xa, xb, cut) = 0) (hRc : Exts.Row C) (hRm : Exts.Row M) (hRd : Exts.Row D) (hlc : C.length ≤ 2000) (hlm : M.length ≤ 2000) (hld : D.length = OUT.length + 1) (hj : (Exts.joinedR D == Exts.joinedR OUT) = true) :
    Calls Try.prog 6 #[.slice ad l.length cap, .agg #[.int .i64 xa, .int .i64 xb, .int .i64 xc], .int .i64 cut] w fun e w' => e = .returned (.bool true) ∧ Below w.heap.size w w' := by
  have P1 := Lib.hid h1
  have P3 := Lib.hid h3
  have SO := Lib.hid (SmallsE.row hRo)
  have LO := Lib.hid hlo
  have LA := Lib.hid hla
  have G1 := Lib.hid g1
  have G2 := Lib.hid g2
  have E1 := Lib.hid e1
  have E2 := Lib.hid e2
  have BA : Hid (-9223372036854775808 ≤ xa ∧ xa ≤ 9223372036854775807) := Lib.hid hx.1
  have BC : Hid (-9223372036854775808 ≤ xc ∧ xc ≤ 9223372036854775807) := Lib.hid hx.2.2
  have RL := Lib.hid hRl
  have RO := Lib.hid hRo
  unfold Exts.may at hm
  dsimp only at hm
  clear hRl h1 h3 hRo hlo g1 g2 e1 e2 hla
  have C1 := Lib.hid c1
  have C3 := Lib.hid c3
  have D1 := Lib.hid d1
  have D3 := Lib.hid d3
  have M1 := Lib.hid m1
  have M3 := Lib.hid m3
  have N1 := Lib.hid n1
  have N3 := Lib.hid n3
  have SC := Lib.hid (SmallsE.row hRc)
  have SM := Lib.hid (SmallsE.row hRm)
  have RD := Lib.hid hRd
  have LC := Lib.hid hlc
  have LM := Lib.hid hlm
  have HJ := Lib.hid hj
  have LD := Lib.hid hld
  have wa : IntKind.i64.wrap (xa + cut) = xa + cut := IntWalk.i64_in _ (by omega)
  have wb : IntKind.i64.wrap (xb + cut) = xb + cut := IntWalk.i64_in _ (by omega)
  have wc : IntKind.i64.wrap (xc - cut) = xc - cut := IntWalk.i64_in _ (by omega)
  have S1 : Hid (SmallE (xa, xb, cut)) := Lib.hid (by unfold SmallE; dsimp only; omega)
  have S2 : Hid (SmallE (xa + cut, xb + cut, xc - cut)) := Lib.hid (by unfold SmallE; dsimp only; omega)
  clear c1 c3 d1 d3 m1 m3 n1 n3 hRc hRm hRd hlc hlm hj
  have Y0 := Lib.hid (below_box (Below.refl w.heap.size w) (.cells #[.int .i64 xa, .int .i64 xb, .int .i64 xc] 37))
  have L_0 := Lib.hid (hl.below (B := 0) Y0.out)
  have X_0 : Hid (ExtsAt _ (.slice (some ⟨w.heap.size, 0, none⟩) 1 1) [(xa, xb, xc)]) := Lib.hid (extsAt_lit w [(xa, xb, xc)] #[.int .i64 xa, .int .i64 xb, .int .i64 xc] rfl 1)
  obtain ⟨x0, x1, x2⟩ := box_cells' X_0.out
  have S := Lib.hid hs
  have SX := Lib.hid hx
  have nb : ¬ 200 < (l.length : Int) := by omega
  clear hl hs hx
  have k3 : ¬ cut < 1 := by omega
  have k4 : ¬ xc ≤ cut := by omega
  clear hld
  go_enter Try.func6, Try.ntmps6
  have q1 := Lib.hid (ePut_b _ l (xa, xb, xc) _ S.out SX.out L_0.out (by omega) OUT _ 0 P1.out rfl P3.out)
  go_wp2_with fail
  refine q1.out.mono ?_
  rintro e w1 ⟨v1, f1, _, rfl, o1, _, _, p1, b1⟩
  have L_1 := Lib.hid (L_0.out.below (B := 0) b1)
  have X_1 := Lib.hid (X_0.out.below (B := 0) b1)
  have Y1 := Lib.hid (Y0.out.trans (b1.mono Y0.out.size))
  obtain ⟨ad1, c1, rfl⟩ := o1.slice
  obtain ⟨ae1, ce1, rfl⟩ := own_sliceR p1
  have OUT_1 := Lib.hid (OwnExts.at o1)
  clear o1 p1 b1 q1 L_0 X_0 Y0
  clear x0 x1 x2
  obtain ⟨x0, x1, x2⟩ := box_cells' X_1.out
  have q2 := Lib.hid (ePunch_b _ OUT xa xc _ SO.out OUT_1.out (by have := LO.out; omega) BA.out BC.out A _ 0 G1.out rfl E1.out)
  go_wp2_with fail
  refine q2.out.mono ?_
  rintro e w2 ⟨v2, f2, _, rfl, o2, _, _, p2, b2⟩
  have L_2 := Lib.hid (L_1.out.below (B := 0) b2)
  have X_2 := Lib.hid (X_1.out.below (B := 0) b2)
  have OUT_2 := Lib.hid (OUT_1.out.below (B := 0) b2)
  have Y2 := Lib.hid (Y1.out.trans (b2.mono Y1.out.size))
  obtain ⟨ad2, c2, rfl⟩ := o2.slice
  obtain ⟨ae2, ce2, rfl⟩ := own_sliceR p2
  have A_2 := Lib.hid (OwnExts.at o2)
  clear o2 p2 b2 q2 L_1 X_1 OUT_1 Y1
  clear x0 x1 x2
  obtain ⟨x0, x1, x2⟩ := box_cells' X_2.out
  have q3 := Lib.hid (ePunch_b _ l xa xc _ S.out L_2.out (by omega) BA.out BC.out A _ 0 G2.out rfl E2.out)
  go_wp2_with fail
  refine q3.out.mono ?_
  rintro e w3 ⟨v3, f3, _, rfl, o3, _, _, p3, b3⟩
  have L_3 := Lib.hid (L_2.out.below (B := 0) b3)
  have X_3 := Lib.hid (X_2.out.below (B := 0) b3)
  have OUT_3 := Lib.hid (OUT_2.out.below (B := 0) b3)
  have A_3 := Lib.hid (A_2.out.below (B := 0) b3)
  have Y3 := Lib.hid (Y2.out.trans (b3.mono Y2.out.size))
  obtain ⟨ad3, c3, rfl⟩ := o3.slice
  obtain ⟨ae3, ce3, rfl⟩ := own_sliceR p3
  have B_3 := Lib.hid (OwnExts.at o3)
  clear o3 p3 b3 q3 L_2 X_2 OUT_2 A_2 Y2
  have q4 := Lib.hid (esame_b _ _ _ A A A_3.out B_3.out (by have := LA.out; omega) (by have := LA.out; omega) true (by simp))
  go_wp2_with fail
  refine q4.out.mono ?_
  rintro e w4 ⟨rfl, b4⟩
  have L_4 := Lib.hid (L_3.out.below (B := 0) b4)
  have X_4 := Lib.hid (X_3.out.below (B := 0) b4)
  have OUT_4 := Lib.hid (OUT_3.out.below (B := 0) b4)
  have Y4 := Lib.hid (Y3.out.trans (b4.mono Y3.out.size))
  clear b4 q4 L_3 X_3 OUT_3 A_3 B_3 Y3
  clear x0 x1 x2
  obtain ⟨x0, x1, x2⟩ := box_cells' X_4.out
  obtain ⟨z0, z1, z2⟩ := box_cells' (X_4.out.below (B := 0) (below_box (Below.refl w4.heap.size w4) (.cells #[.int .i64 xa, .int .i64 xb, .int .i64 cut] 37)))
  have L_5 := Lib.hid (L_4.out.below (B := 0) (below_box (below_box (Below.refl w4.heap.size w4) (.cells #[.int .i64 xa, .int .i64 xb, .int .i64 cut] 37)) (.cells #[.int .i64 (xa + cut), .int .i64 (xb + cut), .int .i64 (xc - cut)] 37)))
  have X_5 := Lib.hid (X_4.out.below (B := 0) (below_box (below_box (Below.refl w4.heap.size w4) (.cells #[.int .i64 xa, .int .i64 xb, .int .i64 cut] 37)) (.cells #[.int .i64 (xa + cut), .int .i64 (xb + cut), .int .i64 (xc - cut)] 37)))
  have OUT_5 := Lib.hid (OUT_4.out.below (B := 0) (below_box (below_box (Below.refl w4.heap.size w4) (.cells #[.int .i64 xa, .int .i64 xb, .int .i64 cut] 37)) (.cells #[.int .i64 (xa + cut), .int .i64 (xb + cut), .int .i64 (xc - cut)] 37)))
  have Y5 := Lib.hid (Y4.out.trans ((below_box (below_box (Below.refl w4.heap.size w4) (.cells #[.int .i64 xa, .int .i64 xb, .int .i64 cut] 37)) (.cells #[.int .i64 (xa + cut), .int .i64 (xb + cut), .int .i64 (xc - cut)] 37)).mono Y4.out.size))
  have ONE_5 : Hid (ExtsAt ((w4.alloc (.cells #[.int .i64 xa, .int .i64 xb, .int .i64 cut] 37)).alloc (.cells #[.int .i64 (xa + cut), .int .i64 (xb + cut), .int .i64 (xc - cut)] 37)) (.slice (some ⟨w4.heap.size, 0, none⟩) 1 1) [(xa, xb, cut)]) := Lib.hid ((extsAt_lit w4 [(xa, xb, cut)] #[.int .i64 xa, .int .i64 xb, .int .i64 cut] rfl 1).below (B := 0) (below_box (Below.refl _ _) _))
  have TWO_5 : Hid (ExtsAt ((w4.alloc (.cells #[.int .i64 xa, .int .i64 xb, .int .i64 cut] 37)).alloc (.cells #[.int .i64 (xa + cut), .int .i64 (xb + cut), .int .i64 (xc - cut)] 37)) (.slice (some ⟨w4.heap.size + 1, 0, none⟩) 1 1) [(xa + cut, xb + cut, xc - cut)]) := Lib.hid (by have h := extsAt_lit (w4.alloc (.cells #[.int .i64 xa, .int .i64 xb, .int .i64 cut] 37)) [(xa + cut, xb + cut, xc - cut)] #[.int .i64 (xa + cut), .int .i64 (xb + cut), .int .i64 (xc - cut)] rfl 1; rw [World.size_alloc] at h; exact h)
  clear L_4 X_4 OUT_4 Y4
  obtain ⟨o0, o1, o2⟩ := box_cells' ONE_5.out
  obtain ⟨t0, t1, t2⟩ := box_cells' TWO_5.out
  have q6 := Lib.hid (ePut_b _ l (xa, xb, cut) _ S.out S1.out L_5.out (by omega) C _ 0 C1.out rfl C3.out)
  go_wp2_with fail
  refine q6.out.mono ?_
  rintro e w6 ⟨v6, f6, _, rfl, o6, _, _, p6, b6⟩
  have L_6 := Lib.hid (L_5.out.below (B := 0) b6)
  have X_6 := Lib.hid (X_5.out.below (B := 0) b6)
  have OUT_6 := Lib.hid (OUT_5.out.below (B := 0) b6)
  have ONE_6 := Lib.hid (ONE_5.out.below (B := 0) b6)
  have TWO_6 := Lib.hid (TWO_5.out.below (B := 0) b6)
  have Y6 := Lib.hid (Y5.out.trans (b6.mono Y5.out.size))
  obtain ⟨ad6, c6, rfl⟩ := o6.slice
  obtain ⟨ae6, ce6, rfl⟩ := own_sliceR p6
  have C_6 := Lib.hid (OwnExts.at o6)
  clear o6 p6 b6 q6 L_5 X_5 OUT_5 ONE_5 TWO_5 Y5
  clear o0 o1 o2 t0 t1 t2
  obtain ⟨o0, o1, o2⟩ := box_cells' ONE_6.out
  obtain ⟨t0, t1, t2⟩ := box_cells' TWO_6.out
  have q7 := Lib.hid (ePut_b _ C (xa + cut, xb + cut, xc - cut) _ SC.out S2.out C_6.out (by have := LC.out; omega) D _ 0 D1.out rfl D3.out)
  go_wp2_with fail
  refine q7.out.mono ?_
  rintro e w7 ⟨v7, f7, _, rfl, o7, _, _, p7, b7⟩
  have L_7 := Lib.hid (L_6.out.below (B := 0) b7)
  have X_7 := Lib.hid (X_6.out.below (B := 0) b7)
  have OUT_7 := Lib.hid (OUT_6.out.below (B := 0) b7)
  have ONE_7 := Lib.hid (ONE_6.out.below (B := 0) b7)
  have TWO_7 := Lib.hid (TWO_6.out.below (B := 0) b7)
  have Y7 := Lib.hid (Y6.out.trans (b7.mono Y6.out.size))
  obtain ⟨ad7, c7, rfl⟩ := o7.slice
  obtain ⟨ae7, ce7, rfl⟩ := own_sliceR p7
  have D_7 := Lib.hid (OwnExts.at o7)
  clear o7 p7 b7 q7 L_6 X_6 OUT_6 ONE_6 TWO_6 C_6 Y6
  clear o0 o1 o2 t0 t1 t2
  obtain ⟨o0, o1, o2⟩ := box_cells' ONE_7.out
  obtain ⟨t0, t1, t2⟩ := box_cells' TWO_7.out
  have q8 := Lib.hid (ePut_b _ l (xa + cut, xb + cut, xc - cut) _ S.out S2.out L_7.out (by omega) M _ 0 M1.out rfl M3.out)
  go_wp2_with fail
  refine q8.out.mono ?_
  rintro e w8 ⟨v8, f8, _, rfl, o8, _, _, p8, b8⟩
  have X_8 := Lib.hid (X_7.out.below (B := 0) b8)
  have OUT_8 := Lib.hid (OUT_7.out.below (B := 0) b8)
  have ONE_8 := Lib.hid (ONE_7.out.below (B := 0) b8)
  have TWO_8 := Lib.hid (TWO_7.out.below (B := 0) b8)
  have D_8 := Lib.hid (D_7.out.below (B := 0) b8)
  have Y8 := Lib.hid (Y7.out.trans (b8.mono Y7.out.size))
  obtain ⟨ad8, c8, rfl⟩ := o8.slice
  obtain ⟨ae8, ce8, rfl⟩ := own_sliceR p8
  have M_8 := Lib.hid (OwnExts.at o8)
  clear o8 p8 b8 q8 L_7 X_7 OUT_7 ONE_7 TWO_7 D_7 Y7
  clear o0 o1 o2 t0 t1 t2
  obtain ⟨o0, o1, o2⟩ := box_cells' ONE_8.out
  obtain ⟨t0, t1, t2⟩ := box_cells' TWO_8.out
  have q9 := Lib.hid (ePut_b _ M (xa, xb, cut) _ SM.out S1.out M_8.out (by have := LM.out; omega) D _ 0 N1.out rfl N3.out)
  go_wp2_with fail
  refine q9.out.mono ?_
  rintro e w9 ⟨v9, f9, _, rfl, o9, _, _, p9, b9⟩
  have OUT_9 := Lib.hid (OUT_8.out.below (B := 0) b9)
  have D_9 := Lib.hid (D_8.out.below (B := 0) b9)
  have Y9 := Lib.hid (Y8.out.trans (b9.mono Y8.out.size))
  obtain ⟨ad9, c9, rfl⟩ := o9.slice
  obtain ⟨ae9, ce9, rfl⟩ := own_sliceR p9
  have N_9 := Lib.hid (OwnExts.at o9)
  clear o9 p9 b9 q9 X_8 OUT_8 ONE_8 TWO_8 D_8 M_8 Y8
  clear o0 o1 o2 t0 t1 t2 x0 x1 x2
  have q10 := Lib.hid (esame_b _ _ _ D D D_9.out N_9.out (by have := LD.out; have := LO.out; omega) (by have := LD.out; have := LO.out; omega) true (by simp))
  go_wp2_with fail
  refine q10.out.mono ?_
  rintro e w10 ⟨rfl, b10⟩
  have OUT_10 := Lib.hid (OUT_9.out.below (B := 0) b10)
  have D_10 := Lib.hid (D_9.out.below (B := 0) b10)
  have Y10 := Lib.hid (Y9.out.trans (b10.mono Y9.out.size))
  clear b10 q10 OUT_9 D_9 N_9 Y9
  have q11 := Lib.hid (esays_b _ _ D OUT _ RD.out RO.out D_10.out OUT_10.out (by have := LD.out; have := LO.out; omega) (by have := LO.out; omega) true HJ.out)
  go_wp2_with fail
  refine q11.out.mono ?_
  rintro e w11 ⟨rfl, b11⟩
  have Y11 := Lib.hid (Y10.out.trans (b11.mono Y10.out.size))
  clear b11 q11 OUT_10 D_10 Y10
  have lo := LO.out
  have wl : IntKind.i64.wrap ((OUT.length : Int) + 1) = (OUT.length : Int) + 1 := IntWalk.i64_in _ (by omega)
  have we : ((D.length : Int) == (OUT.length : Int) + 1) = true := by have := LD.out; simp; omega
  have q12 := Lib.hid (ealive_any w11)
  go_wp2_with fail
  refine q12.out.mono ?_
  rintro e w12 ⟨rfl, b12⟩
  have Y12 := Lib.hid (Y11.out.trans (b12.mono Y11.out.size))
  clear b12 q12 Y11
  go_wp2_with fail
  go_ret
  exact ⟨rfl, Y12.out⟩

set_option maxRecDepth 100000 in
theorem ExtsPieces_walk {w : World} (ad : Option Addr) (cap : Nat) (l : EL) (xa xb xc cut : Int) (h : ExtsIn w (.slice ad l.length cap) l) (ha : -9223372036854775808 ≤ xa ∧ xa ≤ 9223372036854775807) (hb : -9223372036854775808 ≤ xb ∧ xb ≤ 9223372036854775807) (hc : -9223372036854775808 ≤ xc ∧ xc ≤ 9223372036854775807) (hp : -9223372036854775808 ≤ cut ∧ cut ≤ 9223372036854775807) :
    Calls Try.prog 6 #[.slice ad l.length cap, .agg #[.int .i64 xa, .int .i64 xb, .int .i64 xc], .int .i64 cut] w fun e w' => e = .returned (.bool true) ∧ Below w.heap.size w w' := by
  have l1 := h.len
  by_cases ea : 200 < (l.length : Int)
  · have b0 := Lib.hid (below_box (Below.refl w.heap.size w) (.cells #[.int .i64 xa, .int .i64 xb, .int .i64 xc] 37))
    go_enter Try.func6, Try.ntmps6
    go_wp2_with fail
    go_ret
    exact ⟨rfl, b0.out⟩
  have hlen : (l.length : Int) ≤ 200 := by omega
  by_cases hy : Exts.okTo l l.length = true ∧ Exts.may (xa, xb, xc)
  · obtain ⟨hok, hm⟩ := hy
    have hR := Exts.check_row.1 hok
    obtain ⟨p1, _, p3⟩ := put_yes hok hm
    have hRo := Exts.put_row hR hm
    have hmm : Exts.may (xa, xb, xc) := hm
    unfold Exts.may at hmm
    have hf : Exts.fin (xa, xb, xc) = xa + xc := rfl
    dsimp only at p1 hRo hmm
    rw [hf] at p1 hRo
    have hq : 0 ≤ xa ∧ 0 ≤ xc ∧ xa ≤ 2048 ∧ xc ≤ 2048 - xa := by omega
    obtain ⟨g1, _, e1⟩ := punch_yes (Exts.check_row.2 hRo) hq
    obtain ⟨g2, _, e2⟩ := punch_yes hok hq
    have hg : Exts.punchR (Exts.changeR l xa (xa + xc) [(xa, xb, xc)]) xa xc = Exts.punchR l xa xc := by
      unfold Exts.punchR
      rw [if_neg (by omega), if_neg (by omega)]
      exact Exts.change_gone l _ xa (xa + xc) (by omega) (by omega) (by omega) (fun y hy => by obtain rfl := List.mem_singleton.1 hy; exact ⟨Int.le_refl _, Int.le_refl _⟩) xa (xa + xc) [] (by omega) (Int.le_refl _) (Int.le_refl _)
    rw [hg] at g1
    have hlo := change_len l xa (xa + xc) [(xa, xb, xc)]
    have hla := punch_len l xa xc
    simp only [List.length_cons, List.length_nil] at hlo
    by_cases k : 1 ≤ cut ∧ cut < xc
    · obtain ⟨k1, k2⟩ := k
      have m1 : Exts.may (xa, xb, cut) := by unfold Exts.may; dsimp only; omega
      have m2 : Exts.may (xa + cut, xb + cut, xc - cut) := by unfold Exts.may; dsimp only; omega
      have f1 : Exts.fin (xa, xb, cut) = xa + cut := rfl
      have f2 : Exts.fin (xa + cut, xb + cut, xc - cut) = xa + xc := by unfold Exts.fin; dsimp only; omega
      have rC := Exts.put_row hR m1
      have rM := Exts.put_row hR m2
      obtain ⟨c1, _, c3⟩ := put_yes hok m1
      obtain ⟨d1, _, d3⟩ := put_yes (Exts.check_row.2 rC) m2
      obtain ⟨n1, _, n3⟩ := put_yes hok m2
      obtain ⟨q1, _, q3⟩ := put_yes (Exts.check_row.2 rM) m1
      have rD := Exts.put_row rC m2
      rw [f1] at c1 rC d1 d3 q1 rD
      rw [f2] at d1 n1 rM q1 q3 rD
      dsimp only at c1 rC d1 d3 q1 n1 rM q3 rD
      have u1 := Exts.pieces_fst hR xa xb xc cut hm k1 k2
      have u2 := Exts.pieces_snd hR xa xb xc cut hm k1 k2
      rw [u1] at d1 rD
      rw [u2] at q1
      have hjn : Exts.joinedR (Exts.parts l 0 xa ++ [(xa, xb, cut), (xa + cut, xb + cut, xc - cut)] ++ Exts.parts l (xa + xc) 2048) = Exts.joinedR (Exts.changeR l xa (xa + xc) [(xa, xb, xc)]) := by
        rw [Exts.joined_two, show cut + (xc - cut) = xc by omega]
        rfl
      have l2 := change_len l xa (xa + cut) [(xa, xb, cut)]
      have l3 := change_len l (xa + cut) (xa + xc) [(xa + cut, xb + cut, xc - cut)]
      simp only [List.length_cons, List.length_nil] at l2 l3
      refine pieces_all ad cap l xa xb xc cut h.at_ h.small ⟨ha, hb, hc⟩ hlen _ _ hR hm p1 p3 hRo (by omega) g1 g2 e1 e2 (by omega) k1 k2 _ _ _ c1 c3 d1 d3 n1 n3 q1 q3 rC rM rD (by omega) (by omega) ?_ (by rw [hjn]; simp)
      unfold Exts.changeR
      simp only [List.length_append, List.length_cons, List.length_nil]
      omega
    · exact pieces_mid ad cap l xa xb xc cut h.at_ h.small ⟨ha, hb, hc⟩ hlen _ _ hR hm p1 p3 hRo (by omega) g1 g2 e1 e2 (by omega) (by omega)
  · exact pieces_no ad cap l xa xb xc cut h.at_ h.small ⟨ha, hb, hc⟩ hlen hy

end Go.Proofs.Ytgpjldmndibalaa
