/- Chapter 14's examples: alive; contracts with their answers named. -/
import Derived.Test.YtgpjldmndibalaaExtsPutAny
import Derived.Test.YtgpjldmndibalaaExtsSame
import Derived.Test.YtgpjldmndibalaaExtsFind2
import Derived.Test.YtgpjldmndibalaaExtsEnd
import Derived.Test.YtgpjldmndibalaaExtsCount
import Derived.Test.YtgpjldmndibalaaRunsMeet
namespace Go.Proofs.Ytgpjldmndibalaa
open Go Go.RowKit

theorem own_sliceR {B : Nat} {w : World} {v : Value} {l : RL} (h : OwnRuns B w v l) : ∃ ad c, v = .slice ad l.length c := by
  rcases h.2 with ⟨rfl, h0⟩ | ⟨g, cap, cur, rfl, _⟩
  · exact ⟨_, _, by rw [h0]⟩
  · exact ⟨_, _, rfl⟩
theorem efind_b (v : Value) (l : EL) (t : Int) (w : World) (hs : SmallsE l) (h : ExtsAt w v l) (hl : l.length ≤ 1000000000) (ht : -9223372036854775808 ≤ t ∧ t ≤ 9223372036854775807) (p n : Int) (o : Bool) (hf : Exts.findR l t = (p, n, o)) :
    Calls Try.prog 12 #[v, .int .i64 t] w fun e w' => e = .returned (.tuple #[.int .i64 p, .int .i64 n, .bool o]) ∧ Below w.heap.size w w' := by
  have := efind_any v l t w hs h hl ht
  rw [hf] at this
  exact this
theorem ePut_b (v : Value) (l : EL) (x : Exts.E) (w : World) (hs : SmallsE l) (hx : SmallE x) (h : ExtsAt w v l) (hl : l.length ≤ 1000000) (out : EL) (fr : RL) (k : Int) (h1 : Exts.putOut l x = out) (h2 : Exts.putFr l x = fr) (h3 : Exts.putE l x = k) :
    Calls Try.prog 25 #[v, .agg #[.int .i64 x.1, .int .i64 x.2.1, .int .i64 x.2.2]] w fun e w' => Ans w w' out fr k e := by
  subst h1; subst h2; subst h3
  exact ePut_any v l x w hs hx h hl
theorem ePunch_b (v : Value) (l : EL) (a n : Int) (w : World) (hs : SmallsE l) (h : ExtsAt w v l) (hl : l.length ≤ 1000000) (ha : -9223372036854775808 ≤ a ∧ a ≤ 9223372036854775807) (hn : -9223372036854775808 ≤ n ∧ n ≤ 9223372036854775807) (out : EL) (fr : RL) (k : Int) (h1 : Exts.punchOut l a n = out) (h2 : Exts.punchFr l a n = fr) (h3 : Exts.punchE l a n = k) :
    Calls Try.prog 28 #[v, .int .i64 a, .int .i64 n] w fun e w' => Ans w w' out fr k e := by
  subst h1; subst h2; subst h3
  exact ePunch_any v l a n w hs h hl ha hn
theorem eCut_b (v : Value) (l : EL) (a : Int) (w : World) (hs : SmallsE l) (h : ExtsAt w v l) (hl : l.length ≤ 1000000) (ha : -9223372036854775808 ≤ a ∧ a ≤ 9223372036854775807) (out : EL) (fr : RL) (k : Int) (h1 : Exts.cutOut l a = out) (h2 : Exts.cutFr l a = fr) (h3 : Exts.cutE l a = k) :
    Calls Try.prog 32 #[v, .int .i64 a] w fun e w' => Ans w w' out fr k e := by
  subst h1; subst h2; subst h3
  exact eCut_any v l a w hs h hl ha
def smallEB (l : EL) : Bool := l.all fun x => decide (-9223372036854775808 ≤ x.1 ∧ x.1 ≤ 9223372036854775807 ∧ -9223372036854775808 ≤ x.2.1 ∧ x.2.1 ≤ 9223372036854775807 ∧ -9223372036854775808 ≤ x.2.2 ∧ x.2.2 ≤ 9223372036854775807)
theorem smallEB_ok (l : EL) (h : smallEB l = true) : SmallsE l := by
  intro x hx
  have := List.all_eq_true.1 h x hx
  simp only [decide_eq_true_eq] at this
  obtain ⟨h1, h2, h3, h4, h5, h6⟩ := this
  exact ⟨⟨h1, h2⟩, ⟨h3, h4⟩, h5, h6⟩
abbrev xL : EL := [(0, 100, 4), (6, 200, 2)]
abbrev xA : EL := [(0, 100, 2), (2, 50, 6)]
abbrev xF : RL := [(102, 2), (200, 2)]
abbrev xB : EL := [(0, 100, 1), (7, 201, 1)]
abbrev xG : RL := [(101, 3), (200, 1)]

set_option maxRecDepth 100000 in
set_option maxHeartbeats 4000000 in
theorem ealive_any (w : World) : Calls Try.prog 24 #[] w fun e w' => e = .returned (.bool true) ∧ Below w.heap.size w w' := by
  have Y1 := Lib.hid (below_box (Below.refl w.heap.size w) (.cells #[.int .i64 0, .int .i64 100, .int .i64 4, .int .i64 6, .int .i64 200, .int .i64 2] 37))
  have L_1 : Hid (ExtsAt _ (.slice (some ⟨w.heap.size, 0, none⟩) 2 2) xL) := Lib.hid (extsAt_lit w xL #[.int .i64 0, .int .i64 100, .int .i64 4, .int .i64 6, .int .i64 200, .int .i64 2] rfl 2)
  go_enter Try.func24, Try.ntmps24
  have q2 := Lib.hid (efind_b _ xL 2 _ (smallEB_ok _ (by decide)) L_1.out (by decide) (by decide) 102 2 true (by decide +kernel))
  go_wp2_with fail
  refine q2.out.mono ?_
  rintro e w2 ⟨rfl, b2⟩
  have L_2 := Lib.hid (L_1.out.below (B := 0) b2)
  have Y2 := Lib.hid (Y1.out.trans (b2.mono Y1.out.size))
  clear b2 q2 L_1 Y1
  have q3 := Lib.hid (ePut_b _ xL (2, 50, 6) _ (smallEB_ok _ (by decide)) (smallEB_ok [(2, 50, 6)] (by decide) _ (by simp)) L_2.out (by decide) xA xF 0 (by decide +kernel) (by decide +kernel) (by decide +kernel))
  go_wp2_with fail
  refine q3.out.mono ?_
  rintro e w3 ⟨v3, f3, _, rfl, o3, _, _, p3, b3⟩
  have L_3 := Lib.hid (L_2.out.below (B := 0) b3)
  have Y3 := Lib.hid (Y2.out.trans (b3.mono Y2.out.size))
  obtain ⟨ad3, c3, rfl⟩ := o3.slice
  obtain ⟨ae3, ce3, rfl⟩ := own_sliceR p3
  have A_3 := Lib.hid (OwnExts.at o3)
  have F_3 := Lib.hid (OwnRuns.at p3)
  clear o3 p3 b3 q3 L_2 Y2
  have q4 := Lib.hid (ePunch_b _ xL 1 6 _ (smallEB_ok _ (by decide)) L_3.out (by decide) (by decide) (by decide) xB xG 0 (by decide +kernel) (by decide +kernel) (by decide +kernel))
  go_wp2_with fail
  refine q4.out.mono ?_
  rintro e w4 ⟨v4, f4, _, rfl, o4, _, _, p4, b4⟩
  have L_4 := Lib.hid (L_3.out.below (B := 0) b4)
  have A_4 := Lib.hid (A_3.out.below (B := 0) b4)
  have F_4 := Lib.hid (F_3.out.below (B := 0) b4)
  have Y4 := Lib.hid (Y3.out.trans (b4.mono Y3.out.size))
  obtain ⟨ad4, c4, rfl⟩ := o4.slice
  obtain ⟨ae4, ce4, rfl⟩ := own_sliceR p4
  have B_4 := Lib.hid (OwnExts.at o4)
  have G_4 := Lib.hid (OwnRuns.at p4)
  clear o4 p4 b4 q4 L_3 A_3 F_3 Y3
  have q5 := Lib.hid (ePut_b _ xL (0, 0, 1) _ (smallEB_ok _ (by decide)) (smallEB_ok [(0, 0, 1)] (by decide) _ (by simp)) L_4.out (by decide) [] [] 2 (by decide +kernel) (by decide +kernel) (by decide +kernel))
  go_wp2_with fail
  refine q5.out.mono ?_
  rintro e w5 ⟨v5, f5, _, rfl, o5, _, _, p5, b5⟩
  have L_5 := Lib.hid (L_4.out.below (B := 0) b5)
  have A_5 := Lib.hid (A_4.out.below (B := 0) b5)
  have F_5 := Lib.hid (F_4.out.below (B := 0) b5)
  have B_5 := Lib.hid (B_4.out.below (B := 0) b5)
  have G_5 := Lib.hid (G_4.out.below (B := 0) b5)
  have Y5 := Lib.hid (Y4.out.trans (b5.mono Y4.out.size))
  obtain ⟨ad5, c5, rfl⟩ := o5.slice
  obtain ⟨ae5, ce5, rfl⟩ := own_sliceR p5
  clear o5 p5 b5 q5 L_4 A_4 F_4 B_4 G_4 Y4
  have L_6 := Lib.hid (L_5.out.below (B := 0) (below_box (Below.refl w5.heap.size w5) (.cells #[.int .i64 0, .int .i64 100, .int .i64 2, .int .i64 2, .int .i64 50, .int .i64 6] 37)))
  have A_6 := Lib.hid (A_5.out.below (B := 0) (below_box (Below.refl w5.heap.size w5) (.cells #[.int .i64 0, .int .i64 100, .int .i64 2, .int .i64 2, .int .i64 50, .int .i64 6] 37)))
  have F_6 := Lib.hid (F_5.out.below (B := 0) (below_box (Below.refl w5.heap.size w5) (.cells #[.int .i64 0, .int .i64 100, .int .i64 2, .int .i64 2, .int .i64 50, .int .i64 6] 37)))
  have B_6 := Lib.hid (B_5.out.below (B := 0) (below_box (Below.refl w5.heap.size w5) (.cells #[.int .i64 0, .int .i64 100, .int .i64 2, .int .i64 2, .int .i64 50, .int .i64 6] 37)))
  have G_6 := Lib.hid (G_5.out.below (B := 0) (below_box (Below.refl w5.heap.size w5) (.cells #[.int .i64 0, .int .i64 100, .int .i64 2, .int .i64 2, .int .i64 50, .int .i64 6] 37)))
  have Y6 := Lib.hid (Y5.out.trans ((below_box (Below.refl w5.heap.size w5) (.cells #[.int .i64 0, .int .i64 100, .int .i64 2, .int .i64 2, .int .i64 50, .int .i64 6] 37)).mono Y5.out.size))
  have A2_6 : Hid (ExtsAt _ (.slice (some ⟨w5.heap.size, 0, none⟩) 2 2) xA) := Lib.hid (extsAt_lit w5 xA #[.int .i64 0, .int .i64 100, .int .i64 2, .int .i64 2, .int .i64 50, .int .i64 6] rfl 2)
  clear L_5 A_5 F_5 B_5 G_5 Y5
  have q7 := Lib.hid (esame_b _ _ _ xA xA A_6.out A2_6.out (by decide) (by decide) true (by decide))
  go_wp2_with fail
  refine q7.out.mono ?_
  rintro e w7 ⟨rfl, b7⟩
  have L_7 := Lib.hid (L_6.out.below (B := 0) b7)
  have F_7 := Lib.hid (F_6.out.below (B := 0) b7)
  have B_7 := Lib.hid (B_6.out.below (B := 0) b7)
  have G_7 := Lib.hid (G_6.out.below (B := 0) b7)
  have Y7 := Lib.hid (Y6.out.trans (b7.mono Y6.out.size))
  clear b7 q7 L_6 A_6 F_6 B_6 G_6 A2_6 Y6
  have L_8 := Lib.hid (L_7.out.below (B := 0) (below_box (Below.refl w7.heap.size w7) (.cells #[.int .i64 102, .int .i64 2, .int .i64 200, .int .i64 2] 32)))
  have F_8 := Lib.hid (F_7.out.below (B := 0) (below_box (Below.refl w7.heap.size w7) (.cells #[.int .i64 102, .int .i64 2, .int .i64 200, .int .i64 2] 32)))
  have B_8 := Lib.hid (B_7.out.below (B := 0) (below_box (Below.refl w7.heap.size w7) (.cells #[.int .i64 102, .int .i64 2, .int .i64 200, .int .i64 2] 32)))
  have G_8 := Lib.hid (G_7.out.below (B := 0) (below_box (Below.refl w7.heap.size w7) (.cells #[.int .i64 102, .int .i64 2, .int .i64 200, .int .i64 2] 32)))
  have Y8 := Lib.hid (Y7.out.trans ((below_box (Below.refl w7.heap.size w7) (.cells #[.int .i64 102, .int .i64 2, .int .i64 200, .int .i64 2] 32)).mono Y7.out.size))
  have F2_8 : Hid (RunsAt _ (.slice (some ⟨w7.heap.size, 0, none⟩) 2 2) xF) := Lib.hid (runsAt_lit w7 xF #[.int .i64 102, .int .i64 2, .int .i64 200, .int .i64 2] rfl 2)
  clear L_7 F_7 B_7 G_7 Y7
  have q9 := Lib.hid (same_b _ _ _ xF xF F_8.out F2_8.out (by decide) (by decide) true (by decide))
  go_wp2_with fail
  refine q9.out.mono ?_
  rintro e w9 ⟨rfl, b9⟩
  have L_9 := Lib.hid (L_8.out.below (B := 0) b9)
  have B_9 := Lib.hid (B_8.out.below (B := 0) b9)
  have G_9 := Lib.hid (G_8.out.below (B := 0) b9)
  have Y9 := Lib.hid (Y8.out.trans (b9.mono Y8.out.size))
  clear b9 q9 L_8 F_8 B_8 G_8 F2_8 Y8
  have L_10 := Lib.hid (L_9.out.below (B := 0) (below_box (Below.refl w9.heap.size w9) (.cells #[.int .i64 0, .int .i64 100, .int .i64 1, .int .i64 7, .int .i64 201, .int .i64 1] 37)))
  have B_10 := Lib.hid (B_9.out.below (B := 0) (below_box (Below.refl w9.heap.size w9) (.cells #[.int .i64 0, .int .i64 100, .int .i64 1, .int .i64 7, .int .i64 201, .int .i64 1] 37)))
  have G_10 := Lib.hid (G_9.out.below (B := 0) (below_box (Below.refl w9.heap.size w9) (.cells #[.int .i64 0, .int .i64 100, .int .i64 1, .int .i64 7, .int .i64 201, .int .i64 1] 37)))
  have Y10 := Lib.hid (Y9.out.trans ((below_box (Below.refl w9.heap.size w9) (.cells #[.int .i64 0, .int .i64 100, .int .i64 1, .int .i64 7, .int .i64 201, .int .i64 1] 37)).mono Y9.out.size))
  have B2_10 : Hid (ExtsAt _ (.slice (some ⟨w9.heap.size, 0, none⟩) 2 2) xB) := Lib.hid (extsAt_lit w9 xB #[.int .i64 0, .int .i64 100, .int .i64 1, .int .i64 7, .int .i64 201, .int .i64 1] rfl 2)
  clear L_9 B_9 G_9 Y9
  have q11 := Lib.hid (esame_b _ _ _ xB xB B_10.out B2_10.out (by decide) (by decide) true (by decide))
  go_wp2_with fail
  refine q11.out.mono ?_
  rintro e w11 ⟨rfl, b11⟩
  have L_11 := Lib.hid (L_10.out.below (B := 0) b11)
  have G_11 := Lib.hid (G_10.out.below (B := 0) b11)
  have Y11 := Lib.hid (Y10.out.trans (b11.mono Y10.out.size))
  clear b11 q11 L_10 B_10 G_10 B2_10 Y10
  have L_12 := Lib.hid (L_11.out.below (B := 0) (below_box (Below.refl w11.heap.size w11) (.cells #[.int .i64 101, .int .i64 3, .int .i64 200, .int .i64 1] 32)))
  have G_12 := Lib.hid (G_11.out.below (B := 0) (below_box (Below.refl w11.heap.size w11) (.cells #[.int .i64 101, .int .i64 3, .int .i64 200, .int .i64 1] 32)))
  have Y12 := Lib.hid (Y11.out.trans ((below_box (Below.refl w11.heap.size w11) (.cells #[.int .i64 101, .int .i64 3, .int .i64 200, .int .i64 1] 32)).mono Y11.out.size))
  have G2_12 : Hid (RunsAt _ (.slice (some ⟨w11.heap.size, 0, none⟩) 2 2) xG) := Lib.hid (runsAt_lit w11 xG #[.int .i64 101, .int .i64 3, .int .i64 200, .int .i64 1] rfl 2)
  clear L_11 G_11 Y11
  have q13 := Lib.hid (same_b _ _ _ xG xG G_12.out G2_12.out (by decide) (by decide) true (by decide))
  go_wp2_with fail
  refine q13.out.mono ?_
  rintro e w13 ⟨rfl, b13⟩
  have L_13 := Lib.hid (L_12.out.below (B := 0) b13)
  have Y13 := Lib.hid (Y12.out.trans (b13.mono Y12.out.size))
  clear b13 q13 L_12 G_12 G2_12 Y12
  have q14 := Lib.hid (eEnd_any _ xL _ (smallEB_ok _ (by decide)) L_13.out (by decide))
  rw [show Exts.endR xL = 8 by decide +kernel] at q14
  go_wp2_with fail
  refine q14.out.mono ?_
  rintro e w14 ⟨rfl, b14⟩
  have L_14 := Lib.hid (L_13.out.below (B := 0) b14)
  have Y14 := Lib.hid (Y13.out.trans (b14.mono Y13.out.size))
  clear b14 q14 L_13 Y13
  have q15 := Lib.hid (ecount_any _ xL _ (smallEB_ok _ (by decide)) L_14.out (by decide))
  rw [show Exts.countR xL = 6 by decide +kernel] at q15
  go_wp2_with fail
  refine q15.out.mono ?_
  rintro e w15 ⟨rfl, b15⟩
  have L_15 := Lib.hid (L_14.out.below (B := 0) b15)
  have Y15 := Lib.hid (Y14.out.trans (b15.mono Y14.out.size))
  clear b15 q15 L_14 Y14
  go_wp2_with fail
  go_ret
  exact ⟨rfl, Y15.out⟩

end Go.Proofs.Ytgpjldmndibalaa
