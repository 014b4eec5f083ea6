/- The document's answers for rows of exts: Put, Punch, Cut. -/
import Derived.Test.YtgpjldmndibalaaExtsRef2
namespace Go.Proofs.Ytgpjldmndibalaa
open Go Go.RowKit

theorem Ans.of2 {w wy w' : World} {out : EL} {fr : RL} {e : Ending} (hb : Below w.heap.size w wy) (h : Ans2 wy w' out fr e) : ∃ v f, e = .returned (.tuple #[v, f]) ∧ Ans w w' out fr 0 (.returned (.tuple #[v, f, .int .i64 0])) := by
  obtain ⟨v, f, c, he, h1, h2, h3, h4, h5⟩ := h
  have hz := hb.size
  exact ⟨v, f, he, v, f, c, rfl, h1.mono hz, by omega, h3, h4, hb.trans (h5.mono hz)⟩
theorem box_cells9 {w : World} {X : Nat} {a b c : Int} (h : ExtsAt w (.slice (some ⟨X, 0, none⟩) 1 1) [(a, b, c)]) : w.cell? ⟨X, 0, none⟩ = some (.int .i64 a) ∧ w.cell? ⟨X, 1, none⟩ = some (.int .i64 b) ∧ w.cell? ⟨X, 2, none⟩ = some (.int .i64 c) := by
  obtain ⟨_, g, off, e, h0, h1, h2⟩ := h.cells 0 (by simp)
  cases e
  exact ⟨h0, h1, h2⟩

set_option maxRecDepth 100000 in
set_option maxHeartbeats 4000000 in
theorem ePut2_any (v : Value) (l : EL) (x : Exts.E) (w : World) (hs : SmallsE l) (hx : SmallE x) (h : ExtsAt w v l) (hl : l.length ≤ 5000) :
    Calls Try.prog 26 #[v, .agg #[.int .i64 x.1, .int .i64 x.2.1, .int .i64 x.2.2]] w fun e w' => Ans w w' (Exts.putOut l x) (Exts.putFr l x) (Exts.putE l x) e := by
  obtain ⟨xa, xb, xc⟩ := x
  dsimp only
  have B0 := Lib.hid (below_box (Below.refl w.heap.size w) (.cells #[.int .i64 xa, .int .i64 xb, .int .i64 xc] 37))
  have L_0 := Lib.hid (h.below (B := 0) B0.out)
  have X_0 : Hid (ExtsAt _ (.slice (some ⟨w.heap.size, 0, none⟩) 1 1) [(xa, xb, xc)]) := Lib.hid (extsAt_lit w [(xa, xb, xc)] #[.int .i64 xa, .int .i64 xb, .int .i64 xc] rfl 1)
  have SXL : Hid (SmallsE [(xa, xb, xc)]) := Lib.hid (fun y hy => by obtain rfl := List.mem_singleton.1 hy; exact hx)
  have q0 := Lib.hid (echeck2_any v l _ hs L_0.out (by omega))
  cases hok : Exts.okTo l l.length
  · rw [hok] at q0
    obtain ⟨p1, p2, p3⟩ := put_no (l := l) (x := (xa, xb, xc)) (fun h => by rw [hok] at h; cases h.1)
    rw [p1, p2, p3]
    clear h hok p1 p2 p3 L_0 X_0
    go_enter Try.func26, Try.ntmps26
    go_wp2_with fail
    refine q0.out.mono ?_
    rintro e w1 ⟨rfl, b1⟩
    have B1 := Lib.hid (B0.out.trans (b1.mono B0.out.size))
    clear b1
    go_wp2_with fail
    exact bodyPost_ret (v := .tuple #[.slice none 0 0, .slice none 0 0, .int .i64 2]) (by simp [results, Try.results26, go_sem]) rfl (Ans.none 2 B1.out)
  · rw [hok] at q0
    have HR := Lib.hid (Exts.check_row.1 hok)
    by_cases hm : Exts.may (xa, xb, xc)
    · obtain ⟨p1, p2, p3⟩ := put_yes hok hm
      rw [p1, p2, p3]
      have hrow := Exts.put_row HR.out hm
      have hch : Hid (∀ wy um, ExtsAt wy v l → ExtsAt wy um [(xa, xb, xc)] → Calls Try.prog 44 #[v, .int .i64 xa, .int .i64 (xa + xc), um] wy fun e w' => Ans2 wy w' (Exts.changeR l xa (Exts.fin (xa, xb, xc)) [(xa, xb, xc)]) (freedR l (Exts.changeR l xa (Exts.fin (xa, xb, xc)) [(xa, xb, xc)])) e) := Lib.hid (by
        intro wy um h1 h2
        unfold Exts.may at hm
        dsimp only at hm
        exact echange2_any v um l [(xa, xb, xc)] xa (xa + xc) wy HR.out h1 h2 (by omega) (by simp) (by omega) (by omega) (by omega) (by omega) hrow)
      have hk : Exts.okTo [(xa, xb, xc)] [(xa, xb, xc)].length = true := by rw [okTo_one, decide_eq_true hm]
      have q1 := Lib.hid (fun w4 (h : ExtsAt w4 (.slice (some ⟨w4.heap.size, 0, none⟩) 1 1) [(xa, xb, xc)]) => h)
      unfold Exts.may at hm
      dsimp only at hm
      have wx : IntKind.i64.wrap (xa + xc) = xa + xc := IntWalk.i64_in _ (by omega)
      dsimp only at *
      generalize Exts.changeR l xa (Exts.fin (xa, xb, xc)) [(xa, xb, xc)] = OUT at *
      clear h hok p1 p2 p3 hrow q1
      obtain ⟨x0, x1, x2⟩ := box_cells9 X_0.out
      go_enter Try.func26, Try.ntmps26
      go_wp2_with fail
      refine q0.out.mono ?_
      rintro e w1 ⟨rfl, b1⟩
      have B1 := Lib.hid (B0.out.trans (b1.mono B0.out.size))
      have X_1 := Lib.hid (X_0.out.below (B := 0) b1)
      have L_1 := Lib.hid (L_0.out.below (B := 0) b1)
      clear b1 x0 x1 x2 X_0 L_0 q0
      obtain ⟨x0, x1, x2⟩ := box_cells9 X_1.out
      have q1 := Lib.hid (echeck2_any _ [(xa, xb, xc)] _ SXL.out (extsAt_lit w1 [(xa, xb, xc)] #[.int .i64 xa, .int .i64 xb, .int .i64 xc] rfl 1) (by simp))
      rw [hk] at q1
      have bb1 := Lib.hid (below_box (Below.refl w1.heap.size w1) (.cells #[.int .i64 xa, .int .i64 xb, .int .i64 xc] 37))
      go_wp2_with fail
      refine q1.out.mono ?_
      rintro e w2 ⟨rfl, b2⟩
      have bb2 := Lib.hid (bb1.out.trans (b2.mono bb1.out.size))
      have X_2 := Lib.hid (X_1.out.below (B := 0) bb2.out)
      have L_2 := Lib.hid (L_1.out.below (B := 0) bb2.out)
      have B2 := Lib.hid (B1.out.trans (bb2.out.mono B1.out.size))
      clear b2 bb1 bb2 x0 x1 x2 X_1 L_1 q1 B1
      obtain ⟨x0, x1, x2⟩ := box_cells9 X_2.out
      have bb3 := Lib.hid (below_box (Below.refl w2.heap.size w2) (.cells #[.int .i64 xa, .int .i64 xb, .int .i64 xc] 37))
      have q2 := Lib.hid (hch.out _ _ (L_2.out.below (B := 0) bb3.out) (extsAt_lit w2 [(xa, xb, xc)] #[.int .i64 xa, .int .i64 xb, .int .i64 xc] rfl 1))
      have B3 := Lib.hid (B2.out.trans (bb3.out.mono B2.out.size))
      clear hch
      go_wp2_with fail
      refine q2.out.mono ?_
      rintro e w4 hA
      obtain ⟨v4, f4, rfl, hA4⟩ := Ans.of2 B3.out hA
      have F := Lib.hid hA4
      clear hA hA4 q2
      go_wp2_with fail
      exact bodyPost_ret (v := .tuple #[v4, f4, .int .i64 0]) (by simp [results, Try.results26, go_sem]) rfl F.out
    · obtain ⟨p1, p2, p3⟩ := put_no (l := l) (x := (xa, xb, xc)) (fun h => hm h.2)
      rw [p1, p2, p3]
      have hk : Exts.okTo [(xa, xb, xc)] [(xa, xb, xc)].length = false := by rw [okTo_one, decide_eq_false hm]
      clear h hok p1 p2 p3 hm
      obtain ⟨x0, x1, x2⟩ := box_cells9 X_0.out
      go_enter Try.func26, Try.ntmps26
      go_wp2_with fail
      refine q0.out.mono ?_
      rintro e w1 ⟨rfl, b1⟩
      have B1 := Lib.hid (B0.out.trans (b1.mono B0.out.size))
      have X_1 := Lib.hid (X_0.out.below (B := 0) b1)
      clear b1 x0 x1 x2 X_0 L_0 q0
      obtain ⟨x0, x1, x2⟩ := box_cells9 X_1.out
      have q1 := Lib.hid (echeck2_any _ [(xa, xb, xc)] _ SXL.out (extsAt_lit w1 [(xa, xb, xc)] #[.int .i64 xa, .int .i64 xb, .int .i64 xc] rfl 1) (by simp))
      rw [hk] at q1
      have bb1 := Lib.hid (below_box (Below.refl w1.heap.size w1) (.cells #[.int .i64 xa, .int .i64 xb, .int .i64 xc] 37))
      go_wp2_with fail
      refine q1.out.mono ?_
      rintro e w2 ⟨rfl, b2⟩
      have B2 := Lib.hid (B1.out.trans ((bb1.out.trans (b2.mono bb1.out.size)).mono B1.out.size))
      clear b2 x0 x1 x2
      go_wp2_with fail
      exact bodyPost_ret (v := .tuple #[.slice none 0 0, .slice none 0 0, .int .i64 2]) (by simp [results, Try.results26, go_sem]) rfl (Ans.none 2 B2.out)

set_option maxRecDepth 100000 in
set_option maxHeartbeats 4000000 in
theorem ePunch2_any (v : Value) (l : EL) (a n : Int) (w : World) (hs : SmallsE l) (h : ExtsAt w v l) (hl : l.length ≤ 5000) (ha : -9223372036854775808 ≤ a ∧ a ≤ 9223372036854775807) (hn : -9223372036854775808 ≤ n ∧ n ≤ 9223372036854775807) :
    Calls Try.prog 29 #[v, .int .i64 a, .int .i64 n] w fun e w' => Ans w w' (Exts.punchOut l a n) (Exts.punchFr l a n) (Exts.punchE l a n) e := by
  obtain ⟨i0', hi0, hz0, hz1, hz2⟩ := info_parts info_ext
  have q := Lib.hid (echeck2_any v l w hs h (by omega))
  have H := Lib.hid h
  by_cases hy : Exts.okTo l l.length = true ∧ (0 ≤ a ∧ 0 ≤ n ∧ a ≤ 2048 ∧ n ≤ 2048 - a)
  · obtain ⟨hok, hp⟩ := hy
    obtain ⟨p1, p2, p3⟩ := punch_yes hok hp
    rw [p1, p2, p3]
    rw [hok] at q
    have HR := Lib.hid (Exts.check_row.1 hok)
    obtain ⟨k1, k2, k3, k4⟩ := hp
    have wd : IntKind.i64.wrap (2048 - a) = 2048 - a := IntWalk.i64_in _ (by omega)
    by_cases hz : n = 0
    · subst hz
      have e : Exts.punchR l a 0 = l := by unfold Exts.punchR; rw [if_pos rfl]
      rw [e]
      have hfin : Hid (∀ (w1 w2 : World) (v2 : Value), Below w.heap.size w w1 → OwnExts w1.heap.size w2 v2 l → Below w1.heap.size w1 w2 → Ans w w2 l (freedR l l) 0 (.returned (.tuple #[v2, .slice none 0 0, .int .i64 0]))) := Lib.hid (by
        intro w1 w2 v2 hb o2 b2
        unfold freedR
        rw [Exts.minus_self]
        exact ⟨v2, _, w2.heap.size, rfl, o2.mono hb.size, by have := hb.size; have := b2.size; omega, fun k hk => (World.ownsRow.lt o2 k hk).2, World.ownsRow_nil _ _ _ _, hb.trans (b2.mono hb.size)⟩)
      rcases h with ⟨rfl, rfl⟩ | ⟨gm, om, cm, rfl, hcm⟩
      · clear hok p1 p2 p3 e
        go_enter Try.func29, Try.ntmps29
        go_wp2_with fail
        refine q.out.mono ?_
        rintro e w1 ⟨rfl, b1⟩
        have B1 := Lib.hid (b1)
        have O1 : Hid (OwnExts w1.heap.size w1 (.slice none 0 0) []) := Lib.hid (World.ownsRow_nil _ _ _ _)
        have F := Lib.hid (hfin.out w1 w1 (.slice none 0 0) B1.out O1.out (Below.refl _ _))
        clear b1
        go_wp2_with fail
        exact bodyPost_ret (v := .tuple #[.slice none 0 0, .slice none 0 0, .int .i64 0]) (by simp [results, Try.results29, go_sem]) rfl F.out
      · clear hok p1 p2 p3 e
        have hone := ecells_one l
        have hrl := ecells_length l
        go_enter Try.func29, Try.ntmps29
        go_wp2_with fail
        refine q.out.mono ?_
        rintro e w1 ⟨rfl, b1⟩
        have B1 := Lib.hid (b1)
        have hg0 : Hid (∀ j v, (ecells l)[j]? = some v → w1.cell? ((⟨gm, om, none⟩ : Addr).add j) = some v) := Lib.hid (fun j v hv => by
          have e1 : (⟨gm, om, none⟩ : Addr).add j = ⟨gm, om + j, none⟩ := by unfold Addr.add; split <;> simp_all
          rw [e1]
          exact (b1.cell (p := ⟨gm, om + j, none⟩) (World.block_lt_of_cell? w _ (hcm j v hv))).trans (hcm j v hv))
        have O0 : Hid (w1.ownsRow w1.heap.size 37 3 (.slice none 0 0) 0 []) := Lib.hid (World.ownsRow_nil _ _ _ _)
        clear b1 hcm
        go_wp2_with (first
          | (at_builtin; refine wpList_append_own _ rfl _ _ 22 rfl w1.heap.size 37 i0' (.agg #[.int .i64 0, .int .i64 0, .int .i64 0]) 3 24 Try.underlying22 hi0 hz0 hz1 hz2 rfl (by decide) _ 0 _ rfl O0.out ⟨gm, om, none⟩ l.length _ (ecells l) rfl hrl hg0.out hone (by unfold maxLen; omega) (by omega) (Nat.le_refl _) ?_))
        intro v' w5 hown hgrow _
        have B5 : Below w1.heap.size w1 w5 := (Below.refl _ _).grown hgrow (Nat.le_refl _) (fun k hk => by cases hk)
        have O5 : OwnExts w1.heap.size w5 v' l := by
          first
            | exact hown
            | simpa using hown
        have F := Lib.hid (hfin.out w1 w5 v' B1.out O5 B5)
        clear hown hgrow B5 O5 hg0
        go_wp2_with fail
        exact bodyPost_ret (v := .tuple #[v', .slice none 0 0, .int .i64 0]) (by simp [results, Try.results29, go_sem]) rfl F.out
    · have hz' : (n == 0) = false := by simpa using hz
      have hrow := Exts.gone_row HR.out a (a + n) k1 (by omega)
      have hpe : Exts.punchR l a n = Exts.changeR l a (a + n) [] := by unfold Exts.punchR; rw [if_neg hz]
      rw [hpe]
      have hch : Hid (∀ wy, Below w.heap.size w wy → Calls Try.prog 44 #[v, .int .i64 a, .int .i64 (a + n), .slice none 0 0] wy fun e w' => Ans2 wy w' (Exts.changeR l a (a + n) []) (freedR l (Exts.changeR l a (a + n) [])) e) := Lib.hid (by
        intro wy hb
        exact echange2_any v (.slice none 0 0) l [] a (a + n) wy HR.out (H.out.below (B := 0) hb) (.inl ⟨rfl, rfl⟩) (by omega) (by simp) k1 ha.2 (by omega) (by omega) hrow)
      have wn : IntKind.i64.wrap (a + n) = a + n := IntWalk.i64_in _ (by omega)
      clear h hok hpe hrow p1 p2 p3 hz
      go_enter Try.func29, Try.ntmps29
      go_wp2_with fail
      refine q.out.mono ?_
      rintro e w1 ⟨rfl, b1⟩
      have B1 := Lib.hid (b1)
      have q2 := Lib.hid (hch.out w1 B1.out)
      clear b1 hch
      go_wp2_with fail
      refine q2.out.mono ?_
      rintro e w2 hA
      obtain ⟨v2, f2, rfl, hA4⟩ := Ans.of2 B1.out hA
      have F := Lib.hid hA4
      clear hA hA4 q2
      go_wp2_with fail
      exact bodyPost_ret (v := .tuple #[v2, f2, .int .i64 0]) (by simp [results, Try.results29, go_sem]) rfl F.out
  · obtain ⟨p1, p2, p3⟩ := punch_no hy
    rw [p1, p2, p3]
    clear h p1 p2 p3
    cases hok : Exts.okTo l l.length
    · rw [hok] at q
      clear hy hok
      go_enter Try.func29, Try.ntmps29
      go_wp2_with fail
      refine q.out.mono ?_
      rintro e w1 ⟨rfl, b1⟩
      have B1 := Lib.hid (b1)
      clear b1
      go_wp2_with fail
      exact bodyPost_ret (v := .tuple #[.slice none 0 0, .slice none 0 0, .int .i64 2]) (by simp [results, Try.results29, go_sem]) rfl (Ans.none 2 B1.out)
    · rw [hok] at q
      have hp : ¬ (0 ≤ a ∧ 0 ≤ n ∧ a ≤ 2048 ∧ n ≤ 2048 - a) := fun h => hy ⟨hok, h⟩
      clear hy hok
      by_cases p1 : a < 0
      · go_enter Try.func29, Try.ntmps29
        go_wp2_with fail
        refine q.out.mono ?_
        rintro e w1 ⟨rfl, b1⟩
        have B1 := Lib.hid (b1)
        clear b1
        go_wp2_with fail
        exact bodyPost_ret (v := .tuple #[.slice none 0 0, .slice none 0 0, .int .i64 2]) (by simp [results, Try.results29, go_sem]) rfl (Ans.none 2 B1.out)
      by_cases p2 : n < 0
      · go_enter Try.func29, Try.ntmps29
        go_wp2_with fail
        refine q.out.mono ?_
        rintro e w1 ⟨rfl, b1⟩
        have B1 := Lib.hid (b1)
        clear b1
        go_wp2_with fail
        exact bodyPost_ret (v := .tuple #[.slice none 0 0, .slice none 0 0, .int .i64 2]) (by simp [results, Try.results29, go_sem]) rfl (Ans.none 2 B1.out)
      by_cases p3 : 2048 < a
      · go_enter Try.func29, Try.ntmps29
        go_wp2_with fail
        refine q.out.mono ?_
        rintro e w1 ⟨rfl, b1⟩
        have B1 := Lib.hid (b1)
        clear b1
        go_wp2_with fail
        exact bodyPost_ret (v := .tuple #[.slice none 0 0, .slice none 0 0, .int .i64 2]) (by simp [results, Try.results29, go_sem]) rfl (Ans.none 2 B1.out)
      · have p4 : 2048 - a < n := by omega
        have wd : IntKind.i64.wrap (2048 - a) = 2048 - a := IntWalk.i64_in _ (by omega)
        clear hp
        go_enter Try.func29, Try.ntmps29
        go_wp2_with fail
        refine q.out.mono ?_
        rintro e w1 ⟨rfl, b1⟩
        have B1 := Lib.hid (b1)
        clear b1
        go_wp2_with fail
        exact bodyPost_ret (v := .tuple #[.slice none 0 0, .slice none 0 0, .int .i64 2]) (by simp [results, Try.results29, go_sem]) rfl (Ans.none 2 B1.out)

set_option maxRecDepth 100000 in
set_option maxHeartbeats 4000000 in
theorem eCut2_any (v : Value) (l : EL) (a : Int) (w : World) (hs : SmallsE l) (h : ExtsAt w v l) (hl : l.length ≤ 5000) (ha : -9223372036854775808 ≤ a ∧ a ≤ 9223372036854775807) :
    Calls Try.prog 33 #[v, .int .i64 a] w fun e w' => Ans w w' (Exts.cutOut l a) (Exts.cutFr l a) (Exts.cutE l a) e := by
  have q := Lib.hid (echeck2_any v l w hs h (by omega))
  have H := Lib.hid h
  by_cases hy : Exts.okTo l l.length = true ∧ 0 ≤ a
  · obtain ⟨hok, hp⟩ := hy
    obtain ⟨p1, p2, p3⟩ := cut_yes hok hp
    rw [p1, p2, p3]
    rw [hok] at q
    have HR := Lib.hid (Exts.check_row.1 hok)
    have hce : Exts.cutR l a = Exts.changeR l a 2048 [] := by
      unfold Exts.cutR Exts.changeR
      by_cases h1 : a ≤ 2048
      · rw [show min a 2048 = a by omega]
      · rw [show min a 2048 = 2048 by omega]
        have e : Exts.parts l 0 a = Exts.parts l 0 2048 := by
          rw [Exts.parts_ahead (fun y hy => HR.out.may y hy) (fun y hy => by have := HR.out.may y hy; unfold Exts.may at this; unfold Exts.fin; omega), Exts.parts_ahead (fun y hy => HR.out.may y hy) (fun y hy => by have := HR.out.may y hy; unfold Exts.may at this; unfold Exts.fin; omega)]
        rw [e]
    have hrow := cut_row HR.out hp
    rw [hce] at hrow ⊢
    have hch : Hid (∀ wy, Below w.heap.size w wy → Calls Try.prog 44 #[v, .int .i64 a, .int .i64 2048, .slice none 0 0] wy fun e w' => Ans2 wy w' (Exts.changeR l a 2048 []) (freedR l (Exts.changeR l a 2048 [])) e) := Lib.hid (by
      intro wy hb
      exact echange2_any v (.slice none 0 0) l [] a 2048 wy HR.out (H.out.below (B := 0) hb) (.inl ⟨rfl, rfl⟩) (by omega) (by simp) hp ha.2 (by omega) (by omega) hrow)
    clear h hok hrow p1 p2 p3 hce
    go_enter Try.func33, Try.ntmps33
    go_wp2_with fail
    refine q.out.mono ?_
    rintro e w1 ⟨rfl, b1⟩
    have B1 := Lib.hid (b1)
    have q2 := Lib.hid (hch.out w1 B1.out)
    clear b1 hch
    go_wp2_with fail
    refine q2.out.mono ?_
    rintro e w2 hA
    obtain ⟨v2, f2, rfl, hA4⟩ := Ans.of2 B1.out hA
    have F := Lib.hid hA4
    clear hA hA4 q2
    go_wp2_with fail
    exact bodyPost_ret (v := .tuple #[v2, f2, .int .i64 0]) (by simp [results, Try.results33, go_sem]) rfl F.out
  · obtain ⟨p1, p2, p3⟩ := cut_no hy
    rw [p1, p2, p3]
    clear h p1 p2 p3
    cases hok : Exts.okTo l l.length
    · rw [hok] at q
      clear hy hok
      go_enter Try.func33, Try.ntmps33
      go_wp2_with fail
      refine q.out.mono ?_
      rintro e w1 ⟨rfl, b1⟩
      have B1 := Lib.hid (b1)
      clear b1
      go_wp2_with fail
      exact bodyPost_ret (v := .tuple #[.slice none 0 0, .slice none 0 0, .int .i64 2]) (by simp [results, Try.results33, go_sem]) rfl (Ans.none 2 B1.out)
    · rw [hok] at q
      have hp : a < 0 := Int.not_le.1 (fun h => hy ⟨hok, h⟩)
      clear hy hok
      go_enter Try.func33, Try.ntmps33
      go_wp2_with fail
      refine q.out.mono ?_
      rintro e w1 ⟨rfl, b1⟩
      have B1 := Lib.hid (b1)
      clear b1
      go_wp2_with fail
      exact bodyPost_ret (v := .tuple #[.slice none 0 0, .slice none 0 0, .int .i64 2]) (by simp [results, Try.results33, go_sem]) rfl (Ans.none 2 B1.out)

end Go.Proofs.Ytgpjldmndibalaa
