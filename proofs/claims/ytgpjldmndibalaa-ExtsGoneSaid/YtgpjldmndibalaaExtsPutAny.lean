/- Exts: Put, Punch, Cut. -/
import Derived.Test.YtgpjldmndibalaaExtsChange
namespace Go.Proofs.Ytgpjldmndibalaa
open Go Go.RowKit

namespace Exts
def puts (l : EL) (x : E) : Bool := okTo l l.length && decide (may x)
def putOut (l : EL) (x : E) : EL := if puts l x then changeR l x.1 (fin x) [x] else []
def putFr (l : EL) (x : E) : List (Int × Int) := if puts l x then Runs.minusR (blocksR l) (blocksR (changeR l x.1 (fin x) [x])) else []
def putE (l : EL) (x : E) : Int := if puts l x then 0 else 2
def punches (l : EL) (a n : Int) : Bool := okTo l l.length && decide (0 ≤ a ∧ 0 ≤ n ∧ a ≤ 2048 ∧ n ≤ 2048 - a)
def punchR (l : EL) (a n : Int) : EL := if n = 0 then l else changeR l a (a + n) []
def punchOut (l : EL) (a n : Int) : EL := if punches l a n then punchR l a n else []
def punchFr (l : EL) (a n : Int) : List (Int × Int) := if punches l a n then Runs.minusR (blocksR l) (blocksR (punchR l a n)) else []
def punchE (l : EL) (a n : Int) : Int := if punches l a n then 0 else 2
def cuts (l : EL) (a : Int) : Bool := okTo l l.length && decide (0 ≤ a)
def cutR (l : EL) (a : Int) : EL := changeR l (min a 2048) 2048 []
def cutOut (l : EL) (a : Int) : EL := if cuts l a then cutR l a else []
def cutFr (l : EL) (a : Int) : List (Int × Int) := if cuts l a then Runs.minusR (blocksR l) (blocksR (cutR l a)) else []
def cutE (l : EL) (a : Int) : Int := if cuts l a then 0 else 2
theorem minus_self (r : List (Int × Int)) : Runs.minusR r r = [] :=
  Runs.row_eq _ _ (Runs.minusR_spec r r).1 trivial fun i => by rw [(Runs.minusR_spec r r).2]; simp [Runs.mem_nil]
end Exts

theorem extsAt_lit (w : World) (l : EL) (vs : Array Value) (h : vs.toList = ecells l) (c : Nat) : ExtsAt (w.alloc (.cells vs 37)) (.slice (some ⟨w.heap.size, 0, none⟩) l.length c) l :=
  .inr ⟨_, 0, c, rfl, fun j u hj => by
    rw [Nat.zero_add, box_cell, ← Array.getElem?_toList, h]
    exact hj⟩
theorem below_box {w w' : World} (h : Below w.heap.size w w') (o : Obj) : Below w.heap.size w (w'.alloc o) := h.alloc h.size o
theorem Ans.from {w wy w' : World} {out : EL} {fr : RL} {k : Int} {e : Ending} (hb : Below w.heap.size w wy) (h : Ans wy w' out fr k e) : Ans w w' out fr k e := by
  obtain ⟨v, f, c, he, h1, h2, h3, h4, h5⟩ := h
  have hz := hb.size
  exact ⟨v, f, c, he, h1.mono hz, by omega, h3, h4, hb.trans (h5.mono hz)⟩

set_option maxRecDepth 100000 in
set_option maxHeartbeats 4000000 in
theorem ePut_any (v : Value) (l : EL) (x : Exts.E) (w : World) (hs : SmallsE l) (hx : SmallE x) (h : ExtsAt w v l) (hl : l.length ≤ 1000000) :
    Calls Try.prog 25 #[v, .agg #[.int .i64 x.1, .int .i64 x.2.1, .int .i64 x.2.2]] w fun e w' => Ans w w' (Exts.putOut l x) (Exts.putFr l x) (Exts.putE l x) e := by
  have bA : Below w.heap.size w (w.alloc (.cells #[.int .i64 x.1, .int .i64 x.2.1, .int .i64 x.2.2] 37)) := (Below.refl _ _).alloc (Nat.le_refl _) _
  have q := Lib.hid (echeck_any v l _ hs (h.below (B := 0) bA) (by omega))
  obtain ⟨ad, cap, hv⟩ : ∃ ad cap, v = .slice ad l.length cap := by
    rcases h with ⟨rfl, rfl⟩ | ⟨b, off, cap, rfl, _⟩
    · exact ⟨_, _, rfl⟩
    · exact ⟨_, _, rfl⟩
  have HV := Lib.hid hv
  have BA := Lib.hid bA
  cases hok : Exts.okTo l l.length
  · rw [hok] at q
    have e0 : Exts.puts l x = false := by unfold Exts.puts; rw [hok]; rfl
    unfold Exts.putOut Exts.putFr Exts.putE
    rw [e0]
    obtain ⟨xa, xb, xc⟩ := x
    dsimp only at *
    clear h hok hv bA e0
    go_enter Try.func25, Try.ntmps25
    go_wp2_with fail
    refine q.out.mono ?_
    rintro e w1 ⟨rfl, b1⟩
    have B1 := Lib.hid (BA.out.trans (b1.mono BA.out.size))
    clear b1
    go_wp2_with fail
    exact bodyPost_ret (v := .tuple #[.slice none 0 0, .slice none 0 0, .int .i64 2]) (by simp [results, Try.results25, go_sem]) rfl (Ans.none 2 B1.out)
  · rw [hok] at q
    have HR := Lib.hid (Exts.check_row.1 hok)
    have H := Lib.hid h
    by_cases hm : Exts.may x
    · have e0 : Exts.puts l x = true := by unfold Exts.puts; rw [hok, decide_eq_true hm]; rfl
      unfold Exts.putOut Exts.putFr Exts.putE
      rw [e0]
      have hmx : Exts.may x := hm
      unfold Exts.may at hmx
      have hq := Lib.hid (fun w => emay_any x hx w)
      rw [decide_eq_true hm] at hq
      have he := Lib.hid (fun w => eend_any x (emay_fin hm) w)
      have hpa := Lib.hid (Exts.part_all x hm)
      have hrow := Lib.hid (Exts.put_row HR.out hm)
      have hf0 : 0 ≤ Exts.fin x ∧ Exts.fin x ≤ 9223372036854775807 := by unfold Exts.fin; omega
      have HM := Lib.hid hm
      have hch : Hid (∀ wy u, ExtsAt wy v l → ExtsAt wy u [x] → Calls Try.prog 43 #[v, .int .i64 x.1, .int .i64 (Exts.fin x), u] wy fun e w' => Ans wy w' (Exts.changeR l x.1 (Exts.fin x) [x]) (freedR l (Exts.changeR l x.1 (Exts.fin x) [x])) 0 e) := Lib.hid (by
        intro wy u h1 h2
        have hp : Exts.parts [x] x.1 (Exts.fin x) = [x] := by
          rw [Exts.parts_cons, hpa.out]; rfl
        have := echange_any v u l [x] x.1 (Exts.fin x) wy HR.out (fun y hy => by obtain rfl := List.mem_singleton.1 hy; exact hm) h1 h2 (by omega) (by simp) (by omega) (by omega) hf0.1 hf0.2 (by rw [hp]; exact hrow.out)
        rw [hp] at this
        exact this)
      have x0 : (w.alloc (.cells #[.int .i64 x.1, .int .i64 x.2.1, .int .i64 x.2.2] 37)).cell? ⟨w.heap.size, 0, none⟩ = some (.int .i64 x.1) := box_cell _ _ _ _
      have x1 : (w.alloc (.cells #[.int .i64 x.1, .int .i64 x.2.1, .int .i64 x.2.2] 37)).cell? ⟨w.heap.size, 1, none⟩ = some (.int .i64 x.2.1) := box_cell _ _ _ _
      have x2 : (w.alloc (.cells #[.int .i64 x.1, .int .i64 x.2.1, .int .i64 x.2.2] 37)).cell? ⟨w.heap.size, 2, none⟩ = some (.int .i64 x.2.2) := box_cell _ _ _ _
      generalize Exts.changeR l x.1 (Exts.fin x) [x] = OUT at *
      generalize hFin : Exts.fin x = FX at *
      obtain ⟨xa, xb, xc⟩ := x
      dsimp only at *
      have zY : w.heap.size < (w.alloc (.cells #[.int .i64 xa, .int .i64 xb, .int .i64 xc] 37)).heap.size := by simp
      clear h hok hv bA e0 hm hmx hpa hrow hFin
      go_enter Try.func25, Try.ntmps25
      go_wp2_with fail
      refine q.out.mono ?_
      rintro e w1 ⟨rfl, b1⟩
      have y0 := (b1.cell (p := ⟨w.heap.size, 0, none⟩) zY).trans x0
      have y1 := (b1.cell (p := ⟨w.heap.size, 1, none⟩) zY).trans x1
      have y2 := (b1.cell (p := ⟨w.heap.size, 2, none⟩) zY).trans x2
      have zY1 := World.block_lt_of_cell? _ _ y0
      have B1 := Lib.hid (BA.out.trans (b1.mono BA.out.size))
      clear x0 x1 x2 zY b1 q
      go_wp2_with fail
      refine (hq.out _).mono ?_
      rintro e w2 ⟨rfl, b2⟩
      have x0 := (b2.cell (p := ⟨w.heap.size, 0, none⟩) zY1).trans y0
      have x1 := (b2.cell (p := ⟨w.heap.size, 1, none⟩) zY1).trans y1
      have x2 := (b2.cell (p := ⟨w.heap.size, 2, none⟩) zY1).trans y2
      have zY := World.block_lt_of_cell? _ _ x0
      have B2 := Lib.hid (B1.out.trans (b2.mono B1.out.size))
      clear y0 y1 y2 zY1 b2 hq B1
      go_upto_region 3 with fail
      generalize hY : w.heap.size = Y at *
      have hfr : Hid (∀ wz, Below w2.heap.size w2 wz → Below w.heap.size w wz) := Lib.hid (fun wz hz => by rw [hY]; exact B2.out.trans (hz.mono (by have := B2.out.size; omega)))
      have hlv := Lib.hid (fun wz (hz : Below w.heap.size w wz) => H.out.below (B := 0) hz)
      have hlit : Hid (∀ w4 : World, ExtsAt (w4.alloc (.cells #[.int .i64 xa, .int .i64 xb, .int .i64 xc] 37)) (.slice (some ⟨w4.heap.size, 0, none⟩) 1 1) [(xa, xb, xc)]) := Lib.hid (fun w4 => extsAt_lit w4 [(xa, xb, xc)] _ rfl 1)
      have KEEP : Hid (∀ wz, Below w2.heap.size w2 wz → wz.cell? ⟨Y, 0, none⟩ = some (.int .i64 xa) ∧ wz.cell? ⟨Y, 1, none⟩ = some (.int .i64 xb) ∧ wz.cell? ⟨Y, 2, none⟩ = some (.int .i64 xc)) := Lib.hid (fun wz hz => ⟨(hz.cell (p := ⟨Y, 0, none⟩) zY).trans x0, (hz.cell (p := ⟨Y, 1, none⟩) zY).trans x1, (hz.cell (p := ⟨Y, 2, none⟩) zY).trans x2⟩)
      have s0 : Below w2.heap.size w2 w2.drew := (Below.refl _ _).drew
      have s1 : Below w2.heap.size w2 (w2.alloc (.cells #[.int .i64 xa, .int .i64 xb, .int .i64 xc] 37)).drew := (below_box (Below.refl _ _) _).drew
      have hl1 : Hid (ExtsAt (w2.alloc (.cells #[.int .i64 xa, .int .i64 xb, .int .i64 xc] 37)).drew (.slice (some ⟨w2.heap.size, 0, none⟩) 1 1) [(xa, xb, xc)]) := Lib.hid (hlit.out w2)
      go_region_held3 (fun w' => w'.cell? ⟨Y, 0, none⟩ = some (.int .i64 xa) ∧ w'.cell? ⟨Y, 1, none⟩ = some (.int .i64 xb) ∧ w'.cell? ⟨Y, 2, none⟩ = some (.int .i64 xc))
        (first | (refine KEEP.out _ ?_; assumption) | (refine KEEP.out _ (below_box ?_ _); assumption))
        (first | (go_at_call 38; refine (he.out _).mono ?_; rintro e w4 ⟨rfl, b4⟩; (first | (have s4 : Below w2.heap.size w2 w4 := s0.trans (b4.mono s0.size)) | (have s4 : Below w2.heap.size w2 w4 := s1.trans (b4.mono s1.size)))) | (go_at_call 43; first | ((with_reducible refine (hch.out _ _ (hlv.out _ (hfr.out _ (below_box s4 _))) (hlit.out w4)).mono ?_); rintro e w5 hA; have hA5 := Lib.hid (Ans.from (hfr.out _ (below_box s4 _)) hA); obtain ⟨v5, f5, c5, rfl, _, _, _, _, b5⟩ := hA; have s5 : Below w2.heap.size w2 w5 := (below_box s4 _).trans (b5.mono (below_box s4 _).size); clear b5) | ((with_reducible refine (hch.out _ _ (hlv.out _ (hfr.out _ s4)) (ExtsAt.below (B := 0) hl1.out b4)).mono ?_); rintro e w5 hA; have hA5 := Lib.hid (Ans.from (hfr.out _ s4) hA); obtain ⟨v5, f5, c5, rfl, _, _, _, _, b5⟩ := hA; have s5 : Below w2.heap.size w2 w5 := s4.trans (b5.mono s4.size); clear b5)))
      all_goals
        clear s4 s5 b4 hch he KEEP s0 s1
        go_wp2_with fail
        exact bodyPost_ret (v := .tuple #[v5, f5, .int .i64 0]) (by simp [results, Try.results25, go_sem]) rfl hA5.out
    · have e0 : Exts.puts l x = false := by unfold Exts.puts; rw [hok, decide_eq_false hm]; rfl
      unfold Exts.putOut Exts.putFr Exts.putE
      rw [e0]
      have hq := Lib.hid (fun w => emay_any x hx w)
      rw [decide_eq_false hm] at hq
      have x0 : (w.alloc (.cells #[.int .i64 x.1, .int .i64 x.2.1, .int .i64 x.2.2] 37)).cell? ⟨w.heap.size, 0, none⟩ = some (.int .i64 x.1) := box_cell _ _ _ _
      have x1 : (w.alloc (.cells #[.int .i64 x.1, .int .i64 x.2.1, .int .i64 x.2.2] 37)).cell? ⟨w.heap.size, 1, none⟩ = some (.int .i64 x.2.1) := box_cell _ _ _ _
      have x2 : (w.alloc (.cells #[.int .i64 x.1, .int .i64 x.2.1, .int .i64 x.2.2] 37)).cell? ⟨w.heap.size, 2, none⟩ = some (.int .i64 x.2.2) := box_cell _ _ _ _
      obtain ⟨xa, xb, xc⟩ := x
      dsimp only at *
      have zY : w.heap.size < (w.alloc (.cells #[.int .i64 xa, .int .i64 xb, .int .i64 xc] 37)).heap.size := by simp
      clear h hok hv bA e0 hm
      go_enter Try.func25, Try.ntmps25
      go_wp2_with fail
      refine q.out.mono ?_
      rintro e w1 ⟨rfl, b1⟩
      have y0 := (b1.cell (p := ⟨w.heap.size, 0, none⟩) zY).trans x0
      have y1 := (b1.cell (p := ⟨w.heap.size, 1, none⟩) zY).trans x1
      have y2 := (b1.cell (p := ⟨w.heap.size, 2, none⟩) zY).trans x2
      have B1 := Lib.hid (BA.out.trans (b1.mono BA.out.size))
      clear x0 x1 x2 zY b1 q
      go_wp2_with fail
      refine (hq.out _).mono ?_
      rintro e w2 ⟨rfl, b2⟩
      have B2 := Lib.hid (B1.out.trans (b2.mono B1.out.size))
      clear b2 y0 y1 y2
      go_wp2_with fail
      exact bodyPost_ret (v := .tuple #[.slice none 0 0, .slice none 0 0, .int .i64 2]) (by simp [results, Try.results25, go_sem]) rfl (Ans.none 2 B2.out)

set_option maxRecDepth 100000 in
set_option maxHeartbeats 4000000 in
theorem ePunch_any (v : Value) (l : EL) (a n : Int) (w : World) (hs : SmallsE l) (h : ExtsAt w v l) (hl : l.length ≤ 1000000) (ha : -9223372036854775808 ≤ a ∧ a ≤ 9223372036854775807) (hn : -9223372036854775808 ≤ n ∧ n ≤ 9223372036854775807) :
    Calls Try.prog 28 #[v, .int .i64 a, .int .i64 n] w fun e w' => Ans w w' (Exts.punchOut l a n) (Exts.punchFr l a n) (Exts.punchE l a n) e := by
  have q := Lib.hid (echeck_any v l w hs h (by omega))
  have H := Lib.hid h
  unfold Exts.punchOut Exts.punchFr Exts.punchE
  cases hok : Exts.okTo l l.length
  · rw [hok] at q
    have e0 : Exts.punches l a n = false := by unfold Exts.punches; rw [hok]; rfl
    rw [e0]
    clear h hok e0
    go_enter Try.func28, Try.ntmps28
    go_wp2_with fail
    refine q.out.mono ?_
    rintro e w1 ⟨rfl, b1⟩
    have B1 := Lib.hid b1
    clear b1
    go_wp2_with fail
    exact bodyPost_ret (v := .tuple #[.slice none 0 0, .slice none 0 0, .int .i64 2]) (by simp [results, Try.results28, go_sem]) rfl (Ans.none 2 B1.out)
  · rw [hok] at q
    have HR := Lib.hid (Exts.check_row.1 hok)
    by_cases hp : 0 ≤ a ∧ 0 ≤ n ∧ a ≤ 2048 ∧ n ≤ 2048 - a
    · have e0 : Exts.punches l a n = true := by unfold Exts.punches; rw [hok, decide_eq_true hp]; rfl
      rw [e0]
      obtain ⟨p1, p2, p3, p4⟩ := hp
      have wd : IntKind.i64.wrap (2048 - a) = 2048 - a := IntWalk.i64_in _ (by omega)
      by_cases hz : n = 0
      · subst hz
        have hq := Lib.hid (fun w1 (hb : Below w.heap.size w w1) => eclone_any v l w1 (H.out.below (B := 0) hb) (by omega))
        have hfin : Hid (∀ (w1 w2 : World) (v2 : Value), Below w.heap.size w w1 → OwnExts w1.heap.size w2 v2 l → Below w1.heap.size w1 w2 → Ans w w2 (Exts.punchR l a 0) (Runs.minusR (Exts.blocksR l) (Exts.blocksR (Exts.punchR l a 0))) 0 (.returned (.tuple #[v2, .slice none 0 0, .int .i64 0]))) := Lib.hid (by
          intro w1 w2 v2 hb o2 b2
          have e : Exts.punchR l a 0 = l := by unfold Exts.punchR; rw [if_pos rfl]
          rw [e, Exts.minus_self]
          exact ⟨v2, _, w2.heap.size, rfl, o2.mono hb.size, by have := hb.size; have := b2.size; omega, fun k hk => (World.ownsRow.lt o2 k hk).2, World.ownsRow_nil _ _ _ _, hb.trans (b2.mono hb.size)⟩)
        clear h hok e0
        go_enter Try.func28, Try.ntmps28
        go_wp2_with fail
        refine q.out.mono ?_
        rintro e w1 ⟨rfl, b1⟩
        have B1 := Lib.hid b1
        clear b1
        go_wp2_with fail
        refine (hq.out w1 B1.out).mono ?_
        rintro e w2 ⟨v2, rfl, o2, b2⟩
        have F := Lib.hid (hfin.out w1 w2 v2 B1.out o2 b2)
        clear o2 b2
        go_wp2_with fail
        exact bodyPost_ret (v := .tuple #[v2, .slice none 0 0, .int .i64 0]) (by simp [results, Try.results28, go_sem]) rfl F.out
      · have hz' : (n == 0) = false := by simpa using hz
        have hrow := Lib.hid (Exts.gone_row HR.out a (a + n) p1 (by omega))
        have hpe : Hid (Exts.punchR l a n = Exts.changeR l a (a + n) []) := Lib.hid (by unfold Exts.punchR; rw [if_neg hz])
        have hch : Hid (∀ wy, Below w.heap.size w wy → Calls Try.prog 43 #[v, .int .i64 a, .int .i64 (a + n), .slice none 0 0] wy fun e w' => Ans wy w' (Exts.punchR l a n) (Runs.minusR (Exts.blocksR l) (Exts.blocksR (Exts.punchR l a n))) 0 e) := Lib.hid (by
          intro wy hb
          rw [hpe.out]
          exact echange_any v (.slice none 0 0) l [] a (a + n) wy HR.out (fun y hy => by cases hy) (H.out.below (B := 0) hb) (.inl ⟨rfl, rfl⟩) (by omega) (by simp) p1 ha.2 (by omega) (by omega) hrow.out)
        have wn : IntKind.i64.wrap (a + n) = a + n := IntWalk.i64_in _ (by omega)
        clear h hok e0 hpe hrow
        go_enter Try.func28, Try.ntmps28
        go_wp2_with fail
        refine q.out.mono ?_
        rintro e w1 ⟨rfl, b1⟩
        have B1 := Lib.hid b1
        clear b1
        go_wp2_with fail
        refine (hch.out w1 B1.out).mono ?_
        rintro e w2 hA
        have F := Lib.hid (Ans.from B1.out hA)
        obtain ⟨v2, f2, _, rfl, _⟩ := hA
        go_wp2_with fail
        exact bodyPost_ret (v := .tuple #[v2, f2, .int .i64 0]) (by simp [results, Try.results28, go_sem]) rfl F.out
    · have e0 : Exts.punches l a n = false := by unfold Exts.punches; rw [hok, decide_eq_false hp]; rfl
      rw [e0]
      clear h hok e0
      by_cases p1 : a < 0
      · go_enter Try.func28, Try.ntmps28
        go_wp2_with fail
        refine q.out.mono ?_
        rintro e w1 ⟨rfl, b1⟩
        have B1 := Lib.hid b1
        clear b1
        go_wp2_with fail
        exact bodyPost_ret (v := .tuple #[.slice none 0 0, .slice none 0 0, .int .i64 2]) (by simp [results, Try.results28, go_sem]) rfl (Ans.none 2 B1.out)
      by_cases p2 : n < 0
      · go_enter Try.func28, Try.ntmps28
        go_wp2_with fail
        refine q.out.mono ?_
        rintro e w1 ⟨rfl, b1⟩
        have B1 := Lib.hid b1
        clear b1
        go_wp2_with fail
        exact bodyPost_ret (v := .tuple #[.slice none 0 0, .slice none 0 0, .int .i64 2]) (by simp [results, Try.results28, go_sem]) rfl (Ans.none 2 B1.out)
      by_cases p3 : 2048 < a
      · go_enter Try.func28, Try.ntmps28
        go_wp2_with fail
        refine q.out.mono ?_
        rintro e w1 ⟨rfl, b1⟩
        have B1 := Lib.hid b1
        clear b1
        go_wp2_with fail
        exact bodyPost_ret (v := .tuple #[.slice none 0 0, .slice none 0 0, .int .i64 2]) (by simp [results, Try.results28, go_sem]) rfl (Ans.none 2 B1.out)
      · have p4 : 2048 - a < n := by omega
        have wd : IntKind.i64.wrap (2048 - a) = 2048 - a := IntWalk.i64_in _ (by omega)
        clear hp
        go_enter Try.func28, Try.ntmps28
        go_wp2_with fail
        refine q.out.mono ?_
        rintro e w1 ⟨rfl, b1⟩
        have B1 := Lib.hid b1
        clear b1
        go_wp2_with fail
        exact bodyPost_ret (v := .tuple #[.slice none 0 0, .slice none 0 0, .int .i64 2]) (by simp [results, Try.results28, go_sem]) rfl (Ans.none 2 B1.out)

set_option maxRecDepth 100000 in
set_option maxHeartbeats 4000000 in
theorem eCut_any (v : Value) (l : EL) (a : Int) (w : World) (hs : SmallsE l) (h : ExtsAt w v l) (hl : l.length ≤ 1000000) (ha : -9223372036854775808 ≤ a ∧ a ≤ 9223372036854775807) :
    Calls Try.prog 32 #[v, .int .i64 a] w fun e w' => Ans w w' (Exts.cutOut l a) (Exts.cutFr l a) (Exts.cutE l a) e := by
  have q := Lib.hid (echeck_any v l w hs h (by omega))
  have H := Lib.hid h
  unfold Exts.cutOut Exts.cutFr Exts.cutE
  cases hok : Exts.okTo l l.length
  · rw [hok] at q
    have e0 : Exts.cuts l a = false := by unfold Exts.cuts; rw [hok]; rfl
    rw [e0]
    clear h hok e0
    go_enter Try.func32, Try.ntmps32
    go_wp2_with fail
    refine q.out.mono ?_
    rintro e w1 ⟨rfl, b1⟩
    have B1 := Lib.hid b1
    clear b1
    go_wp2_with fail
    exact bodyPost_ret (v := .tuple #[.slice none 0 0, .slice none 0 0, .int .i64 2]) (by simp [results, Try.results32, go_sem]) rfl (Ans.none 2 B1.out)
  · rw [hok] at q
    have HR := Lib.hid (Exts.check_row.1 hok)
    by_cases hp : 0 ≤ a
    · have e0 : Exts.cuts l a = true := by unfold Exts.cuts; rw [hok, decide_eq_true hp]; rfl
      rw [e0]
      have hrow := Lib.hid (Exts.gone_row HR.out (min a 2048) 2048 (by omega) (by omega))
      have hch : Hid (∀ wy, Below w.heap.size w wy → Calls Try.prog 43 #[v, .int .i64 (min a 2048), .int .i64 2048, .slice none 0 0] wy fun e w' => Ans wy w' (Exts.cutR l a) (Runs.minusR (Exts.blocksR l) (Exts.blocksR (Exts.cutR l a))) 0 e) := Lib.hid (by
        intro wy hb
        exact echange_any v (.slice none 0 0) l [] (min a 2048) 2048 wy HR.out (fun y hy => by cases hy) (H.out.below (B := 0) hb) (.inl ⟨rfl, rfl⟩) (by omega) (by simp) (by omega) (by omega) (by omega) (by omega) hrow.out)
      clear h hok e0 hrow
      go_enter Try.func32, Try.ntmps32
      go_wp2_with fail
      refine q.out.mono ?_
      rintro e w1 ⟨rfl, b1⟩
      have B1 := Lib.hid b1
      clear b1
      go_wp2_with fail
      refine (hch.out w1 B1.out).mono ?_
      rintro e w2 hA
      have F := Lib.hid (Ans.from B1.out hA)
      obtain ⟨v2, f2, _, rfl, _⟩ := hA
      go_wp2_with fail
      exact bodyPost_ret (v := .tuple #[v2, f2, .int .i64 0]) (by simp [results, Try.results32, go_sem]) rfl F.out
    · have e0 : Exts.cuts l a = false := by unfold Exts.cuts; rw [hok, decide_eq_false hp]; rfl
      rw [e0]
      have hp' : a < 0 := by omega
      clear h hok e0
      go_enter Try.func32, Try.ntmps32
      go_wp2_with fail
      refine q.out.mono ?_
      rintro e w1 ⟨rfl, b1⟩
      have B1 := Lib.hid b1
      clear b1
      go_wp2_with fail
      exact bodyPost_ret (v := .tuple #[.slice none 0 0, .slice none 0 0, .int .i64 2]) (by simp [results, Try.results32, go_sem]) rfl (Ans.none 2 B1.out)

end Go.Proofs.Ytgpjldmndibalaa
