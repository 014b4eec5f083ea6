/- Lists of runs: Meet. -/
import Derived.Test.YtgpjldmndibalaaRunsGaps
import Derived.Test.YtgpjldmndibalaaRunsNormLen
namespace Go.Proofs.Ytgpjldmndibalaa
open Go Go.RowKit

def lenOf : Value → Nat
  | .slice _ n _ => n
  | _ => 0
theorem RunsAt.len {w : World} {v : Value} {l : RL} (h : RunsAt w v l) : lenOf v = l.length := by
  rcases h with ⟨rfl, rfl⟩ | ⟨b, off, cap, rfl, _⟩ <;> rfl
def capOf : Value → Nat
  | .slice _ _ c => c
  | _ => 0
theorem OwnRuns.cap {B : Nat} {w : World} {v : Value} {l : RL} (h : OwnRuns B w v l) : lenOf v ≤ capOf v := by
  rcases h.2 with ⟨rfl, _⟩ | ⟨g, cap, cur, rfl, _, _, h1, _⟩
  · exact Nat.zero_le _
  · exact h1
theorem OwnRuns.form {B : Nat} {w : World} {v : Value} {l : RL} (h : OwnRuns B w v l) : (v = .slice none 0 0 ∧ l = []) ∨ ∃ g co, v = .slice (some ⟨g, 0, none⟩) l.length co ∧ l.length ≤ co := by
  rcases h.2 with ⟨rfl, h0⟩ | ⟨g, cap, cur, rfl, _, _, h1, _⟩
  · exact .inl ⟨rfl, List.eq_nil_of_length_eq_zero h0⟩
  · exact .inr ⟨g, cap, rfl, h1⟩
theorem OwnRuns.slice {B : Nat} {w : World} {v : Value} {l : RL} (h : OwnRuns B w v l) : ∃ ad n c, v = .slice ad n c := by
  rcases h.form with ⟨rfl, _⟩ | ⟨g, co, rfl, _⟩
  · exact ⟨_, _, _, rfl⟩
  · exact ⟨_, _, _, rfl⟩
def smallB (l : RL) : Bool := l.all fun x => decide (-9223372036854775808 ≤ x.1) && decide (x.1 ≤ 9223372036854775807) && decide (-9223372036854775808 ≤ x.2) && decide (x.2 ≤ 9223372036854775807)
theorem smallB_ok (l : RL) (h : smallB l = true) : Smalls l := by
  intro x hx
  have := List.all_eq_true.1 h x hx
  simp only [Bool.and_eq_true, decide_eq_true_eq] at this
  exact ⟨⟨this.1.1.1, this.1.1.2⟩, this.1.2, this.2⟩
theorem runsAt_lit (w : World) (l : RL) (vs : Array Value) (h : vs.toList = rcells l) (c : Nat) : RunsAt (w.alloc (.cells vs 32)) (.slice (some ⟨w.heap.size, 0, none⟩) l.length c) l :=
  .inr ⟨_, 0, c, rfl, fun j u hj => by
    rw [Nat.zero_add, box_cell, ← Array.getElem?_toList, h]
    exact hj⟩

theorem same_b (w : World) (v1 v2 : Value) (l1 l2 : RL) (h1 : RunsAt w v1 l1) (h2 : RunsAt w v2 l2) (hn1 : l1.length ≤ 9223372036854775807) (hn2 : l2.length ≤ 9223372036854775807) (r : Bool) (hr : (l1 == l2) = r) :
    Calls Try.prog 18 #[v1, v2] w fun e w' => e = .returned (.bool r) ∧ Below w.heap.size w w' := by
  refine (same_any w v1 v2 l1 l2 h1 h2 hn1 hn2).mono ?_
  rintro e w' ⟨rfl, k, rfl⟩
  exact ⟨by rw [hr], below_dr (Below.refl _ _)⟩

theorem RunsAt.head {w : World} {v : Value} {x : Int × Int} {A : RL} (h : RunsAt w v (x :: A)) (hc : lenOf v ≤ capOf v) : ∃ g o c, v = .slice (some ⟨g, o, none⟩) (A.length + 1) (c + 1) ∧ A.length ≤ c ∧
    w.cell? ⟨g, o, none⟩ = some (.int .i64 x.1) ∧ w.cell? ⟨g, o + 1, none⟩ = some (.int .i64 x.2) ∧ g < w.heap.size ∧ RunsAt w (.slice (if c = 0 then some ⟨g, o, none⟩ else some ⟨g, o + 2, none⟩) A.length c) A := by
  rcases h with ⟨_, e⟩ | ⟨b, o, c, rfl, h⟩
  · cases e
  · simp only [lenOf, capOf, List.length_cons] at hc
    obtain ⟨c, rfl⟩ : ∃ d, c = d + 1 := ⟨c - 1, by omega⟩
    have h0 := h 0 _ rfl
    refine ⟨b, o, c, rfl, by omega, h0, h 1 _ rfl, World.block_lt_of_cell? w _ h0, ?_⟩
    split
    · obtain rfl : A = [] := List.eq_nil_of_length_eq_zero (by omega)
      exact .inr ⟨b, o, c, rfl, fun j u hj => by simp [rcells] at hj⟩
    refine .inr ⟨b, o + 2, c, rfl, fun j u hj => ?_⟩
    have := h (j + 2) u (by simpa [rcells] using hj)
    rwa [show o + (j + 2) = o + 2 + j by omega] at this

set_option maxRecDepth 100000 in
set_option maxHeartbeats 4000000 in
theorem meet_any (va vb : Value) (a b : RL) (w : World) (ha : Smalls a) (hb : Smalls b) (h1 : RunsAt w va a) (h2 : RunsAt w vb b) (hla : a.length ≤ 1000000000) (hlb : b.length ≤ 1000000000) :
    Calls Try.prog 35 #[va, vb] w fun e w' => ∃ v', e = .returned v' ∧ OwnRuns w.heap.size w' v' (Runs.meetR a b) ∧ Below w.heap.size w w' := by
  have hA := Lib.hid (normal_any va a w ha h1 hla)
  have hB := Lib.hid (fun w' (hw : Below w.heap.size w w') => normal_any vb b w' hb (h2.below (B := 0) hw) hlb)
  clear h1 h2
  obtain ⟨i0', hi0, hz0, hz1, hz2⟩ := info_parts info_run
  go_enter Try.func35, Try.ntmps35
  go_wp2_with fail
  refine hA.out.mono ?_
  rintro e w1 ⟨v1, rfl, o1, b1⟩
  have O1 := Lib.hid o1
  have B1 := Lib.hid b1
  clear o1 b1 hA
  go_wp2_with fail
  refine (hB.out w1 B1.out).mono ?_
  rintro e w2 ⟨v2, rfl, o2, b2⟩
  have O2 := Lib.hid o2
  have O1' := Lib.hid (own_belowR O1.out b2)
  have B2 := Lib.hid (B1.out.trans (b2.mono B1.out.size))
  clear o2 b2 hB O1
  have la := Lib.hid (norm_len a)
  have lb := Lib.hid (norm_len b)
  have ra := Lib.hid (Runs.normR_spec a).1
  have rb := Lib.hid (Runs.normR_spec b).1
  have hme := Lib.hid (Runs.meet_eq a b)
  generalize Runs.normR a = NA at *
  generalize Runs.normR b = NB at *
  go_wp2_with fail
  go_loopw [0, 1, 5] (fun p q r wr => ∃ (pa pb u : Value) (A B R : RL), pa = p ∧ pb = q ∧ u = r ∧ A.length ≤ 1000000000 ∧ B.length ≤ 1000000000 ∧ R.length + A.length + B.length ≤ 2000000000 ∧ Runs.Row A ∧ Runs.Row B ∧ Hid (R ++ Runs.meetN A B = Runs.meetN NA NB) ∧ Hid (RunsAt w2 pa A) ∧ Hid (RunsAt w2 pb B) ∧ lenOf pa ≤ capOf pa ∧ lenOf pb ≤ capOf pb ∧ Hid (OwnRuns w2.heap.size wr u R) ∧ Hid (Below w2.heap.size w2 wr) ∧ w2.heap.size ≤ wr.heap.size) (fun p q _ _ => lenOf p + lenOf q)
  case atStart => exact ⟨_, _, _, NA, NB, [], rfl, rfl, rfl, by have := la.out; omega, by have := lb.out; omega, by have := la.out; have := lb.out; simp; omega, ra.out, rb.out, Lib.hid rfl, Lib.hid (OwnRuns.at O1'.out), Lib.hid O2.out.at, OwnRuns.cap O1'.out, O2.out.cap, Lib.hid (World.ownsRow_nil _ _ _ _), Lib.hid (Below.refl _ _), Nat.le_refl _⟩
  case round =>
    obtain ⟨pa, pb, u, A, B, R, rfl, rfl, rfl, hA1, hB1, hRl, RA, RB, he, ha, hb, ca, cb, ho, hbl, hsz⟩ := hrel
    have hbw := Lib.hid (B2.out.trans (hbl.out.mono B2.out.size))
    rcases A with _ | ⟨x, A⟩
    · obtain ⟨ad, cap, rfl⟩ : ∃ ad cap, pa = .slice ad 0 cap := by
        rcases ha.out with ⟨rfl, _⟩ | ⟨b, off, cap, rfl, _⟩
        · exact ⟨_, _, rfl⟩
        · exact ⟨_, _, rfl⟩
      obtain ⟨bd, bn, bc, rfl⟩ : ∃ bd bn bc, pb = .slice bd bn bc := by
        rcases hb.out with ⟨rfl, _⟩ | ⟨b, off, cap, rfl, _⟩
        · exact ⟨_, _, _, rfl⟩
        · exact ⟨_, _, _, rfl⟩
      have O5 : Hid (OwnRuns w.heap.size wr u (Runs.meetR a b)) := Lib.hid (by
        rw [← hme.out, ← he.out, Runs.meetN_nil_left, List.append_nil]
        exact World.ownsRow.mono ho.out B2.out.size)
      go_wp2_with fail
      go_ret
      exact ⟨_, rfl, O5.out, hbw.out⟩
    · rcases B with _ | ⟨y, B⟩
      · obtain ⟨ad, an, cap, rfl⟩ : ∃ ad an cap, pa = .slice ad (an + 1) cap := by
          rcases ha.out with ⟨rfl, h⟩ | ⟨b, off, cap, rfl, _⟩
          · cases h
          · exact ⟨_, _, _, rfl⟩
        obtain ⟨bd, bc, rfl⟩ : ∃ bd bc, pb = .slice bd 0 bc := by
          rcases hb.out with ⟨rfl, _⟩ | ⟨b, off, cap, rfl, _⟩
          · exact ⟨_, _, rfl⟩
          · exact ⟨_, _, rfl⟩
        have O5 : Hid (OwnRuns w.heap.size wr u (Runs.meetR a b)) := Lib.hid (by
          rw [← hme.out, ← he.out, Runs.meetN_nil_right, List.append_nil]
          exact World.ownsRow.mono ho.out B2.out.size)
        go_wp2_with fail
        go_ret
        exact ⟨_, rfl, O5.out, hbw.out⟩
      · obtain ⟨g1, o1, c1, rfl, hc1, x0, x1, s1, ha'⟩ := ha.out.head ca
        obtain ⟨g2, o2, c2, rfl, hc2, y0, y1, s2, hb'⟩ := hb.out.head cb
        have HA := Lib.hid ha'
        have HB := Lib.hid hb'
        clear ha' hb' ca cb
        have X0 := (hbl.out.cell (p := ⟨g1, o1, none⟩) s1).trans x0
        have X1 := (hbl.out.cell (p := ⟨g1, o1 + 1, none⟩) s1).trans x1
        have Y0 := (hbl.out.cell (p := ⟨g2, o2, none⟩) s2).trans y0
        have Y1 := (hbl.out.cell (p := ⟨g2, o2 + 1, none⟩) s2).trans y1
        have z1 : g1 < wr.heap.size := Nat.lt_of_lt_of_le s1 hsz
        have z2 : g2 < wr.heap.size := Nat.lt_of_lt_of_le s2 hsz
        obtain ⟨xa, xb⟩ := x
        obtain ⟨ya, yb⟩ := y
        dsimp only at *
        have hfx := may_fin RA.1
        have hfy := may_fin RB.1
        have hex := Lib.hid (fun w => end_b (xa, xb) hfx w)
        have hey := Lib.hid (fun w => end_b (ya, yb) hfy w)
        obtain ⟨m, hm⟩ : ∃ m, max xa ya = m := ⟨_, rfl⟩
        obtain ⟨n, hn⟩ : ∃ n, min (Runs.fin (xa, xb)) (Runs.fin (ya, yb)) = n := ⟨_, rfl⟩
        have hm' : (if xa < ya then ya else xa) = m := by rw [← hm]; split <;> omega
        have hn' : (if Runs.fin (ya, yb) < Runs.fin (xa, xb) then Runs.fin (ya, yb) else Runs.fin (xa, xb)) = n := by rw [← hn]; split <;> omega
        have ka : (0 : Int) < (A.length : Int) + 1 := by omega
        have kb : (0 : Int) < (B.length : Int) + 1 := by omega
        go_upto_region 4 with fail
        go_cut [6, 7] from 20 to 37 (fun p q wx => p = .int .i64 m ∧ q = .int .i64 n ∧ Below wr.heap.size wr wx)
        case first =>
          go_region_held3 (fun w' => w'.cell? ⟨g1, o1, none⟩ = some (.int .i64 xa) ∧ w'.cell? ⟨g1, o1 + 1, none⟩ = some (.int .i64 xb) ∧ w'.cell? ⟨g2, o2, none⟩ = some (.int .i64 ya) ∧ w'.cell? ⟨g2, o2 + 1, none⟩ = some (.int .i64 yb))
            (first | exact ⟨X0, X1, Y0, Y1⟩ | exact ⟨(s4.cell (p := ⟨g1, o1, none⟩) z1).trans X0, (s4.cell (p := ⟨g1, o1 + 1, none⟩) z1).trans X1, (s4.cell (p := ⟨g2, o2, none⟩) z2).trans Y0, (s4.cell (p := ⟨g2, o2 + 1, none⟩) z2).trans Y1⟩ | exact ⟨(s5.cell (p := ⟨g1, o1, none⟩) z1).trans X0, (s5.cell (p := ⟨g1, o1 + 1, none⟩) z1).trans X1, (s5.cell (p := ⟨g2, o2, none⟩) z2).trans Y0, (s5.cell (p := ⟨g2, o2 + 1, none⟩) z2).trans Y1⟩)
            (first | (go_at_call 48; first | (refine (hex.out _).mono ?_; rintro e w4 ⟨rfl, b4⟩; have s4 : Below wr.heap.size wr w4 := ⟨b4.os, b4.tape, b4.output, b4.size, b4.block⟩) | (refine (hey.out _).mono ?_; rintro e w5 ⟨rfl, b5⟩; have s5 : Below wr.heap.size wr w5 := s4.trans ⟨b5.os, b5.tape, b5.output, b5.size, fun k hk => b5.block k (Nat.lt_of_lt_of_le hk s4.size)⟩)))
          all_goals (go_step; go_step; go_meet; exact ⟨rfl, rfl, s5⟩)
        obtain ⟨rfl, rfl, bc⟩ := hcut
        have hst := Lib.hid (Runs.meetN_cons (xa, xb) (ya, yb) A B)
        rw [hm, hn] at hst
        have hmn : -9223372036854775808 ≤ n - m ∧ n - m ≤ 9223372036854775807 := by
          have h1 := RA.1
          have h2 := RB.1
          unfold Runs.may Runs.top at h1 h2
          unfold Runs.fin at hn
          dsimp only at h1 h2 hn
          omega
        clear hm hn hm' hn'
        have hoc := Lib.hid (own_belowR ho.out bc)
        have hbc := Lib.hid (hbl.out.trans (bc.mono hsz))
        have hsc : w2.heap.size ≤ wc.heap.size := Nat.le_trans hsz bc.size
        clear X0 X1 Y0 Y1 z1 z2 bc ho hbl
        go_upto_if 40 with fail
        go_cut [5] from 40 to 48 (fun p wx => ∃ (u' : Value) (R' : RL), u' = p ∧ R'.length ≤ R.length + 1 ∧ Hid (R' = R ++ (if m < n then [(m, n - m)] else [])) ∧ Hid (OwnRuns w2.heap.size wx u' R') ∧ Hid (Below w2.heap.size w2 wx))
        case first =>
          by_cases k : m < n
          · have hmw : IntKind.i64.wrap (n - m) = n - m := IntWalk.i64_in _ hmn
            have G : (wc.alloc (.cells #[.int .i64 m, .int .i64 (n - m)] 32)).ownsRow w2.heap.size 32 2 u R.length (rcells R) := own_belowR hoc.out ((Below.refl _ _).alloc (Nat.le_refl _) _)
            have N : ∀ jj uu, [Value.int .i64 m, Value.int .i64 (n - m)][jj]? = some uu → (wc.alloc (.cells #[.int .i64 m, .int .i64 (n - m)] 32)).cell? ((⟨wc.heap.size, 0, none⟩ : Addr).add jj) = some uu := fun jj uu hjj => by
              have hadd : (⟨wc.heap.size, 0, none⟩ : Addr).add jj = ⟨wc.heap.size, jj, none⟩ := by unfold Addr.add; split <;> simp_all
              rw [hadd, World.cell?_alloc_at _ _ _ _ rfl]
              simpa using hjj
            have hone := rcells_one [(m, n - m)]
            simp only [List.length_cons] at hRl
            go_wp2_with (first
              | (at_builtin; refine wpList_append_own _ rfl _ _ 26 rfl w2.heap.size 32 i0' (.agg #[.int .i64 0, .int .i64 0]) 2 16 Try.underlying26 hi0 hz0 hz1 hz2 rfl (by decide) _ R.length _ rfl G ⟨wc.heap.size, 0, none⟩ 1 1 [.int .i64 m, .int .i64 (n - m)] rfl rfl N hone (by unfold maxLen; omega) (by omega) (by simp; omega) ?_))
            intro v' w5 hown hgrow _
            have B5 : Hid (Below w2.heap.size w2 w5) := Lib.hid ((hbc.out.alloc hsc (.cells #[.int .i64 m, .int .i64 (n - m)] 32)).grown hgrow (by simp; omega) (fun k hk => (hoc.out.lt k hk).1))
            have O5 : Hid (OwnRuns w2.heap.size w5 v' (R ++ [(m, n - m)])) := Lib.hid (own_more rfl hown)
            clear hown hgrow
            go_wp2_with fail
            go_meet
            case rel => exact ⟨v', _, rfl, by simp, Lib.hid (by rw [if_pos k]), O5, B5⟩
          · go_wp2_with fail
            go_meet
            case rel => exact ⟨u, R, rfl, by omega, Lib.hid (by rw [if_neg (by omega), List.append_nil]), hoc, hbc⟩
        obtain ⟨u', R', rfl, hR', hRe, ho', hb'⟩ := hcut
        clear hoc hbc hsc
        rename_i wc0
        have X0 := (hb'.out.cell (p := ⟨g1, o1, none⟩) s1).trans x0
        have X1 := (hb'.out.cell (p := ⟨g1, o1 + 1, none⟩) s1).trans x1
        have Y0 := (hb'.out.cell (p := ⟨g2, o2, none⟩) s2).trans y0
        have Y1 := (hb'.out.cell (p := ⟨g2, o2 + 1, none⟩) s2).trans y1
        have hsc := hb'.out.size
        have z1 : g1 < wc.heap.size := Nat.lt_of_lt_of_le s1 hsc
        have z2 : g2 < wc.heap.size := Nat.lt_of_lt_of_le s2 hsc
        clear x0 x1 y0 y1
        go_upto_region 7 with fail
        go_region_held3 (fun w' => w'.cell? ⟨g1, o1, none⟩ = some (.int .i64 xa) ∧ w'.cell? ⟨g1, o1 + 1, none⟩ = some (.int .i64 xb) ∧ w'.cell? ⟨g2, o2, none⟩ = some (.int .i64 ya) ∧ w'.cell? ⟨g2, o2 + 1, none⟩ = some (.int .i64 yb))
          (first | exact ⟨X0, X1, Y0, Y1⟩ | exact ⟨(s4.cell (p := ⟨g1, o1, none⟩) z1).trans X0, (s4.cell (p := ⟨g1, o1 + 1, none⟩) z1).trans X1, (s4.cell (p := ⟨g2, o2, none⟩) z2).trans Y0, (s4.cell (p := ⟨g2, o2 + 1, none⟩) z2).trans Y1⟩ | exact ⟨(s5.cell (p := ⟨g1, o1, none⟩) z1).trans X0, (s5.cell (p := ⟨g1, o1 + 1, none⟩) z1).trans X1, (s5.cell (p := ⟨g2, o2, none⟩) z2).trans Y0, (s5.cell (p := ⟨g2, o2 + 1, none⟩) z2).trans Y1⟩)
          (first | (go_at_call 48; first | (refine (hex.out _).mono ?_; rintro e w4 ⟨rfl, b4⟩; have s4 : Below wc.heap.size wc w4 := ⟨b4.os, b4.tape, b4.output, b4.size, b4.block⟩) | (refine (hey.out _).mono ?_; rintro e w5 ⟨rfl, b5⟩; have s5 : Below wc.heap.size wc w5 := s4.trans ⟨b5.os, b5.tape, b5.output, b5.size, fun k hk => b5.block k (Nat.lt_of_lt_of_le hk s4.size)⟩)))
        have O5 := Lib.hid (own_belowR ho'.out s5)
        have B5 := Lib.hid (hb'.out.trans (s5.mono hsc))
        have z5 := B5.out.size
        clear s4 s5 b4 b5 hb' ho' X0 X1 Y0 Y1
        simp only [List.length_cons] at hRl hA1 hB1
        by_cases hc : Runs.fin (xa, xb) < Runs.fin (ya, yb)
        · have he' : Hid (R' ++ Runs.meetN A ((ya, yb) :: B) = Runs.meetN NA NB) := Lib.hid (by
            rw [← he.out, hst.out, hRe.out, if_pos hc, List.append_assoc])
          go_wp2_with fail
          go_roundw
          case rel => exact ⟨_, _, u', A, _, R', rfl, rfl, rfl, by omega, by simp; omega, by simp; omega, RA.2.2, RB, he', HA, hb, hc1, by simp [lenOf, capOf]; omega, O5, B5, z5⟩
          case measure => simp [lenOf]
        · have he' : Hid (R' ++ Runs.meetN ((xa, xb) :: A) B = Runs.meetN NA NB) := Lib.hid (by
            rw [← he.out, hst.out, hRe.out, if_neg hc, List.append_assoc])
          go_wp2_with fail
          go_roundw
          case rel => exact ⟨_, _, u', _, B, R', rfl, rfl, rfl, by simp; omega, by omega, by simp; omega, RA, RB.2.2, he', ha, HB, by simp [lenOf, capOf]; omega, hc2, O5, B5, z5⟩
          case measure => simp [lenOf]

end Go.Proofs.Ytgpjldmndibalaa
