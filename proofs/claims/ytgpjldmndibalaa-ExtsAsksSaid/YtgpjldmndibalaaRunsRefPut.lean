/- The document's put. -/
import Derived.Test.YtgpjldmndibalaaRunsSets
import Derived.Deep.AppendLies
namespace Go.Proofs.Ytgpjldmndibalaa
open Go Go.RowKit

def Apart (v1 v2 : Value) : Prop := ∀ g, v1.ownBlock = some g → v2.ownBlock ≠ some g
theorem Apart.symm {v1 v2 : Value} (h : Apart v1 v2) : Apart v2 v1 := fun g h1 h2 => h g h2 h1
/-- What put has in hand: x in its box, the two lists that grow. -/
structure PutAt (X : Nat) (w0 wr : World) (va vb : Value) (s : Runs.Put) : Prop where
  box : Row wr X 32 [.int .i64 s.x.1, .int .i64 s.x.2]
  ra : OwnRuns (X + 1) wr va s.ahead
  rb : OwnRuns (X + 1) wr vb s.behind
  ne : Apart va vb
  bel : Below X w0 wr

theorem own_lt2 {B : Nat} {w : World} {v : Value} {l : RL} (h : OwnRuns B w v l) (k : Nat) (hk : v.ownBlock = some k) : B ≤ k ∧ k < w.heap.size := World.ownsRow.lt h k hk
theorem apart_grown {B : Nat} {W : World} {va vb : Value} {L : RL} {g n cap : Nat} (hb : OwnRuns B W vb L) (ha : Apart va vb) (hat : va.ownBlock = some g ∨ g = W.heap.size) : Apart (.slice (some ⟨g, 0, none⟩) n cap) vb := by
  intro k hk hk2
  obtain rfl : g = k := by simpa [Value.ownBlock] using hk
  rcases hat with h | h
  · exact ha g h hk2
  · have := (own_lt2 hb g hk2).2
    omega
theorem own_other {B : Nat} {W w5 : World} {va vb : Value} {L : RL} (hb : OwnRuns B W vb L) (ha : Apart va vb) (hg : W.grownBy w5 va.ownBlock) : OwnRuns B w5 vb L := by
  refine World.ownsRow.kept hb hg ?_
  cases h : vb.ownBlock with
  | none => exact .inl rfl
  | some k => exact .inr (fun e => ha k e.symm h)

section
variable {X : Nat} {w0 wr w' : World} {va vb : Value} {s : Runs.Put}

theorem PutAt.below (h : PutAt X w0 wr va vb s) (hb : Below wr.heap.size wr w') : PutAt X w0 w' va vb s :=
  ⟨h.box.below hb h.box.lt, own_belowR h.ra hb, own_belowR h.rb hb, h.ne, h.bel.trans (hb.mono (Nat.le_of_lt h.box.lt))⟩
theorem PutAt.more_a (h : PutAt X w0 wr va vb s) {g cap : Nat} {y : Int × Int} (hg : wr.grownBy w' va.ownBlock) (hat : va.ownBlock = some g ∨ g = wr.heap.size)
    (hown : w'.ownsRow (X + 1) 32 2 (.slice (some ⟨g, 0, none⟩) (s.ahead.length + 1) cap) (s.ahead.length + 1) (rcells s.ahead ++ [.int .i64 y.1, .int .i64 y.2])) :
    PutAt X w0 w' (.slice (some ⟨g, 0, none⟩) (s.ahead.length + 1) cap) vb { s with ahead := s.ahead ++ [y] } :=
  ⟨h.box.grown hg (fun e => by have := (own_lt2 h.ra X e.symm).1; omega), own_more rfl hown, own_other h.rb h.ne hg, apart_grown h.rb h.ne hat,
    h.bel.grown hg (Nat.le_of_lt h.box.lt) (fun k hk => by have := (own_lt2 h.ra k hk).1; omega)⟩
theorem PutAt.more_b (h : PutAt X w0 wr va vb s) {g cap : Nat} {y : Int × Int} (hg : wr.grownBy w' vb.ownBlock) (hat : vb.ownBlock = some g ∨ g = wr.heap.size)
    (hown : w'.ownsRow (X + 1) 32 2 (.slice (some ⟨g, 0, none⟩) (s.behind.length + 1) cap) (s.behind.length + 1) (rcells s.behind ++ [.int .i64 y.1, .int .i64 y.2])) :
    PutAt X w0 w' va (.slice (some ⟨g, 0, none⟩) (s.behind.length + 1) cap) { s with behind := s.behind ++ [y] } :=
  ⟨h.box.grown hg (fun e => by have := (own_lt2 h.rb X e.symm).1; omega), own_other h.ra h.ne.symm hg, own_more rfl hown, (apart_grown h.ra h.ne.symm hat).symm,
    h.bel.grown hg (Nat.le_of_lt h.box.lt) (fun k hk => by have := (own_lt2 h.rb k hk).1; omega)⟩
theorem own_setX {B : Nat} {w : World} {v : Value} {l : RL} (h : OwnRuns B w v l) {X k : Nat} (hX : X < B) (u : Value) : OwnRuns B (w.setCell ⟨X, k, none⟩ u) v l := by
  refine ⟨h.1, ?_⟩
  rcases h.2 with h0 | ⟨g, cap, cur, e0, hb, hg, h1, h2, h3, h4⟩
  · exact .inl h0
  · exact .inr ⟨g, cap, cur, e0, hb, by rw [Below.heap_setCell _ _ _ _ (show g ≠ (⟨X, k, none⟩ : Addr).block by dsimp only; omega)]; exact hg, h1, h2, h3, h4⟩
theorem PutAt.setx (h : PutAt X w0 wr va vb s) (a b : Int) : PutAt X w0 ((wr.setCell ⟨X, 0, none⟩ (.int .i64 a)).setCell ⟨X, 1, none⟩ (.int .i64 b)) va vb { s with x := (a, b) } :=
  ⟨(h.box.set 0 _).set 1 _, own_setX (own_setX h.ra (Nat.lt_succ_self _) _) (Nat.lt_succ_self _) _, own_setX (own_setX h.rb (Nat.lt_succ_self _) _) (Nat.lt_succ_self _) _, h.ne,
    (h.bel.setCell (Nat.le_refl _) _).setCell (Nat.le_refl _) _⟩
end

def foldP (l : RL) (x : Int × Int) (j : Nat) : Runs.Put := (l.take j).foldl Runs.pstep ⟨[], x, []⟩
theorem foldP_zero (l : RL) (x : Int × Int) : foldP l x 0 = ⟨[], x, []⟩ := by simp [foldP]
theorem foldP_next (l : RL) (x : Int × Int) (j : Nat) (hj : j < l.length) : foldP l x (j + 1) = Runs.pstep (foldP l x j) (l.getD j (0, 0)) := by
  unfold foldP
  rw [List.take_succ_eq_append_getElem hj, List.foldl_append]
  simp [List.getD, hj]
theorem foldP_all (l : RL) (x : Int × Int) : (foldP l x l.length).ahead ++ (foldP l x l.length).x :: (foldP l x l.length).behind = Runs.putR l x := by
  unfold foldP
  rw [List.take_length]
  rfl
theorem foldP_may (l : RL) (x : Int × Int) (hl : Runs.Row l) (hx : Runs.may x) (j : Nat) : Runs.may (foldP l x j).x := by
  have hr : Runs.Row (l.take j ++ l.drop j) := by rwa [List.take_append_drop]
  exact (Runs.pfold (l.take j) ⟨[], x, []⟩ ⟨trivial, trivial, hx, fun a ha => (by cases ha), fun a ha => (by cases ha), fun a ha => (by cases ha), fun a ha => (by cases ha)⟩ (Runs.row_append_iff.1 hr).1).1.mx
theorem foldP_len (l : RL) (x : Int × Int) (j : Nat) : (foldP l x j).ahead.length + (foldP l x j).behind.length ≤ j := by
  have h := put_len (l.take j) ⟨[], x, []⟩
  unfold foldP
  simp only [List.length_nil, List.length_take] at h
  omega

set_option maxRecDepth 100000 in
set_option maxHeartbeats 8000000 in
theorem put_any (v : Value) (l : RL) (x : Int × Int) (w : World) (hl : Runs.Row l) (hx : Runs.may x) (h : RunsAt w v l) (hn : l.length ≤ 1000000000) :
    Calls Try.prog 57 #[v, .agg #[.int .i64 x.1, .int .i64 x.2]] w fun e w' => ∃ v', e = .returned v' ∧ OwnRuns w.heap.size w' v' (Runs.putR l x) ∧ Below w.heap.size w w' := by
  obtain ⟨i0', hi0, hz0, hz1, hz2⟩ := info_parts info_run
  obtain ⟨ad, cap, rfl⟩ : ∃ ad cap, v = .slice ad l.length cap := by
    rcases h with ⟨rfl, rfl⟩ | ⟨b, off, cap, rfl, _⟩
    · exact ⟨_, _, rfl⟩
    · exact ⟨_, _, rfl⟩
  have bA : Below w.heap.size w (w.alloc (.cells #[.int .i64 x.1, .int .i64 x.2] 32)) := (Below.refl _ _).alloc (Nat.le_refl _) _
  have H := Lib.hid h
  have hm := Lib.hid (foldP_may l x hl hx)
  have hlm := Lib.hid (fun i (hi : i < l.length) => (by
    have : l.getD i (0, 0) = l[i] := by simp [List.getD, hi]
    rw [this]
    exact hl.may _ (List.getElem_mem hi) : Runs.may (l.getD i (0, 0))))
  have P0 := Lib.hid (⟨Row.new w 32 [.int .i64 x.1, .int .i64 x.2] rfl, World.ownsRow_nil _ _ _ _, World.ownsRow_nil _ _ _ _, (fun g hg => by cases hg), bA⟩ : PutAt w.heap.size w (w.alloc (.cells #[.int .i64 x.1, .int .i64 x.2] 32)) (.slice none 0 0) (.slice none 0 0) (foldP l x 0))
  have hall := Lib.hid (foldP_all l x)
  have hfl := Lib.hid (foldP_len l x)
  have hfn := Lib.hid (foldP_next l x)
  clear h hl hx bA
  generalize foldP l x = F at *
  generalize Runs.putR l x = PR at *
  obtain ⟨xa, xb⟩ := x
  go_enter Try.func57, Try.ntmps57
  go_wp2_with fail
  generalize hX : w.heap.size = X at *
  go_loopw [5, 6, 7] (fun p q r wr => ∃ (va vb : Value) (j : Nat), va = p ∧ vb = q ∧ r = .int .i64 j ∧ j ≤ l.length ∧ Hid (PutAt X w wr va vb (F j))) (fun _ _ r _ => l.length - (intOf r).toNat)
  case atStart => exact ⟨_, _, 0, rfl, rfl, rfl, by omega, P0⟩
  case round =>
    obtain ⟨va, vb, j, rfl, rfl, rfl, hj, hp⟩ := hrel
    have hmx := hm.out j
    have hfl' := hfl.out j
    by_cases hlt : j < l.length
    · have i0 : (0 : Int) ≤ (j : Int) := by omega
      have i1 : (j : Int) < (l.length : Int) := by omega
      have hsz := hp.out.bel.size
      obtain ⟨hll, g, off, rfl, c0, c1⟩ := (H.out.below (B := 0) (hX ▸ hp.out.bel)).cells j hlt
      clear hll
      have hmy := hlm.out j hlt
      have hnx := Lib.hid (hfn.out j hlt)
      generalize l.getD j (0, 0) = y at *
      generalize F j = s at *
      obtain ⟨ya, yb⟩ := y
      obtain ⟨sa, ⟨sx, sy⟩, sb⟩ := s
      unfold Runs.pstep at hnx
      unfold Runs.may Runs.top at hmx hmy
      unfold Runs.fin at hnx
      dsimp only at *
      have hp1 := Lib.hid (hp.out.below (w' := wr.alloc (.cells #[.int .i64 ya, .int .i64 yb] 32)) ((Below.refl _ _).alloc (Nat.le_refl _) _))
      have x0 := hp1.out.box.cellAt 0 rfl
      have x1 := hp1.out.box.cellAt 1 rfl
      have y0 : (wr.alloc (.cells #[.int .i64 ya, .int .i64 yb] 32)).cell? ⟨wr.heap.size, 0, none⟩ = some (.int .i64 ya) := box_cell _ _ _ _
      have y1 : (wr.alloc (.cells #[.int .i64 ya, .int .i64 yb] 32)).cell? ⟨wr.heap.size, 1, none⟩ = some (.int .i64 yb) := box_cell _ _ _ _
      have wy : IntKind.i64.wrap (ya + yb) = ya + yb := IntWalk.i64_in _ (by omega)
      have wx : IntKind.i64.wrap (sx + sy) = sx + sy := IntWalk.i64_in _ (by omega)
      have hszX : X + 1 ≤ wr.heap.size := hp.out.box.lt
      by_cases k1 : ya + yb < sx
      · rw [if_pos k1] at hnx
        have G : ((wr.alloc (.cells #[.int .i64 ya, .int .i64 yb] 32)).alloc (.cells #[.int .i64 ya, .int .i64 yb] 32)).ownsRow (X + 1) 32 2 va sa.length (rcells sa) := own_belowR hp1.out.ra ((Below.refl _ _).alloc (Nat.le_refl _) _)
        have NN : ∀ jj uu, [Value.int .i64 ya, .int .i64 yb][jj]? = some uu → ((wr.alloc (.cells #[.int .i64 ya, .int .i64 yb] 32)).alloc (.cells #[.int .i64 ya, .int .i64 yb] 32)).cell? ((⟨wr.heap.size + 1, 0, none⟩ : Addr).add jj) = some uu := fun jj uu hjj => by
          have hadd : (⟨wr.heap.size + 1, 0, none⟩ : Addr).add jj = ⟨wr.heap.size + 1, jj, none⟩ := by unfold Addr.add; split <;> simp_all
          rw [hadd, World.cell?_alloc_at _ _ _ _ (by simp)]
          simpa using hjj
        have hone := rcells_one [(ya, yb)]
        go_wp2_with (first
          | (at_builtin; refine wpList_append_lies _ rfl _ _ 26 rfl (X + 1) 32 i0' (.agg #[.int .i64 0, .int .i64 0]) 2 16 Try.underlying26 hi0 hz0 hz1 hz2 rfl (by decide) va sa.length _ rfl G ⟨wr.heap.size + 1, 0, none⟩ 1 1 [.int .i64 ya, .int .i64 yb] rfl rfl NN hone (by decide) (by unfold maxLen; omega) (by omega) (by simp; omega) _ rfl ?_))
        intro g1 q1 w5 hown hgrow hat hlt5
        have P5 := Lib.hid ((hp1.out.below ((Below.refl _ _).alloc (Nat.le_refl _) (.cells #[.int .i64 ya, .int .i64 yb] 32))).more_a (y := (ya, yb)) hgrow (by simpa only [World.size_alloc] using hat) hown)
        rw [← hnx.out] at P5
        clear hown hgrow hat G NN hp hp1 x0 x1 y0 y1
        go_wp2_with fail
        go_roundw
        case rel => exact ⟨_, vb, j + 1, rfl, rfl, by go_num, by omega, P5⟩
        case measure => simp [intOf]; omega
      · rw [if_neg k1] at hnx
        by_cases k2 : sx + sy < ya
        · rw [if_pos k2] at hnx
          have G : ((wr.alloc (.cells #[.int .i64 ya, .int .i64 yb] 32)).alloc (.cells #[.int .i64 ya, .int .i64 yb] 32)).ownsRow (X + 1) 32 2 vb sb.length (rcells sb) := own_belowR hp1.out.rb ((Below.refl _ _).alloc (Nat.le_refl _) _)
          have NN : ∀ jj uu, [Value.int .i64 ya, .int .i64 yb][jj]? = some uu → ((wr.alloc (.cells #[.int .i64 ya, .int .i64 yb] 32)).alloc (.cells #[.int .i64 ya, .int .i64 yb] 32)).cell? ((⟨wr.heap.size + 1, 0, none⟩ : Addr).add jj) = some uu := fun jj uu hjj => by
            have hadd : (⟨wr.heap.size + 1, 0, none⟩ : Addr).add jj = ⟨wr.heap.size + 1, jj, none⟩ := by unfold Addr.add; split <;> simp_all
            rw [hadd, World.cell?_alloc_at _ _ _ _ (by simp)]
            simpa using hjj
          have hone := rcells_one [(ya, yb)]
          go_wp2_with (first
            | (at_builtin; refine wpList_append_lies _ rfl _ _ 26 rfl (X + 1) 32 i0' (.agg #[.int .i64 0, .int .i64 0]) 2 16 Try.underlying26 hi0 hz0 hz1 hz2 rfl (by decide) vb sb.length _ rfl G ⟨wr.heap.size + 1, 0, none⟩ 1 1 [.int .i64 ya, .int .i64 yb] rfl rfl NN hone (by decide) (by unfold maxLen; omega) (by omega) (by simp; omega) _ rfl ?_))
          intro g1 q1 w5 hown hgrow hat hlt5
          have P5 := Lib.hid ((hp1.out.below ((Below.refl _ _).alloc (Nat.le_refl _) (.cells #[.int .i64 ya, .int .i64 yb] 32))).more_b (y := (ya, yb)) hgrow (by simpa only [World.size_alloc] using hat) hown)
          rw [← hnx.out] at P5
          clear hown hgrow hat G NN hp hp1 x0 x1 y0 y1
          go_wp2_with fail
          go_roundw
          case rel => exact ⟨va, _, j + 1, rfl, rfl, by go_num, by omega, P5⟩
          case measure => simp [intOf]; omega
        · rw [if_neg k2] at hnx
          obtain ⟨mn, hmn⟩ : ∃ m, min sx ya = m := ⟨_, rfl⟩
          obtain ⟨mx, hmx2⟩ : ∃ m, max (sx + sy) (ya + yb) = m := ⟨_, rfl⟩
          have hmn' : (if ya < sx then ya else sx) = mn := by rw [← hmn]; split <;> omega
          have hmx' : (if sx + sy < ya + yb then ya + yb else sx + sy) = mx := by rw [← hmx2]; split <;> omega
          rw [hmn, hmx2] at hnx
          have hw : IntKind.i64.wrap (mx - mn) = mx - mn := IntWalk.i64_in _ (by omega)
          have f0 := hp1.out.box.free 0 (by simp)
          have f1 := hp1.out.box.free 1 (by simp)
          have P5 := Lib.hid (hp1.out.setx mn (mx - mn))
          dsimp only at P5
          rw [← hnx.out] at P5
          clear hp hp1 hnx hfl'
          go_wp2_with fail
          go_roundw
          case rel => exact ⟨va, vb, j + 1, rfl, rfl, by go_num, by omega, P5⟩
          case measure => simp [intOf]; omega
    · obtain rfl : j = l.length := by omega
      have hal := Lib.hid hall.out
      generalize F l.length = s at *
      obtain ⟨sa, ⟨sx, sy⟩, sb⟩ := s
      dsimp only at *
      have hszX : X + 1 ≤ wr.heap.size := hp.out.box.lt
      have x0 := hp.out.box.cellAt 0 rfl
      have x1 := hp.out.box.cellAt 1 rfl
      dsimp only at x0 x1
      have G : (wr.alloc (.cells #[.int .i64 sx, .int .i64 sy] 32)).ownsRow (X + 1) 32 2 va sa.length (rcells sa) := own_belowR hp.out.ra ((Below.refl _ _).alloc (Nat.le_refl _) _)
      have NN : ∀ jj uu, [Value.int .i64 sx, .int .i64 sy][jj]? = some uu → (wr.alloc (.cells #[.int .i64 sx, .int .i64 sy] 32)).cell? ((⟨wr.heap.size, 0, none⟩ : Addr).add jj) = some uu := fun jj uu hjj => by
        have hadd : (⟨wr.heap.size, 0, none⟩ : Addr).add jj = ⟨wr.heap.size, jj, none⟩ := by unfold Addr.add; split <;> simp_all
        rw [hadd, World.cell?_alloc_at _ _ _ _ (by simp)]
        simpa using hjj
      have hone := rcells_one [(sx, sy)]
      go_wp2_with (first
        | (at_builtin; refine wpList_append_lies _ rfl _ _ 26 rfl (X + 1) 32 i0' (.agg #[.int .i64 0, .int .i64 0]) 2 16 Try.underlying26 hi0 hz0 hz1 hz2 rfl (by decide) va sa.length _ rfl G ⟨wr.heap.size, 0, none⟩ 1 1 [.int .i64 sx, .int .i64 sy] rfl rfl NN hone (by decide) (by unfold maxLen; omega) (by omega) (by simp; omega) _ rfl ?_))
      intro g1 q1 w5 hown hgrow hat hlt5
      have bA : Below wr.heap.size wr (wr.alloc (.cells #[.int .i64 sx, .int .i64 sy] 32)) := (Below.refl _ _).alloc (Nat.le_refl _) _
      have rb5 : OwnRuns (X + 1) w5 vb sb := own_other (own_belowR hp.out.rb bA) hp.out.ne hgrow
      have B5 : Hid (Below X w w5) := Lib.hid ((hp.out.below bA).bel.grown hgrow (by simp; omega) (fun k hk => by have := (own_lt2 hp.out.ra k hk).1; omega))
      have hq : sa.length + 1 ≤ q1 := by
        rcases hown.2 with ⟨e, _⟩ | ⟨_, _, _, e, _, _, h1, _⟩
        · cases e
        · cases e; exact h1
      have O5 : Hid (w5.ownsRow (X + 1) 32 2 (.slice (some ⟨g1, 0, none⟩) (sa.length + 1) q1) (sa.length + 1) (rcells (sa ++ [(sx, sy)]))) := Lib.hid (by rw [rcells_append]; exact hown)
      have z5 := hgrow.size
      have hX5 : X + 1 ≤ w5.heap.size := by rw [World.size_alloc] at z5; omega
      clear hown hgrow hat G NN x0 x1 bA
      rcases rb5.form with ⟨rfl, rfl⟩ | ⟨gb, cb, rfl, hcb⟩
      · have O9 : Hid (OwnRuns w.heap.size w5 (.slice (some ⟨g1, 0, none⟩) (sa.length + 1) q1) PR) := Lib.hid (by
          rw [← hal.out, hX]
          have := World.ownsRow.mono O5.out (Nat.le_succ X)
          unfold OwnRuns
          rw [show (sa ++ (sx, sy) :: []).length = sa.length + 1 by simp]
          exact this)
        clear rb5
        go_wp2_with fail
        go_ret
        exact ⟨_, rfl, O9.out, by rw [hX]; exact B5.out⟩
      · have hne : ∀ j u, (rcells sb)[j]? = some u → w5.cell? ((⟨gb, 0, none⟩ : Addr).add j) = some u := fun j u hu => by
          have e1 : (⟨gb, 0, none⟩ : Addr).add j = ⟨gb, j, none⟩ := by unfold Addr.add; split <;> simp_all
          rw [e1]
          exact own_cellAt2 rb5 hu
        have hone2 := rcells_one sb
        have hrl := rcells_length sb
        go_wp2_with (first
          | (at_builtin; refine wpList_append_own _ rfl _ _ 26 rfl (X + 1) 32 i0' (.agg #[.int .i64 0, .int .i64 0]) 2 16 Try.underlying26 hi0 hz0 hz1 hz2 rfl (by decide) _ (sa.length + 1) _ rfl O5.out ⟨gb, 0, none⟩ sb.length _ (rcells sb) rfl hrl hne hone2 (by unfold maxLen; omega) (by omega) hX5 ?_))
        intro v6 w6 hown hgrow _
        have B6 : Hid (Below X w w6) := Lib.hid (B5.out.grown hgrow (by omega) (fun k hk => by have := (World.ownsRow.lt O5.out k hk).1; omega))
        have O9 : Hid (OwnRuns w.heap.size w6 v6 PR) := Lib.hid (by
          rw [← hal.out, hX]
          have := World.ownsRow.mono hown (Nat.le_succ X)
          rw [← rcells_append] at this
          unfold OwnRuns
          rw [show sa ++ (sx, sy) :: sb = sa ++ [(sx, sy)] ++ sb by simp, show (sa ++ [(sx, sy)] ++ sb).length = sa.length + 1 + sb.length by simp; omega]
          exact this)
        clear hown hgrow rb5 hne
        go_wp2_with fail
        go_ret
        exact ⟨_, rfl, O9.out, by rw [hX]; exact B6.out⟩

end Go.Proofs.Ytgpjldmndibalaa
