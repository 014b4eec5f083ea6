/- Bitmaps: the runs of zeros are handed on one by one. -/
import Derived.Test.YtnpgddndelidfaaBitsRef
import Derived.Test.YtnpgddndelidfaaRunsAt
import Derived.Deep.LoopGhost
namespace Go.Proofs.Ytnpgddndelidfaa
open Go Go.RowKit

/-- One run after the other is asked of, as long as that is wanted. -/
def ask {σ : Type} (step : σ → Nat × Nat → σ × Bool) : σ → List (Nat × Nat) → σ × Bool
  | st, [] => (st, true)
  | st, x :: r => if (step st x).2 then ask step (step st x).1 r else ((step st x).1, false)
theorem ask_append {σ : Type} (step : σ → Nat × Nat → σ × Bool) (a b : List (Nat × Nat)) : ∀ st, ask step st (a ++ b) = if (ask step st a).2 then ask step (ask step st a).1 b else ask step st a := by
  induction a with
  | nil => intro st; simp [ask]
  | cons x a ih =>
    intro st
    have e1 : ∀ r, ask step st (x :: r) = if (step st x).2 then ask step (step st x).1 r else ((step st x).1, false) := fun _ => rfl
    show ask step st (x :: (a ++ b)) = _
    by_cases h : (step st x).2 = true
    · have e2 : ∀ r, ask step st (x :: r) = ask step (step st x).1 r := fun r => by rw [e1, if_pos h]
      rw [e2, e2]; exact ih _
    · have e2 : ∀ r, ask step st (x :: r) = ((step st x).1, false) := fun r => by rw [e1, if_neg h]
      rw [e2, e2]; simp

theorem grow_append (a b : List (Nat × Nat)) (i : Nat) (hb : b ≠ []) : grow (a ++ b) i = a ++ grow b i := by
  rcases list_snoc b with rfl | ⟨p, ⟨s, n⟩, rfl⟩
  · exact absurd rfl hb
  · rw [← List.append_assoc, grow_snoc, grow_snoc]; split <;> simp
theorem runsTo_prefix (l : List UInt8) (k : Nat) (hc : Closed l k) : ∀ d, ∃ rest, runsTo l (k + d) = runsTo l k ++ rest := by
  intro d
  induction d with
  | zero => exact ⟨[], by simp⟩
  | succ d ih =>
    obtain ⟨rest, hr⟩ := ih
    rw [← Nat.add_assoc]
    simp only [runsTo]
    split
    · exact ⟨rest, hr⟩
    · by_cases h0 : rest = []
      · subst h0
        rw [List.append_nil] at hr
        rw [hr]
        refine ⟨[(k + d, 1)], grow_new _ _ ?_⟩
        rcases hc with h | h
        · left; omega
        · right; exact h
      · rw [hr]; exact ⟨grow rest (k + d), grow_append _ _ _ h0⟩

/-- Where the walk stands at the head of the outer loop. -/
def Stands {σ : Type} (step : σ → Nat × Nat → σ × Bool) (st0 : σ) (l : List UInt8) (N i : Nat) (st : σ) : Prop :=
  (i ≤ N ∧ Closed l i ∧ ask step st0 (runsTo l i) = (st, true)) ∨ (i = N + 1 ∧ ask step st0 (runsTo l N) = (st, true))

theorem Stands.done {σ : Type} {step : σ → Nat × Nat → σ × Bool} {st0 st : σ} {l : List UInt8} {N i : Nat} (h : Stands step st0 l N i st) (hi : ¬ i < N) : (ask step st0 (runsTo l N)).1 = st := by
  rcases h with ⟨h1, _, h3⟩ | ⟨_, h3⟩
  · rw [show N = i by omega, h3]
  · rw [h3]
theorem Stands.reached {σ : Type} {step : σ → Nat × Nat → σ × Bool} {st0 st : σ} {l : List UInt8} {N i : Nat} (h : Stands step st0 l N i st) (hi : i < N) : ask step st0 (runsTo l i) = (st, true) := by
  rcases h with ⟨_, _, h3⟩ | ⟨h1, _⟩
  · exact h3
  · omega
theorem Stands.one {σ : Type} {step : σ → Nat × Nat → σ × Bool} {st0 st : σ} {l : List UInt8} {N i : Nat} (h : Stands step st0 l N i st) (hi : i < N) (hb : has l i = true) : Stands step st0 l N (i + 1) st := by
  rcases h with ⟨h1, _, h3⟩ | ⟨h1, _⟩
  · exact .inl ⟨by omega, closed_one l i hb, by rw [runsTo_one l i hb]; exact h3⟩
  · omega
/-- A run that ends at j, where a one stands, or the end. -/
theorem Stands.run {σ : Type} {step : σ → Nat × Nat → σ × Bool} {st0 st : σ} {l : List UInt8} {N i j : Nat} (h : Stands step st0 l N i st) (hij : i < j) (hj : j ≤ N) (hz : ∀ q, i ≤ q → q < j → has l q = false)
    (he : j < N → has l j = true) :
    ((step st (i, j - i)).2 = true → Stands step st0 l N (j + 1) (step st (i, j - i)).1) ∧ ((step st (i, j - i)).2 = false → (ask step st0 (runsTo l N)).1 = (step st (i, j - i)).1) := by
  rcases h with ⟨h1, hc, h3⟩ | ⟨h1, _⟩
  · have hr := runsTo_stretch l i hc (j - i) (fun q a b => hz q a (by omega)) (by omega)
    rw [show i + (j - i) = j by omega] at hr
    have ha : ask step st0 (runsTo l j) = if (step st (i, j - i)).2 then ((step st (i, j - i)).1, true) else ((step st (i, j - i)).1, false) := by
      rw [hr, ask_append, h3]; simp [ask]
    constructor
    · intro hs
      rw [hs] at ha
      by_cases hjN : j < N
      · exact .inl ⟨by omega, closed_one l j (he hjN), by rw [runsTo_one l j (he hjN)]; exact ha⟩
      · refine .inr ⟨by omega, ?_⟩
        rw [show N = j by omega]; exact ha
    · intro hs
      rw [hs] at ha
      by_cases hjN : j < N
      · obtain ⟨rest, hp⟩ := runsTo_prefix l (j + 1) (closed_one l j (he hjN)) (N - (j + 1))
        rw [show j + 1 + (N - (j + 1)) = N by omega, runsTo_one l j (he hjN)] at hp
        rw [hp, ask_append, ha]; simp
      · rw [show N = j by omega, ha]; simp
  · omega

theorem hasI_nat (l : List UInt8) (i : Nat) : hasI l (i : Int) = has l i := by unfold hasI; simp

set_option maxHeartbeats 2000000 in
theorem each_gen {σ : Type} (K : Nat) (caps : List Value) (hK : (K = 25 ∧ ∃ c, caps = [c]) ∨ (K = 29 ∧ ∃ c1 c2 c3 c4, caps = [c1, c2, c3, c4]))
    (s : ByteArray) (n : Int) (hs : s.size ≤ 1000000000000) (hn : -9223372036854775808 ≤ n ∧ n ≤ 9223372036854775807)
    (R : σ → World → Prop) (step : σ → Nat × Nat → σ × Bool) (st0 : σ) (B : Nat) (w : World) (hR0 : R st0 w) (hB : B ≤ w.heap.size)
    (hst : ∀ st w0 w1, R st w0 → Below w0.heap.size w0 w1 → R st w1)
    (hcall : ∀ st (x : Nat × Nat) w1, R st w1 → x.1 + x.2 ≤ 8 * s.size → (∃ i, i ≤ 8 * s.size ∧ ask step st0 (runsTo s.data.toList i) = (st, true)) → Calls Try.prog K (#[.agg #[.int .i64 x.1, .int .i64 x.2]] ++ caps.toArray) w1 fun e w2 => e = .returned (.bool (step st x).2) ∧ R (step st x).1 w2 ∧ Below B w1 w2) :
    Calls Try.prog 24 #[.string s, .int .i64 n, .func (.func K) #[] caps.toArray] w fun e w' => e = .returned (.tuple #[]) ∧ R (ask step st0 (runsTo s.data.toList (firstN s.data.toList n))).1 w' ∧ Below B w w' := by
  have hf := Lib.hid (first_any s n hs hn w)
  have hN : firstN s.data.toList n ≤ 8 * s.size := by have := firstN_le s.data.toList n; rw [len_bytes] at this; omega
  clear hn
  generalize firstN s.data.toList n = N at *
  have HC := Lib.hid hcall
  have HST := Lib.hid hst
  have HR0 := Lib.hid hR0
  clear hcall hst hR0
  have hs2 : s.size ≤ 9223372036854775807 := by omega
  rcases hK with ⟨rfl, c, rfl⟩ | ⟨rfl, c1, c2, c3, c4, rfl⟩
  all_goals
    go_enter Try.func24, Try.ntmps24
    go_wp2_with fail
    refine hf.out.mono ?_
    rintro e w' ⟨rfl, rfl⟩
    go_wp2_with fail
    go_loopw [6] (fun q wr => ∃ (i : Nat) (st : σ), i ≤ N + 1 ∧ q = .int .i64 i ∧ Hid (Stands step st0 s.data.toList N i st) ∧ Hid (R st wr) ∧ Below B w wr) (fun q _ => N + 1 - (intOf q).toNat)
    case atStart => exact ⟨0, st0, by omega, rfl, Lib.hid (.inl ⟨by omega, closed_zero _, rfl⟩), HR0, Below.refl _ _⟩
    case round =>
      obtain ⟨i, st, hi, rfl, hstd, hR, hbw⟩ := hrel
      by_cases hlt : i < N
      · have hh := Lib.hid (has_any s (i : Int) hs2 (by omega) wr)
        rw [hasI_nat] at hh
        cases hb : has s.data.toList i
        · rw [hb] at hh
          have HB := Lib.hid hb
          clear hb
          go_wp2_with fail
          refine hh.out.mono ?_
          rintro e w' ⟨rfl, rfl⟩
          go_wp2_with fail
          go_loop [6] (fun q => ∃ j : Nat, i ≤ j ∧ j ≤ N ∧ q = .int .i64 j ∧ Hid (∀ q, i ≤ q → q < j → has s.data.toList q = false)) (fun q => N - (intOf q).toNat)
          case atStart => exact ⟨i, by omega, by omega, rfl, Lib.hid (fun q h1 h2 => by omega)⟩
          case round =>
            obtain ⟨j, hij, hjN, rfl, hz⟩ := hrel
            have hR1 : ∀ c : Array Value, Hid (R st (wr.alloc (.cells c 31))) := fun c => Lib.hid (HST.out _ _ _ hR.out ((Below.refl _ _).alloc (Nat.le_refl _) _))
            have hb1 : ∀ c : Array Value, Below B w (wr.alloc (.cells c 31)) := fun c => hbw.alloc (by have := hbw.size; omega) _
            have HR1 := Lib.hid hR1
            have HB1 := Lib.hid hb1
            clear hR1 hb1
            have HEND : Hid (i < j → (j < N → has s.data.toList j = true) → ((step st (i, j - i)).2 = true → Stands step st0 s.data.toList N (j + 1) (step st (i, j - i)).1) ∧ ((step st (i, j - i)).2 = false → (ask step st0 (runsTo s.data.toList N)).1 = (step st (i, j - i)).1)) :=
              Lib.hid fun h1 h2 => hstd.out.run h1 hjN hz.out h2
            have HCALL : ∀ w1, Hid (R st w1 → j ≤ 8 * s.size → Calls Try.prog _ (#[.agg #[.int .i64 ((i, j - i) : Nat × Nat).1, .int .i64 ((i, j - i) : Nat × Nat).2]] ++ _) w1 fun e w2 => e = .returned (.bool (step st (i, j - i)).2) ∧ R (step st (i, j - i)).1 w2 ∧ Below B w1 w2) :=
              fun w1 => Lib.hid fun h1 h2 => HC.out st (i, j - i) w1 h1 (by dsimp only; omega) ⟨i, by omega, hstd.out.reached hlt⟩
            by_cases hjlt : j < N
            · have hhj := Lib.hid (has_any s (j : Int) hs2 (by omega) (wr.alloc (.cells #[.int .i64 i, .int .i64 0] 31)))
              rw [hasI_nat] at hhj
              cases hbj : has s.data.toList j
              · rw [hbj] at hhj
                have hz2 : Hid (∀ q, i ≤ q → q < j + 1 → has s.data.toList q = false) := Lib.hid fun q h1 h2 => by
                  by_cases hq : q = j
                  · rw [hq]; exact hbj
                  · exact hz.out q h1 (by omega)
                clear hbj
                go_wp2_with fail
                refine hhj.out.mono ?_
                rintro e w' ⟨rfl, rfl⟩
                go_wp2_with fail
                go_round
                case rel => exact ⟨j + 1, by omega, by omega, by go_num, hz2⟩
                case measure => simp [intOf]; omega
              · rw [hbj] at hhj
                have hij2 : i < j := by
                  rcases Nat.lt_or_ge i j with h | h
                  · exact h
                  · have : i = j := by omega
                    rw [← this, HB.out] at hbj; cases hbj
                have HE := Lib.hid (HEND.out hij2 (fun _ => hbj))
                clear hbj
                go_wp2_with fail
                refine hhj.out.mono ?_
                rintro e w' ⟨rfl, rfl⟩
                go_wp2_with fail
                have hsub : ((j : Int) - i) = ((j - i : Nat) : Int) := by omega
                rw [hsub]
                clear hsub
                refine ((HCALL _).out (HR1 _).out (by omega)).mono ?_
                rintro e w2 ⟨rfl, hR2, hb2⟩
                have HR2 := Lib.hid hR2
                have HW2 := (HB1 #[.int .i64 i, .int .i64 ((j - i : Nat) : Int)]).trans hb2
                clear hR2
                cases hc : (step st (i, j - i)).2
                · have hd := Lib.hid (HE.out.2 hc)
                  clear hc
                  go_wp2_with fail
                  exact bodyPost_ret (results_none rfl _ _ _) rfl ⟨rfl, by rw [hd.out]; exact HR2.out, HW2⟩
                · have hd := Lib.hid (HE.out.1 hc)
                  clear hc
                  go_wp2_with fail
                  go_roundw
                  case rel => exact ⟨j + 1, _, by omega, by go_num, hd, HR2, HW2⟩
                  case measure => simp [intOf]; omega
            · have hij2 : i < j := by omega
              have HE := Lib.hid (HEND.out hij2 (fun h => absurd h hjlt))
              go_wp2_with fail
              have hsub : ((j : Int) - i) = ((j - i : Nat) : Int) := by omega
              rw [hsub]
              clear hsub
              refine ((HCALL _).out (HR1 _).out (by omega)).mono ?_
              rintro e w2 ⟨rfl, hR2, hb2⟩
              have HR2 := Lib.hid hR2
              have HW2 := (HB1 #[.int .i64 i, .int .i64 ((j - i : Nat) : Int)]).trans hb2
              clear hR2
              cases hc : (step st (i, j - i)).2
              · have hd := Lib.hid (HE.out.2 hc)
                clear hc
                go_wp2_with fail
                exact bodyPost_ret (results_none rfl _ _ _) rfl ⟨rfl, by rw [hd.out]; exact HR2.out, HW2⟩
              · have hd := Lib.hid (HE.out.1 hc)
                clear hc
                go_wp2_with fail
                go_roundw
                case rel => exact ⟨j + 1, _, by omega, by go_num, hd, HR2, HW2⟩
                case measure => simp [intOf]; omega
        · rw [hb] at hh
          have hstd2 := Lib.hid (hstd.out.one hlt hb)
          clear hb
          go_wp2_with fail
          refine hh.out.mono ?_
          rintro e w' ⟨rfl, rfl⟩
          go_wp2_with fail
          go_roundw
          case rel => exact ⟨i + 1, st, by omega, by go_num, hstd2, hR, hbw⟩
          case measure => simp [intOf]; omega
      · have hd := Lib.hid (hstd.out.done hlt)
        go_wp2_with fail
        go_end0
        exact ⟨rfl, by rw [hd.out]; exact hR.out, hbw⟩

end Go.Proofs.Ytnpgddndelidfaa
