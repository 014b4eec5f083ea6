/- Bitmaps: what Fit asks of each run. -/
import Derived.Test.YtnpgddndelidfaaBitsFree
namespace Go.Proofs.Ytnpgddndelidfaa
open Go Go.RowKit

def atOf (frm : Int) (x : Nat × Nat) : Int := if frm > (x.1 : Int) then frm else (x.1 : Int)
/-- What Fit's closure does with a run. -/
def fitStep (size frm : Int) (st : (Int × Int) × Bool) (x : Nat × Nat) : ((Int × Int) × Bool) × Bool :=
  if atOf frm x < (x.1 : Int) + x.2 ∧ size ≤ (x.1 : Int) + x.2 - atOf frm x then (((atOf frm x, size), true), false)
  else if st.2 = false ∧ size ≤ (x.2 : Int) then ((((x.1 : Int), size), true), true) else (st, true)

def FitR (B : Nat) (size frm : Int) (st : (Int × Int) × Bool) (w : World) : Prop :=
  Row w B 3 [.int .i64 size] ∧ Row w (B + 1) 3 [.int .i64 frm] ∧ Row w (B + 1 + 1) 31 [.int .i64 st.1.1, .int .i64 st.1.2] ∧ Row w (B + 1 + 1 + 1) 4 [.bool st.2]
theorem FitR.below {B : Nat} {size frm : Int} {st : (Int × Int) × Bool} {w w' : World} (h : FitR B size frm st w) (hb : Below w.heap.size w w') : FitR B size frm st w' :=
  ⟨h.1.below hb h.1.lt, h.2.1.below hb h.2.1.lt, h.2.2.1.below hb h.2.2.1.lt, h.2.2.2.below hb h.2.2.2.lt⟩

set_option maxHeartbeats 1000000 in
theorem fit1_any (B : Nat) (size frm : Int) (st : (Int × Int) × Bool) (x1 x2 : Nat) (w : World) (h : FitR B size frm st w) (hx : x1 + x2 ≤ 1000000000000000)
    (hsz : 1 ≤ size ∧ size ≤ 9223372036854775807) (hfr : -9223372036854775808 ≤ frm ∧ frm ≤ 9223372036854775807) :
    Calls Try.prog 29 #[.agg #[.int .i64 x1, .int .i64 x2], .pointer (some ⟨B + 1, 0, none⟩), .pointer (some ⟨B, 0, none⟩), .pointer (some ⟨B + 1 + 1, 0, none⟩), .pointer (some ⟨B + 1 + 1 + 1, 0, none⟩)] w
      fun e w' => e = .returned (.bool (fitStep size frm st (x1, x2)).2) ∧ FitR B size frm (fitStep size frm st (x1, x2)).1 w' ∧ Below B w w' := by
  obtain ⟨⟨o1, o2⟩, ok⟩ := st
  obtain ⟨r1, r2, r3, r4⟩ := h
  dsimp only at r3 r4
  obtain ⟨a, hm⟩ : ∃ a, (if frm > (x1 : Int) then frm else (x1 : Int)) = a := ⟨_, rfl⟩
  have hat : atOf frm (x1, x2) = a := hm
  have ha1 : (x1 : Int) ≤ a := by rw [← hm]; split <;> omega
  have ha2 : a ≤ 9223372036854775807 := by rw [← hm]; split <;> omega
  have hn : B + 1 + 1 + 1 < w.heap.size := r4.lt
  have q1 := r1.alloc (.cells #[.int .i64 x1, .int .i64 x2] 31)
  have q2 := r2.alloc (.cells #[.int .i64 x1, .int .i64 x2] 31)
  have q3 := r3.alloc (.cells #[.int .i64 x1, .int .i64 x2] 31)
  have q4 := r4.alloc (.cells #[.int .i64 x1, .int .i64 x2] 31)
  have hbl : Below B w (w.alloc (.cells #[.int .i64 x1, .int .i64 x2] 31)) := (Below.refl _ _).alloc (by omega) _
  have c1 := q1.cellAt 0 rfl
  have c2 := q2.cellAt 0 rfl
  have c3a := q3.cellAt 0 rfl
  have c3b := q3.cellAt 1 rfl
  have c4 := q4.cellAt 0 rfl
  have fr1 := q3.free 0 (by simp)
  have fr2 := q3.free 1 (by simp)
  have fr3 := q4.free 0 (by simp)
  have R1 := Lib.hid q1
  have R2 := Lib.hid q2
  have R3 := Lib.hid q3
  have R4 := Lib.hid q4
  have HB := Lib.hid hbl
  clear r1 r2 r3 r4 q1 q2 q3 q4 hbl
  by_cases hlt : a < (x1 : Int) + x2
  · by_cases hfit : size ≤ (x1 : Int) + x2 - a
    · have hs : Hid (fitStep size frm ((o1, o2), ok) (x1, x2) = (((a, size), true), false)) := Lib.hid (by unfold fitStep; rw [hat]; exact if_pos ⟨hlt, hfit⟩)
      clear hat
      go_enter Try.func29, Try.ntmps29
      go_wp2_with fail
      go_ret
      rw [hs.out]
      refine ⟨rfl, ⟨((R1.out.other (by dsimp only; omega) _).other (by dsimp only; omega) _).other (by dsimp only; omega) _, ((R2.out.other (by dsimp only; omega) _).other (by dsimp only; omega) _).other (by dsimp only; omega) _, ((R3.out.set 0 _).set 1 _).other (by dsimp only; omega) _, ((R4.out.other (by dsimp only; omega) _).other (by dsimp only; omega) _).set 0 _⟩, ?_⟩
      exact ((HB.out.setCell (by dsimp only; omega) _).setCell (by dsimp only; omega) _).setCell (by dsimp only; omega) _
    · have hcond : ¬ (a < (x1 : Int) + x2 ∧ size ≤ (x1 : Int) + x2 - a) := by omega
      have hs0 : Hid (fitStep size frm ((o1, o2), ok) (x1, x2) = if ok = false ∧ size ≤ (x2 : Int) then ((((x1 : Int), size), true), true) else (((o1, o2), ok), true)) := Lib.hid (by unfold fitStep; rw [hat]; exact if_neg hcond)
      clear hat hcond
      cases ok
      · by_cases hl : size ≤ (x2 : Int)
        · have hs : Hid (fitStep size frm ((o1, o2), false) (x1, x2) = ((((x1 : Int), size), true), true)) := Lib.hid (hs0.out.trans (if_pos ⟨rfl, hl⟩))
          clear hs0
          go_enter Try.func29, Try.ntmps29
          go_wp2_with fail
          go_ret
          rw [hs.out]
          refine ⟨rfl, ⟨((R1.out.other (by dsimp only; omega) _).other (by dsimp only; omega) _).other (by dsimp only; omega) _, ((R2.out.other (by dsimp only; omega) _).other (by dsimp only; omega) _).other (by dsimp only; omega) _, ((R3.out.set 0 _).set 1 _).other (by dsimp only; omega) _, ((R4.out.other (by dsimp only; omega) _).other (by dsimp only; omega) _).set 0 _⟩, ?_⟩
          exact ((HB.out.setCell (by dsimp only; omega) _).setCell (by dsimp only; omega) _).setCell (by dsimp only; omega) _
        · have hs : Hid (fitStep size frm ((o1, o2), false) (x1, x2) = (((o1, o2), false), true)) := Lib.hid (hs0.out.trans (if_neg (fun h => hl h.2)))
          clear hs0
          go_enter Try.func29, Try.ntmps29
          go_wp2_with fail
          go_ret
          rw [hs.out]
          exact ⟨rfl, ⟨R1.out, R2.out, R3.out, R4.out⟩, HB.out⟩
      · have hs : Hid (fitStep size frm ((o1, o2), true) (x1, x2) = (((o1, o2), true), true)) := Lib.hid (hs0.out.trans (if_neg (by simp)))
        clear hs0
        go_enter Try.func29, Try.ntmps29
        go_wp2_with fail
        go_ret
        rw [hs.out]
        exact ⟨rfl, ⟨R1.out, R2.out, R3.out, R4.out⟩, HB.out⟩
  · have hcond : ¬ (a < (x1 : Int) + x2 ∧ size ≤ (x1 : Int) + x2 - a) := by omega
    have hs0 : Hid (fitStep size frm ((o1, o2), ok) (x1, x2) = if ok = false ∧ size ≤ (x2 : Int) then ((((x1 : Int), size), true), true) else (((o1, o2), ok), true)) := Lib.hid (by unfold fitStep; rw [hat]; exact if_neg hcond)
    clear hat hcond
    cases ok
    · by_cases hl : size ≤ (x2 : Int)
      · have hs : Hid (fitStep size frm ((o1, o2), false) (x1, x2) = ((((x1 : Int), size), true), true)) := Lib.hid (hs0.out.trans (if_pos ⟨rfl, hl⟩))
        clear hs0
        go_enter Try.func29, Try.ntmps29
        go_wp2_with fail
        go_ret
        rw [hs.out]
        refine ⟨rfl, ⟨((R1.out.other (by dsimp only; omega) _).other (by dsimp only; omega) _).other (by dsimp only; omega) _, ((R2.out.other (by dsimp only; omega) _).other (by dsimp only; omega) _).other (by dsimp only; omega) _, ((R3.out.set 0 _).set 1 _).other (by dsimp only; omega) _, ((R4.out.other (by dsimp only; omega) _).other (by dsimp only; omega) _).set 0 _⟩, ?_⟩
        exact ((HB.out.setCell (by dsimp only; omega) _).setCell (by dsimp only; omega) _).setCell (by dsimp only; omega) _
      · have hs : Hid (fitStep size frm ((o1, o2), false) (x1, x2) = (((o1, o2), false), true)) := Lib.hid (hs0.out.trans (if_neg (fun h => hl h.2)))
        clear hs0
        go_enter Try.func29, Try.ntmps29
        go_wp2_with fail
        go_ret
        rw [hs.out]
        exact ⟨rfl, ⟨R1.out, R2.out, R3.out, R4.out⟩, HB.out⟩
    · have hs : Hid (fitStep size frm ((o1, o2), true) (x1, x2) = (((o1, o2), true), true)) := Lib.hid (hs0.out.trans (if_neg (by simp)))
      clear hs0
      go_enter Try.func29, Try.ntmps29
      go_wp2_with fail
      go_ret
      rw [hs.out]
      exact ⟨rfl, ⟨R1.out, R2.out, R3.out, R4.out⟩, HB.out⟩

/-- The run that fits. -/
def fitOf (size frm : Int) (l : List (Nat × Nat)) : (Int × Int) × Bool :=
  if size < 1 then ((0, 0), false) else
  match l.find? (fun x => decide (atOf frm x < (x.1 : Int) + x.2 ∧ size ≤ (x.1 : Int) + x.2 - atOf frm x)) with
  | some x => ((atOf frm x, size), true)
  | none => match l.find? (fun x => decide (size ≤ (x.2 : Int))) with
    | some x => (((x.1 : Int), size), true)
    | none => ((0, 0), false)

theorem ask_fit (size frm : Int) (l : List (Nat × Nat)) : ∀ st : (Int × Int) × Bool, (ask (fitStep size frm) st l).1 =
    match l.find? (fun x => decide (atOf frm x < (x.1 : Int) + x.2 ∧ size ≤ (x.1 : Int) + x.2 - atOf frm x)) with
    | some x => ((atOf frm x, size), true)
    | none => if st.2 then st else match l.find? (fun x => decide (size ≤ (x.2 : Int))) with
      | some x => (((x.1 : Int), size), true)
      | none => st := by
  induction l with
  | nil => intro st; simp [ask]
  | cons x l ih =>
    intro st
    obtain ⟨o, ok⟩ := st
    have e1 : ask (fitStep size frm) (o, ok) (x :: l) = if (fitStep size frm (o, ok) x).2 then ask (fitStep size frm) (fitStep size frm (o, ok) x).1 l else ((fitStep size frm (o, ok) x).1, false) := rfl
    rw [e1]
    by_cases h : atOf frm x < (x.1 : Int) + x.2 ∧ size ≤ (x.1 : Int) + x.2 - atOf frm x
    · have hs : fitStep size frm (o, ok) x = (((atOf frm x, size), true), false) := by unfold fitStep; rw [if_pos h]
      rw [hs, List.find?_cons_of_pos (by simpa using h)]
      rfl
    · rw [List.find?_cons_of_neg (by simpa using h)]
      by_cases h2 : ok = false ∧ size ≤ (x.2 : Int)
      · have hs : fitStep size frm (o, ok) x = ((((x.1 : Int), size), true), true) := by unfold fitStep; rw [if_neg h, if_pos h2]
        rw [hs]
        simp only [if_true]
        rw [ih, List.find?_cons_of_pos (by simpa using h2.2), h2.1]
        simp
      · have hs : fitStep size frm (o, ok) x = ((o, ok), true) := by unfold fitStep; rw [if_neg h, if_neg h2]
        rw [hs]
        simp only [if_true]
        rw [ih]
        cases ok
        · have : ¬ size ≤ (x.2 : Int) := fun e => h2 ⟨rfl, e⟩
          rw [List.find?_cons_of_neg (by simpa using this)]
        · simp

theorem ask_fitOf (size frm : Int) (l : List (Nat × Nat)) (h : 1 ≤ size) : (ask (fitStep size frm) ((0, 0), false) l).1 = fitOf size frm l := by
  have h1 : ¬ size < 1 := by omega
  rw [ask_fit]; unfold fitOf; rw [if_neg h1]; rfl

end Go.Proofs.Ytnpgddndelidfaa
