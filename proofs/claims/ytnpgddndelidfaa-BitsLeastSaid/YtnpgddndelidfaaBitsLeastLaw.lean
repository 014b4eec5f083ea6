/- Bitmaps: the law of the run that fits. -/
import Derived.Test.YtnpgddndelidfaaBitsFound
namespace Go.Proofs.Ytnpgddndelidfaa
open Go Go.RowKit

def allZero (l : List UInt8) (a d : Nat) : Prop := ∀ j, a ≤ j → j < a + d → has l j = false

theorem least_no (size frm : Int) (L : List (Nat × Nat)) (h : (fitOf size frm L).2 = false) : fitOf size frm L = ((0, 0), false) := by
  by_cases h1 : size < 1
  · unfold fitOf; rw [if_pos h1]
  · cases hf : L.find? (fun x => decide (atOf frm x < (x.1 : Int) + x.2 ∧ size ≤ (x.1 : Int) + x.2 - atOf frm x)) with
    | some x => rw [fit_one h1 x hf] at h; cases h
    | none =>
      cases hg : L.find? (fun x => decide (size ≤ (x.2 : Int))) with
      | some x => rw [fit_two h1 hf x hg] at h; cases h
      | none => exact fit_none h1 hf hg

theorem least_spec (size frm : Int) (l : List UInt8) (N : Nat) (h : (fitOf size frm (runsTo l N)).2 = true) :
    ∃ r d : Nat, (fitOf size frm (runsTo l N)).1 = ((r : Int), (d : Int)) ∧ size = (d : Int) ∧ 1 ≤ d ∧ r + d ≤ N ∧ allZero l r d ∧
      ((frm ≤ (r : Int) ∧ ∀ a : Nat, frm ≤ (a : Int) → a < r → ¬ allZero l a d) ∨ ((r : Int) < frm ∧ ∀ a : Nat, a < r → ¬ allZero l a d)) := by
  have hri := runsTo_rises l N
  have hspan := runsTo_span l N
  have hzer := runsTo_zero l N
  have hbd := runsTo_bound l N
  have h1 : ¬ size < 1 := fun h1 => by
    rw [fit_ok] at h
    have := (of_decide_eq_true h).1
    omega
  generalize hL : runsTo l N = L at *
  obtain ⟨d, rfl⟩ := Int.eq_ofNat_of_zero_le (show 0 ≤ size by omega)
  cases hf : L.find? (fun x => decide (atOf frm x < (x.1 : Int) + x.2 ∧ (d : Int) ≤ (x.1 : Int) + x.2 - atOf frm x)) with
  | some x =>
    rw [fit_one h1 x hf]
    have hx := List.mem_of_find?_eq_some hf
    obtain ⟨hp, pre, post, hab, has⟩ := find_split hf
    simp only [decide_eq_true_eq] at hp
    have hge := atOf_ge frm x
    have hgf : frm ≤ atOf frm x := by unfold atOf; split <;> omega
    obtain ⟨r, hr⟩ := Int.eq_ofNat_of_zero_le (show 0 ≤ atOf frm x by omega)
    have hbx := hbd x hx
    refine ⟨r, d, by rw [hr], rfl, by omega, by omega, fun j h2 h3 => hzer x hx j (by omega) (by omega), .inl ⟨by omega, fun a hfa har hz => ?_⟩⟩
    obtain ⟨y, hy, h2, h3⟩ := hspan a d (by omega) (by omega) hz
    have haty : atOf frm y ≤ (a : Int) := by unfold atOf; split <;> omega
    rw [hab] at hy
    rcases List.mem_append.1 hy with hya | hyb
    · have := has y hya
      simp only [decide_eq_false_iff_not] at this
      exact absurd ⟨by omega, by omega⟩ this
    · rcases List.mem_cons.1 hyb with rfl | hyb
      · omega
      · have := rises_behind (hab ▸ hri) y hyb
        omega
  | none =>
    have hnone := List.find?_eq_none.1 hf
    cases hg : L.find? (fun x => decide ((d : Int) ≤ (x.2 : Int))) with
    | none => rw [fit_none h1 hf hg] at h; cases h
    | some x =>
      rw [fit_two h1 hf x hg]
      have hx := List.mem_of_find?_eq_some hg
      obtain ⟨hp, pre, post, hab, has⟩ := find_split hg
      simp only [decide_eq_true_eq] at hp
      have hbx := hbd x hx
      have hnx := hnone x hx
      simp only [decide_eq_true_eq] at hnx
      have hatx : atOf frm x = if frm > (x.1 : Int) then frm else (x.1 : Int) := rfl
      refine ⟨x.1, d, rfl, rfl, by omega, by omega, fun j h2 h3 => hzer x hx j (by omega) (by omega), .inr ⟨?_, fun a har hz => ?_⟩⟩
      · rcases Int.lt_or_le (x.1 : Int) frm with h3 | h3
        · exact h3
        · rw [if_neg (by omega)] at hatx
          exact absurd ⟨by omega, by omega⟩ hnx
      · obtain ⟨y, hy, h2, h3⟩ := hspan a d (by omega) (by omega) hz
        rw [hab] at hy
        rcases List.mem_append.1 hy with hya | hyb
        · have h4 := has y hya
          simp only [decide_eq_false_iff_not] at h4
          omega
        · rcases List.mem_cons.1 hyb with rfl | hyb
          · omega
          · have := rises_behind (hab ▸ hri) y hyb
            omega

theorem hasI_add (l : List UInt8) (a i : Nat) : hasI l ((a : Int) + (i : Int)) = has l (a + i) := by
  rw [show (a : Int) + (i : Int) = ((a + i : Nat) : Int) by omega]; exact hasI_nat _ _

set_option maxRecDepth 100000 in
set_option maxHeartbeats 4000000 in
theorem BitsLeast_walk (s : ByteArray) (n size frm : Int) (hs : s.size ≤ 9223372036854775807) (hn : -9223372036854775808 ≤ n ∧ n ≤ 9223372036854775807)
    (hsz : -9223372036854775808 ≤ size ∧ size ≤ 9223372036854775807) (hfr : -9223372036854775808 ≤ frm ∧ frm ≤ 9223372036854775807) (w : World) :
    Calls Try.prog 8 #[.string s, .int .i64 n, .agg #[.int .i64 size, .int .i64 frm]] w fun e w' => e = .returned (.bool true) ∧ Below w.heap.size w w' := by
  by_cases h1 : 300 < s.size
  · go_enter Try.func8, Try.ntmps8
    go_wp2_with fail
    go_ret
    exact ⟨rfl, (Below.refl _ _).alloc (Nat.le_refl _) _⟩
  · have hF1 := fun w => fit_any s n size frm (by omega) hn hsz hfr w
    cases hok : (fitOf size frm (runsTo s.data.toList (firstN s.data.toList n))).2
    · rw [least_no _ _ _ hok] at hF1
      have HF1 := Lib.hid hF1
      clear hF1 hok
      go_enter Try.func8, Try.ntmps8
      go_wp2_with fail
      have B0 : Below w.heap.size w (w.alloc (.cells #[.int .i64 size, .int .i64 frm] 33)) := (Below.refl _ _).alloc (Nat.le_refl _) _
      refine (HF1.out _).mono ?_
      rintro e w1 ⟨rfl, hb1⟩
      have B1 := (B0.trans (hb1.mono B0.size)).alloc (by have := hb1.size; have := B0.size; omega) (.cells #[.int .i64 0, .int .i64 0] 31)
      clear hb1 B0
      simp only [runV]
      go_wp2_with fail
      refine (alive_any _).mono ?_
      rintro e w9 ⟨rfl, hb9⟩
      have B9 := B1.trans (hb9.mono B1.size)
      go_wp2_with fail
      go_ret
      exact ⟨rfl, B9⟩
    · obtain ⟨r, d, hF, hsd, hd, hrd, hz, hleast⟩ := least_spec size frm s.data.toList _ hok
      subst hsd
      have hNle := firstN_le s.data.toList n
      have hNd : firstN s.data.toList n = min n.toNat (s.data.toList.length * 8) := rfl
      rw [len_bytes] at hNle hNd
      have hrn : (r : Int) + d ≤ n := by omega
      have hrs : r + d ≤ 8 * s.size := by omega
      have hlater := fun w => fit_any s n d ((r : Int) + 1) (by omega) hn hsz (by omega) w
      have hlok : (fitOf (d : Int) ((r : Int) + 1) (runsTo s.data.toList (firstN s.data.toList n))).2 = true := by rw [← hok, fit_ok, fit_ok]
      rw [hlok] at hlater
      rw [hok, hF] at hF1
      generalize (fitOf (d : Int) ((r : Int) + 1) (runsTo s.data.toList (firstN s.data.toList n))).1 = L at hlater
      obtain ⟨l1, l2⟩ := L
      have HF1 := Lib.hid hF1
      have HLA := Lib.hid hlater
      have HZ := Lib.hid hz
      have hz := HZ
      clear hF1 hlater hlok hok hF hNle hNd hrd HZ
      rcases hleast with ⟨hfle, hP⟩ | ⟨hflt, hP⟩
      · by_cases hf0 : frm < 0
        · have hP : Hid (∀ a : Nat, 0 ≤ a → a < r → ¬ allZero s.data.toList a d) := Lib.hid fun a _ h => hP a (by omega) h
          go_enter Try.func8, Try.ntmps8
          go_wp2_with fail
          have r0 : Row (w.alloc (.cells #[.int .i64 d, .int .i64 frm] 33)) w.heap.size 33 [.int .i64 d, .int .i64 frm] := Row.new _ _ [_, _] rfl
          have B0 : Below w.heap.size w (w.alloc (.cells #[.int .i64 d, .int .i64 frm] 33)) := (Below.refl _ _).alloc (Nat.le_refl _) _
          refine (HF1.out _).mono ?_
          rintro e w1 ⟨rfl, hb1⟩
          have r1 := (r0.below hb1 r0.lt).alloc (.cells #[.int .i64 r, .int .i64 d] 31)
          have B1 := (B0.trans (hb1.mono B0.size)).alloc (by have := hb1.size; have := B0.size; omega) (.cells #[.int .i64 r, .int .i64 d] 31)
          have q1 : Row (w1.alloc (.cells #[.int .i64 r, .int .i64 d] 31)) w1.heap.size 31 [.int .i64 r, .int .i64 d] := Row.new _ _ [_, _] rfl
          clear hb1 r0 B0
          have z1 := r1.cellAt 0 rfl
          have z2 := r1.cellAt 1 rfl
          have BB := Lib.hid B1
          have QQ := Lib.hid q1
          have RR := Lib.hid r1
          clear r1 B1 q1
          simp only [runV]
          go_wp2_with fail
          go_loop [9] (fun q => ∃ i : Nat, i ≤ d ∧ q = .int .i64 i) (fun q => d - (intOf q).toNat)
          case atStart => exact ⟨0, by omega, rfl⟩
          case round =>
            obtain ⟨i, hi, rfl⟩ := hrel
            by_cases hid : i < d
            · have hh := fun w => has_any s ((r : Int) + (i : Int)) hs (by omega) w
              rw [hasI_add, hz.out (r + i) (by omega) (by omega)] at hh
              have HH := Lib.hid hh
              clear hh
              go_wp2_with fail
              refine (HH.out _).mono ?_
              rintro e w' ⟨rfl, rfl⟩
              go_wp2_with fail
              go_round
              case rel => exact ⟨i + 1, by omega, by go_num⟩
              case measure => simp [intOf]; omega
            · go_wp2_with fail
              -- the places ahead of the run
              go_loop [15] (fun q => ∃ a : Nat, 0 ≤ a ∧ a ≤ r ∧ q = .int .i64 a) (fun q => r - (intOf q).toNat)
              case atStart => exact ⟨0, by omega, by omega, by first | rfl | simp⟩
              case round =>
                obtain ⟨a, ha0, har, rfl⟩ := hrel
                by_cases hlt : a < r
                · have hnz := Lib.hid (hP.out a ha0 hlt)
                  go_wp2_with fail
                  go_loop [16, 17] (fun q16 q => ∃ (i : Nat) (b : Bool), i ≤ d ∧ q = .int .i64 i ∧ q16 = .bool b ∧ Hid (b = true → ∀ j, a ≤ j → j < a + i → has s.data.toList j = false)) (fun _ q => d - (intOf q).toNat)
                  case atStart => exact ⟨0, true, by omega, rfl, rfl, Lib.hid (fun _ j h2 h3 => by omega)⟩
                  case round =>
                    obtain ⟨i, b, hi, rfl, rfl, hb⟩ := hrel
                    by_cases hid : i < d
                    · cases b
                      · go_wp2_with fail
                        go_round
                        case rel => exact ⟨a + 1, by omega, by omega, by go_num⟩
                        case measure => simp [intOf]; omega
                      · have hh := fun w => has_any s ((a : Int) + (i : Int)) hs (by omega) w
                        rw [hasI_add] at hh
                        cases hv : has s.data.toList (a + i)
                        · rw [hv] at hh
                          have HH := Lib.hid hh
                          have hb2 : Hid (∀ j, a ≤ j → j < a + (i + 1) → has s.data.toList j = false) := Lib.hid fun j h2 h3 => by
                            by_cases e : j = a + i
                            · rw [e]; exact hv
                            · exact hb.out rfl j h2 (by omega)
                          clear hh hv
                          go_wp2_with fail
                          refine (HH.out _).mono ?_
                          rintro e w' ⟨rfl, rfl⟩
                          go_wp2_with fail
                          go_round
                          case rel => exact ⟨i + 1, true, by omega, by go_num, rfl, Lib.hid (fun _ => hb2.out)⟩
                          case measure => simp [intOf]; omega
                        · rw [hv] at hh
                          have HH := Lib.hid hh
                          clear hh hv
                          go_wp2_with fail
                          refine (HH.out _).mono ?_
                          rintro e w' ⟨rfl, rfl⟩
                          go_wp2_with fail
                          go_round
                          case rel => exact ⟨i + 1, false, by omega, by go_num, rfl, Lib.hid (fun h => by cases h)⟩
                          case measure => simp [intOf]; omega
                    · cases b
                      · go_wp2_with fail
                        go_round
                        case rel => exact ⟨a + 1, by omega, by omega, by go_num⟩
                        case measure => simp [intOf]; omega
                      · exact absurd (fun j h2 h3 => hb.out rfl j h2 (by omega)) hnz.out
                · go_wp2_with fail
                  refine (alive_any _).mono ?_
                  rintro e w9 ⟨rfl, hb9⟩
                  have B9 := BB.out.trans (hb9.mono BB.out.size)
                  go_wp2_with fail
                  go_ret
                  exact ⟨rfl, B9⟩
        · obtain ⟨f, rfl⟩ := Int.eq_ofNat_of_zero_le (Int.not_lt.1 hf0)
          have hP : Hid (∀ a : Nat, f ≤ a → a < r → ¬ allZero s.data.toList a d) := Lib.hid fun a h2 h => hP a (by omega) h
          go_enter Try.func8, Try.ntmps8
          go_wp2_with fail
          have r0 : Row (w.alloc (.cells #[.int .i64 d, .int .i64 f] 33)) w.heap.size 33 [.int .i64 d, .int .i64 f] := Row.new _ _ [_, _] rfl
          have B0 : Below w.heap.size w (w.alloc (.cells #[.int .i64 d, .int .i64 f] 33)) := (Below.refl _ _).alloc (Nat.le_refl _) _
          refine (HF1.out _).mono ?_
          rintro e w1 ⟨rfl, hb1⟩
          have r1 := (r0.below hb1 r0.lt).alloc (.cells #[.int .i64 r, .int .i64 d] 31)
          have B1 := (B0.trans (hb1.mono B0.size)).alloc (by have := hb1.size; have := B0.size; omega) (.cells #[.int .i64 r, .int .i64 d] 31)
          have q1 : Row (w1.alloc (.cells #[.int .i64 r, .int .i64 d] 31)) w1.heap.size 31 [.int .i64 r, .int .i64 d] := Row.new _ _ [_, _] rfl
          clear hb1 r0 B0
          have z1 := r1.cellAt 0 rfl
          have z2 := r1.cellAt 1 rfl
          have BB := Lib.hid B1
          have QQ := Lib.hid q1
          have RR := Lib.hid r1
          clear r1 B1 q1
          simp only [runV]
          go_wp2_with fail
          go_loop [9] (fun q => ∃ i : Nat, i ≤ d ∧ q = .int .i64 i) (fun q => d - (intOf q).toNat)
          case atStart => exact ⟨0, by omega, rfl⟩
          case round =>
            obtain ⟨i, hi, rfl⟩ := hrel
            by_cases hid : i < d
            · have hh := fun w => has_any s ((r : Int) + (i : Int)) hs (by omega) w
              rw [hasI_add, hz.out (r + i) (by omega) (by omega)] at hh
              have HH := Lib.hid hh
              clear hh
              go_wp2_with fail
              refine (HH.out _).mono ?_
              rintro e w' ⟨rfl, rfl⟩
              go_wp2_with fail
              go_round
              case rel => exact ⟨i + 1, by omega, by go_num⟩
              case measure => simp [intOf]; omega
            · go_wp2_with fail
              -- the places ahead of the run
              go_loop [15] (fun q => ∃ a : Nat, f ≤ a ∧ a ≤ r ∧ q = .int .i64 a) (fun q => r - (intOf q).toNat)
              case atStart => exact ⟨f, by omega, by omega, by first | rfl | simp⟩
              case round =>
                obtain ⟨a, ha0, har, rfl⟩ := hrel
                by_cases hlt : a < r
                · have hnz := Lib.hid (hP.out a ha0 hlt)
                  go_wp2_with fail
                  go_loop [16, 17] (fun q16 q => ∃ (i : Nat) (b : Bool), i ≤ d ∧ q = .int .i64 i ∧ q16 = .bool b ∧ Hid (b = true → ∀ j, a ≤ j → j < a + i → has s.data.toList j = false)) (fun _ q => d - (intOf q).toNat)
                  case atStart => exact ⟨0, true, by omega, rfl, rfl, Lib.hid (fun _ j h2 h3 => by omega)⟩
                  case round =>
                    obtain ⟨i, b, hi, rfl, rfl, hb⟩ := hrel
                    by_cases hid : i < d
                    · cases b
                      · go_wp2_with fail
                        go_round
                        case rel => exact ⟨a + 1, by omega, by omega, by go_num⟩
                        case measure => simp [intOf]; omega
                      · have hh := fun w => has_any s ((a : Int) + (i : Int)) hs (by omega) w
                        rw [hasI_add] at hh
                        cases hv : has s.data.toList (a + i)
                        · rw [hv] at hh
                          have HH := Lib.hid hh
                          have hb2 : Hid (∀ j, a ≤ j → j < a + (i + 1) → has s.data.toList j = false) := Lib.hid fun j h2 h3 => by
                            by_cases e : j = a + i
                            · rw [e]; exact hv
                            · exact hb.out rfl j h2 (by omega)
                          clear hh hv
                          go_wp2_with fail
                          refine (HH.out _).mono ?_
                          rintro e w' ⟨rfl, rfl⟩
                          go_wp2_with fail
                          go_round
                          case rel => exact ⟨i + 1, true, by omega, by go_num, rfl, Lib.hid (fun _ => hb2.out)⟩
                          case measure => simp [intOf]; omega
                        · rw [hv] at hh
                          have HH := Lib.hid hh
                          clear hh hv
                          go_wp2_with fail
                          refine (HH.out _).mono ?_
                          rintro e w' ⟨rfl, rfl⟩
                          go_wp2_with fail
                          go_round
                          case rel => exact ⟨i + 1, false, by omega, by go_num, rfl, Lib.hid (fun h => by cases h)⟩
                          case measure => simp [intOf]; omega
                    · cases b
                      · go_wp2_with fail
                        go_round
                        case rel => exact ⟨a + 1, by omega, by omega, by go_num⟩
                        case measure => simp [intOf]; omega
                      · exact absurd (fun j h2 h3 => hb.out rfl j h2 (by omega)) hnz.out
                · go_wp2_with fail
                  refine (alive_any _).mono ?_
                  rintro e w9 ⟨rfl, hb9⟩
                  have B9 := BB.out.trans (hb9.mono BB.out.size)
                  go_wp2_with fail
                  go_ret
                  exact ⟨rfl, B9⟩
      · have hP : Hid (∀ a : Nat, 0 ≤ a → a < r → ¬ allZero s.data.toList a d) := Lib.hid fun a _ h => hP a h
        obtain ⟨f, rfl⟩ := Int.eq_ofNat_of_zero_le (show 0 ≤ frm by omega)
        go_enter Try.func8, Try.ntmps8
        go_wp2_with fail
        have r0 : Row (w.alloc (.cells #[.int .i64 d, .int .i64 f] 33)) w.heap.size 33 [.int .i64 d, .int .i64 f] := Row.new _ _ [_, _] rfl
        have B0 : Below w.heap.size w (w.alloc (.cells #[.int .i64 d, .int .i64 f] 33)) := (Below.refl _ _).alloc (Nat.le_refl _) _
        refine (HF1.out _).mono ?_
        rintro e w1 ⟨rfl, hb1⟩
        have r1 := (r0.below hb1 r0.lt).alloc (.cells #[.int .i64 r, .int .i64 d] 31)
        have B1 := (B0.trans (hb1.mono B0.size)).alloc (by have := hb1.size; have := B0.size; omega) (.cells #[.int .i64 r, .int .i64 d] 31)
        have q1 : Row (w1.alloc (.cells #[.int .i64 r, .int .i64 d] 31)) w1.heap.size 31 [.int .i64 r, .int .i64 d] := Row.new _ _ [_, _] rfl
        clear hb1 r0 B0
        have z1 := r1.cellAt 0 rfl
        have z2 := r1.cellAt 1 rfl
        have BB := Lib.hid B1
        have QQ := Lib.hid q1
        have RR := Lib.hid r1
        clear r1 B1 q1
        simp only [runV]
        go_wp2_with fail
        go_loop [9] (fun q => ∃ i : Nat, i ≤ d ∧ q = .int .i64 i) (fun q => d - (intOf q).toNat)
        case atStart => exact ⟨0, by omega, rfl⟩
        case round =>
          obtain ⟨i, hi, rfl⟩ := hrel
          by_cases hid : i < d
          · have hh := fun w => has_any s ((r : Int) + (i : Int)) hs (by omega) w
            rw [hasI_add, hz.out (r + i) (by omega) (by omega)] at hh
            have HH := Lib.hid hh
            clear hh
            go_wp2_with fail
            refine (HH.out _).mono ?_
            rintro e w' ⟨rfl, rfl⟩
            go_wp2_with fail
            go_round
            case rel => exact ⟨i + 1, by omega, by go_num⟩
            case measure => simp [intOf]; omega
          · go_wp2_with fail
            refine (HLA.out _).mono ?_
            rintro e w2 ⟨rfl, hb2⟩
            have r2 := (RR.out.below hb2 RR.out.lt).alloc (.cells #[.int .i64 l1, .int .i64 l2] 31)
            have q2 := (QQ.out.below hb2 QQ.out.lt).alloc (.cells #[.int .i64 l1, .int .i64 l2] 31)
            have B2 := (BB.out.trans (hb2.mono BB.out.size)).alloc (by have := hb2.size; have := BB.out.size; omega) (.cells #[.int .i64 l1, .int .i64 l2] 31)
            clear hb2 BB RR QQ z1 z2
            have z1 := r2.cellAt 0 rfl
            have z2 := r2.cellAt 1 rfl
            simp only [runV]
            go_wp2_with fail
            refine (HF1.out _).mono ?_
            rintro e w3 ⟨rfl, hb3⟩
            have q3 := (q2.below hb3 q2.lt).alloc (.cells #[.int .i64 r, .int .i64 d] 31)
            have BB := Lib.hid ((B2.trans (hb3.mono B2.size)).alloc (by have := hb3.size; have := B2.size; omega) (.cells #[.int .i64 r, .int .i64 d] 31))
            clear hb3 B2 r2 q2 z1 z2
            have z1 := q3.cellAt 0 rfl
            have z2 := q3.cellAt 1 rfl
            simp only [runV]
            go_wp2_with fail
            -- the places ahead of the run
            go_loop [15] (fun q => ∃ a : Nat, 0 ≤ a ∧ a ≤ r ∧ q = .int .i64 a) (fun q => r - (intOf q).toNat)
            case atStart => exact ⟨0, by omega, by omega, by first | rfl | simp⟩
            case round =>
              obtain ⟨a, ha0, har, rfl⟩ := hrel
              by_cases hlt : a < r
              · have hnz := Lib.hid (hP.out a ha0 hlt)
                go_wp2_with fail
                go_loop [16, 17] (fun q16 q => ∃ (i : Nat) (b : Bool), i ≤ d ∧ q = .int .i64 i ∧ q16 = .bool b ∧ Hid (b = true → ∀ j, a ≤ j → j < a + i → has s.data.toList j = false)) (fun _ q => d - (intOf q).toNat)
                case atStart => exact ⟨0, true, by omega, rfl, rfl, Lib.hid (fun _ j h2 h3 => by omega)⟩
                case round =>
                  obtain ⟨i, b, hi, rfl, rfl, hb⟩ := hrel
                  by_cases hid : i < d
                  · cases b
                    · go_wp2_with fail
                      go_round
                      case rel => exact ⟨a + 1, by omega, by omega, by go_num⟩
                      case measure => simp [intOf]; omega
                    · have hh := fun w => has_any s ((a : Int) + (i : Int)) hs (by omega) w
                      rw [hasI_add] at hh
                      cases hv : has s.data.toList (a + i)
                      · rw [hv] at hh
                        have HH := Lib.hid hh
                        have hb2 : Hid (∀ j, a ≤ j → j < a + (i + 1) → has s.data.toList j = false) := Lib.hid fun j h2 h3 => by
                          by_cases e : j = a + i
                          · rw [e]; exact hv
                          · exact hb.out rfl j h2 (by omega)
                        clear hh hv
                        go_wp2_with fail
                        refine (HH.out _).mono ?_
                        rintro e w' ⟨rfl, rfl⟩
                        go_wp2_with fail
                        go_round
                        case rel => exact ⟨i + 1, true, by omega, by go_num, rfl, Lib.hid (fun _ => hb2.out)⟩
                        case measure => simp [intOf]; omega
                      · rw [hv] at hh
                        have HH := Lib.hid hh
                        clear hh hv
                        go_wp2_with fail
                        refine (HH.out _).mono ?_
                        rintro e w' ⟨rfl, rfl⟩
                        go_wp2_with fail
                        go_round
                        case rel => exact ⟨i + 1, false, by omega, by go_num, rfl, Lib.hid (fun h => by cases h)⟩
                        case measure => simp [intOf]; omega
                  · cases b
                    · go_wp2_with fail
                      go_round
                      case rel => exact ⟨a + 1, by omega, by omega, by go_num⟩
                      case measure => simp [intOf]; omega
                    · exact absurd (fun j h2 h3 => hb.out rfl j h2 (by omega)) hnz.out
              · go_wp2_with fail
                refine (alive_any _).mono ?_
                rintro e w9 ⟨rfl, hb9⟩
                have B9 := BB.out.trans (hb9.mono BB.out.size)
                go_wp2_with fail
                go_ret
                exact ⟨rfl, B9⟩

end Go.Proofs.Ytnpgddndelidfaa
