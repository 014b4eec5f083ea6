/- Exts: Find, with the library's search. -/
import Derived.Test.YtgpjldmndibalaaExtsCheck
namespace Go.Proofs.Ytgpjldmndibalaa
open Go Go.RowKit

namespace Exts
/-- The first ext that ends behind t. -/
structure Search (l : EL) (t : Int) (r : Nat) : Prop where
  le : r ≤ l.length
  lo : ∀ k, k < r → fin (l.getD k (0, 0, 0)) ≤ t
  hi : ∀ k, r ≤ k → k < l.length → t < fin (l.getD k (0, 0, 0))
theorem row_pair {l : EL} (hl : Row l) {a b : Nat} (hab : a < b) (hb : b < l.length) : fin (l.getD a (0, 0, 0)) ≤ (l.getD b (0, 0, 0)).1 := by
  induction l generalizing a b with
  | nil => simp at hb
  | cons x l ih =>
    obtain ⟨b, rfl⟩ : ∃ c, b = c + 1 := ⟨b - 1, by omega⟩
    have hb' : b < l.length := by simpa using hb
    cases a with
    | zero =>
      simp only [List.getD_cons_zero, List.getD_cons_succ]
      exact hl.2.1 _ (by simp [List.getD, hb'])
    | succ a =>
      simp only [List.getD_cons_succ]
      exact ih hl.2.2 (by omega) hb'
theorem row_at {l : EL} (hl : Row l) {a : Nat} (ha : a < l.length) : may (l.getD a (0, 0, 0)) := hl.may _ (by simp [List.getD, ha])
theorem row_mono {l : EL} (hl : Row l) {a b : Nat} (hab : a ≤ b) (hb : b < l.length) : fin (l.getD a (0, 0, 0)) ≤ fin (l.getD b (0, 0, 0)) := by
  rcases Nat.lt_or_ge a b with h | h
  · have h1 := row_pair hl h hb
    have h2 := row_at hl hb
    unfold may at h2
    unfold fin at *
    omega
  · obtain rfl : a = b := by omega
    exact Int.le_refl _
theorem at_skip (l : EL) (t : Int) : ∀ r, (∀ k, k < r → ¬ ((l.getD k (0, 0, 0)).1 ≤ t ∧ t < fin (l.getD k (0, 0, 0)))) → at_ l t = at_ (l.drop r) t := by
  induction l with
  | nil => intro r _; simp
  | cons x l ih =>
    intro r h
    cases r with
    | zero => rfl
    | succ r =>
      have h0 := h 0 (by omega)
      simp only [List.getD_cons_zero] at h0
      rw [at_, if_neg h0, List.drop_succ_cons]
      exact ih r (fun k hk => by have := h (k + 1) (by omega); simpa using this)
theorem at_none {l : EL} (hl : Row l) {t : Int} {r : Nat} (h : Search l t r) (hr : r = l.length ∨ t < (l.getD r (0, 0, 0)).1) : at_ l t = none := by
  rw [at_skip l t l.length (fun k hk => ?_), List.drop_length]
  · rfl
  rintro ⟨h1, h2⟩
  rcases Nat.lt_or_ge k r with h3 | h3
  · have := h.lo k h3; omega
  · rcases hr with rfl | hr
    · omega
    · rcases Nat.lt_or_ge r k with h4 | h4
      · have h5 := row_pair hl h4 hk
        have h6 := row_at hl (show r < l.length by omega)
        unfold may at h6
        unfold fin at *
        omega
      · obtain rfl : k = r := by omega
        omega
theorem at_some {l : EL} {t : Int} {r : Nat} (h : Search l t r) (hr : r < l.length) (hle : (l.getD r (0, 0, 0)).1 ≤ t) : at_ l t = some ((l.getD r (0, 0, 0)).2.1 + t - (l.getD r (0, 0, 0)).1, fin (l.getD r (0, 0, 0)) - t) := by
  rw [at_skip l t r (fun k hk => by have := h.lo k hk; omega), List.drop_eq_getElem_cons hr, at_]
  have e : l.getD r (0, 0, 0) = l[r] := by simp [List.getD, hr]
  have h2 := h.hi r (Nat.le_refl _) hr
  rw [e] at hle h2 ⊢
  rw [if_pos ⟨hle, h2⟩]
def findR (l : EL) (t : Int) : Int × Int × Bool :=
  if okTo l l.length then match at_ l t with
    | none => (0, 0, false)
    | some (p, n) => (p, n, true)
  else (0, 0, false)
theorem findR_bad {l : EL} {t : Int} (h : okTo l l.length = false) : findR l t = (0, 0, false) := by unfold findR; rw [h]; rfl
theorem findR_none {l : EL} {t : Int} (h : okTo l l.length = true) (ha : at_ l t = none) : findR l t = (0, 0, false) := by unfold findR; rw [h, if_pos rfl, ha]
theorem findR_some {l : EL} {t p n : Int} (h : okTo l l.length = true) (ha : at_ l t = some (p, n)) : findR l t = (p, n, true) := by unfold findR; rw [h, if_pos rfl, ha]
end Exts

theorem find1_lo (x : Exts.E) (t : Int) (hm : Exts.may x) (ht : -9223372036854775808 ≤ t ∧ t ≤ 9223372036854775807) (h : Exts.fin x ≤ t) (w : World) :
    Calls Try.prog 37 #[.agg #[.int .i64 x.1, .int .i64 x.2.1, .int .i64 x.2.2], .int .i64 t] w fun e w' => e = .returned (.int .i64 (-1)) ∧ Below w.heap.size w w' := by
  have he := Lib.hid (fun w => eend_any x (emay_fin hm) w)
  have bA : Below w.heap.size w (w.alloc (.cells #[.int .i64 x.1, .int .i64 x.2.1, .int .i64 x.2.2] 37)) := (Below.refl _ _).alloc (Nat.le_refl _) _
  obtain ⟨a, b, c⟩ := x
  clear hm
  dsimp only at *
  go_enter Try.func37, Try.ntmps37
  go_wp2_with fail
  refine (he.out _).mono ?_
  rintro e w' ⟨rfl, hb⟩
  have B := Lib.hid (bA.trans (hb.mono bA.size))
  clear hb bA
  go_wp2_with fail
  go_ret
  exact ⟨rfl, B.out⟩
theorem find1_hi (x : Exts.E) (t : Int) (hm : Exts.may x) (ht : -9223372036854775808 ≤ t ∧ t ≤ 9223372036854775807) (h : ¬ Exts.fin x ≤ t) (w : World) :
    Calls Try.prog 37 #[.agg #[.int .i64 x.1, .int .i64 x.2.1, .int .i64 x.2.2], .int .i64 t] w fun e w' => e = .returned (.int .i64 1) ∧ Below w.heap.size w w' := by
  have he := Lib.hid (fun w => eend_any x (emay_fin hm) w)
  have bA : Below w.heap.size w (w.alloc (.cells #[.int .i64 x.1, .int .i64 x.2.1, .int .i64 x.2.2] 37)) := (Below.refl _ _).alloc (Nat.le_refl _) _
  obtain ⟨a, b, c⟩ := x
  clear hm
  dsimp only at *
  go_enter Try.func37, Try.ntmps37
  go_wp2_with fail
  refine (he.out _).mono ?_
  rintro e w' ⟨rfl, hb⟩
  have B := Lib.hid (bA.trans (hb.mono bA.size))
  clear hb bA
  go_wp2_with fail
  go_ret
  exact ⟨rfl, B.out⟩

set_option maxRecDepth 100000 in
set_option maxHeartbeats 4000000 in
theorem esearch_any (v : Value) (l : EL) (t : Int) (w : World) (hr : Exts.Row l) (h : ExtsAt w v l) (hl : l.length ≤ 1000000000) (ht : -9223372036854775808 ≤ t ∧ t ≤ 9223372036854775807) :
    Calls Try.prog 36 #[v, .int .i64 t, .func (.func 37) #[] #[]] w fun e w' => ∃ r : Nat, e = .returned (.tuple #[.int .i64 r, .bool false]) ∧ Exts.Search l t r ∧ Below w.heap.size w w' := by
  have H := Lib.hid h
  have HR := Lib.hid hr
  have HT := Lib.hid ht
  obtain ⟨ad, cap, rfl⟩ : ∃ ad cap, v = .slice ad l.length cap := by
    rcases h with ⟨rfl, rfl⟩ | ⟨b, off, cap, rfl, _⟩
    · exact ⟨_, _, rfl⟩
    · exact ⟨_, _, rfl⟩
  clear h hr
  go_enter Try.func36, Try.ntmps36
  go_wp2_with fail
  go_loopw [9, 10] (fun p q wr => ∃ lo hi : Nat, p = .int .i64 lo ∧ q = .int .i64 hi ∧ lo ≤ hi ∧ hi ≤ l.length ∧ Hid (∀ k, k < lo → Exts.fin (l.getD k (0, 0, 0)) ≤ t) ∧ Hid (∀ k, hi ≤ k → k < l.length → t < Exts.fin (l.getD k (0, 0, 0))) ∧ Hid (Below w.heap.size w wr)) (fun p q _ => (intOf q).toNat - (intOf p).toNat)
  case atStart => exact ⟨0, l.length, rfl, rfl, by omega, by omega, Lib.hid (fun k hk => absurd hk (Nat.not_lt_zero _)), Lib.hid (fun k h1 h2 => absurd h2 (by omega)), Lib.hid (Below.refl _ _)⟩
  case round =>
    obtain ⟨lo, hi, rfl, rfl, hlh, hin, hA, hB, hb⟩ := hrel
    by_cases hlt : lo < hi
    · obtain ⟨m, hm⟩ : ∃ m, (lo + hi) / 2 = m := ⟨_, rfl⟩
      have hml : m < l.length := by omega
      obtain ⟨_, g, off, rfl, c0, c1, c2⟩ := (H.out.below (B := 0) hb.out).cells m hml
      have hmy := Exts.row_at HR.out hml
      have hmI : ((lo : Int) + (hi : Int)) / 2 = (m : Int) := by omega
      have i0 : (0 : Int) ≤ (m : Int) := by omega
      have i1 : (m : Int) < (l.length : Int) := by omega
      have jm : lo ≤ m ∧ m < hi := by omega
      by_cases hc : Exts.fin (l.getD m (0, 0, 0)) ≤ t
      · have hcall := Lib.hid (fun w => find1_lo _ t hmy HT.out hc w)
        have hA' : Hid (∀ k, k < m + 1 → Exts.fin (l.getD k (0, 0, 0)) ≤ t) := Lib.hid (fun k hk => Int.le_trans (Exts.row_mono HR.out (by omega) hml) hc)
        clear hmy hc hm
        generalize l.getD m (0, 0, 0) = x at *
        obtain ⟨xa, xb, xc⟩ := x
        dsimp only at *
        go_wp2_with fail
        refine (hcall.out _).mono ?_
        rintro e w' ⟨rfl, hb'⟩
        have B2 := Lib.hid (hb.out.trans (hb'.mono hb.out.size))
        clear hb'
        go_wp2_with fail
        go_roundw
        case rel => exact ⟨m + 1, hi, by go_num, rfl, by omega, hin, hA', hB, B2⟩
        case measure => simp [intOf]; omega
      · have hcall := Lib.hid (fun w => find1_hi _ t hmy HT.out hc w)
        have hB' : Hid (∀ k, m ≤ k → k < l.length → t < Exts.fin (l.getD k (0, 0, 0))) := Lib.hid (fun k h1 h2 => by have := Exts.row_mono HR.out h1 h2; omega)
        clear hmy hc hm
        generalize l.getD m (0, 0, 0) = x at *
        obtain ⟨xa, xb, xc⟩ := x
        dsimp only at *
        go_wp2_with fail
        refine (hcall.out _).mono ?_
        rintro e w' ⟨rfl, hb'⟩
        have B2 := Lib.hid (hb.out.trans (hb'.mono hb.out.size))
        clear hb'
        go_wp2_with fail
        go_roundw
        case rel => exact ⟨lo, m, rfl, rfl, by omega, by omega, hA, hB', B2⟩
        case measure => simp [intOf]; omega
    · obtain rfl : hi = lo := by omega
      by_cases hn : hi < l.length
      · obtain ⟨_, g, off, rfl, c0, c1, c2⟩ := (H.out.below (B := 0) hb.out).cells hi hn
        have hmy := Exts.row_at HR.out hn
        have i0 : (0 : Int) ≤ (hi : Int) := by omega
        have i1 : (hi : Int) < (l.length : Int) := by omega
        have hc : ¬ Exts.fin (l.getD hi (0, 0, 0)) ≤ t := by have := hB.out hi (Nat.le_refl _) hn; omega
        have hcall := Lib.hid (fun w => find1_hi _ t hmy HT.out hc w)
        have HS : Hid (Exts.Search l t hi) := Lib.hid ⟨hin, hA.out, hB.out⟩
        clear hmy hc
        generalize l.getD hi (0, 0, 0) = x at *
        obtain ⟨xa, xb, xc⟩ := x
        dsimp only at *
        go_wp2_with fail
        refine (hcall.out _).mono ?_
        rintro e w' ⟨rfl, hb'⟩
        have B2 := Lib.hid (hb.out.trans (hb'.mono hb.out.size))
        clear hb'
        go_wp2_with fail
        go_ret2
        exact ⟨_, rfl, HS.out, B2.out⟩
      · have HS : Hid (Exts.Search l t hi) := Lib.hid ⟨hin, hA.out, hB.out⟩
        have i1 : ¬ (hi : Int) < (l.length : Int) := by omega
        have i2 : decide ((hi : Int) < (l.length : Int)) = false := decide_eq_false i1
        go_wp2_with fail
        go_ret2
        exact ⟨_, rfl, HS.out, hb.out⟩

end Go.Proofs.Ytgpjldmndibalaa
