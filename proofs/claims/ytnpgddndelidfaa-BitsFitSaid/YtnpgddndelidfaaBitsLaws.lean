/- Bitmaps: the laws of the document's answer. -/
import Derived.Test.YtnpgddndelidfaaBitsAlive
namespace Go.Proofs.Ytnpgddndelidfaa
open Go Go.RowKit

set_option maxHeartbeats 1000000 in
theorem BitsHave_walk (s : ByteArray) (i : Int) (on : Bool) (hs : s.size ≤ 9223372036854775807) (hi : -9223372036854775808 ≤ i ∧ i ≤ 9223372036854775807) (w : World) :
    Calls Try.prog 3 #[.string s, .int .i64 i, .bool on] w fun e w' => e = .returned (.bool true) ∧ Below w.heap.size w w' := by
  by_cases h1 : 2000 < s.size
  · go_enter Try.func3, Try.ntmps3
    go_wp2_with fail
    go_ret
    exact ⟨rfl, Below.refl _ _⟩
  · have hh := Lib.hid (fun w => has_any s i hs hi.2 w)
    have hr := Lib.hid (fun w => rhas_any s i hs hi.2 w)
    have hw := Lib.hid (fun w => with_any s i on (by omega) hi.2 w)
    have hv := Lib.hid (fun w => rwith_any s i on (by omega) hi.2 w)
    generalize hasI s.data.toList i = b at *
    generalize txt (withI s.data.toList i on) = t at *
    clear hi
    go_enter Try.func3, Try.ntmps3
    go_wp2_with fail
    refine (hh.out _).mono ?_
    rintro e w' ⟨rfl, rfl⟩
    go_wp2_with fail
    refine (hr.out _).mono ?_
    rintro e w' ⟨rfl, rfl⟩
    go_wp2_with fail
    refine (hw.out _).mono ?_
    rintro e w1 ⟨rfl, hb1⟩
    go_wp2_with fail
    refine (hv.out _).mono ?_
    rintro e w2 ⟨rfl, hb2⟩
    have B2 := hb1.trans (hb2.mono hb1.size)
    clear hb1 hb2
    go_wp2_with fail
    refine (alive_any _).mono ?_
    rintro e w3 ⟨rfl, hb3⟩
    have B3 := B2.trans (hb3.mono B2.size)
    clear B2 hb3
    go_wp2_with fail
    go_ret
    exact ⟨rfl, B3⟩

set_option maxHeartbeats 1000000 in
theorem BitsFit_walk (s : ByteArray) (n size frm : Int) (hs : s.size ≤ 9223372036854775807) (hn : -9223372036854775808 ≤ n ∧ n ≤ 9223372036854775807)
    (hsz : -9223372036854775808 ≤ size ∧ size ≤ 9223372036854775807) (hfr : -9223372036854775808 ≤ frm ∧ frm ≤ 9223372036854775807) (w : World) :
    Calls Try.prog 5 #[.string s, .int .i64 n, .agg #[.int .i64 size, .int .i64 frm]] w fun e w' => e = .returned (.bool true) ∧ Below w.heap.size w w' := by
  by_cases h1 : 600 < s.size
  · go_enter Try.func5, Try.ntmps5
    go_wp2_with fail
    go_ret
    exact ⟨rfl, (Below.refl _ _).alloc (Nat.le_refl _) _⟩
  · have hh := Lib.hid (fun w => find_any s n frm (by omega) hn hfr w)
    have hr := Lib.hid (fun w => rfind_any s n frm (by omega) hn hfr w)
    have hw := Lib.hid (fun w => fit_any s n size frm (by omega) hn hsz hfr w)
    have hv := Lib.hid (fun w => rfit_any s n size frm (by omega) hn hsz hfr w)
    generalize runsTo s.data.toList (firstN s.data.toList n) = L at *
    generalize fitOf 1 frm L = F1 at *
    generalize fitOf size frm L = F2 at *
    obtain ⟨⟨k, kl⟩, ok⟩ := F1
    obtain ⟨⟨x1, x2⟩, f⟩ := F2
    clear hn hsz hfr
    go_enter Try.func5, Try.ntmps5
    go_wp2_with fail
    have B0 : Below w.heap.size w (w.alloc (.cells #[.int .i64 size, .int .i64 frm] 33)) := (Below.refl _ _).alloc (Nat.le_refl _) _
    have r0 : Row (w.alloc (.cells #[.int .i64 size, .int .i64 frm] 33)) w.heap.size 33 [.int .i64 size, .int .i64 frm] := Row.new _ _ [_, _] rfl
    refine (hh.out _).mono ?_
    rintro e w1 ⟨rfl, hb⟩
    have r1 := r0.below hb r0.lt
    have B1 := B0.trans (hb.mono B0.size)
    clear hb r0 B0
    have z1 := r1.cellAt 1 rfl
    go_wp2_with fail
    refine (hr.out _).mono ?_
    rintro e w2 ⟨rfl, hb⟩
    have r2 := r1.below hb r1.lt
    have B2 := B1.trans (hb.mono B1.size)
    clear hb r1 B1 z1
    have z1 := r2.cellAt 0 rfl
    have z2 := r2.cellAt 1 rfl
    go_wp2_with fail
    refine (hw.out _).mono ?_
    rintro e w3 ⟨rfl, hb⟩
    have r3 := (r2.below hb r2.lt).alloc (.cells #[.int .i64 x1, .int .i64 x2] 31)
    have B3 := (B2.trans (hb.mono B2.size)).alloc (by have := hb.size; have := B2.size; omega) (.cells #[.int .i64 x1, .int .i64 x2] 31)
    clear hb r2 B2 z1 z2
    have q3 : Row (w3.alloc (.cells #[.int .i64 x1, .int .i64 x2] 31)) w3.heap.size 31 [.int .i64 x1, .int .i64 x2] := Row.new _ _ [_, _] rfl
    have z1 := r3.cellAt 0 rfl
    have z2 := r3.cellAt 1 rfl
    simp only [runV]
    go_wp2_with fail
    refine (hv.out _).mono ?_
    rintro e w4 ⟨rfl, hb⟩
    have q4 := (q3.below hb q3.lt).alloc (.cells #[.int .i64 x1, .int .i64 x2] 31)
    have B4 := (B3.trans (hb.mono B3.size)).alloc (by have := hb.size; have := B3.size; omega) (.cells #[.int .i64 x1, .int .i64 x2] 31)
    clear hb r3 B3 z1 z2 q3
    have z1 := q4.cellAt 0 rfl
    have z2 := q4.cellAt 1 rfl
    simp only [runV]
    go_wp2_with fail
    refine (alive_any _).mono ?_
    rintro e w5 ⟨rfl, hb⟩
    have B5 := B4.trans (hb.mono B4.size)
    go_wp2_with fail
    go_ret
    exact ⟨rfl, B5⟩

end Go.Proofs.Ytnpgddndelidfaa
