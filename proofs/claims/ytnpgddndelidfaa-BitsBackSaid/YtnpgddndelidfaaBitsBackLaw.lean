/- Bitmaps: the law that a bit set back leaves the text. -/
import Derived.Test.YtnpgddndelidfaaBitsAlive
namespace Go.Proofs.Ytnpgddndelidfaa
open Go Go.RowKit

theorem hasI_put (l : List UInt8) (k : Nat) (o : Int) (on : Bool) (h : k < l.length * 8) (hne : o ≠ (k : Int)) : hasI (put l k on) o = hasI l o := by
  unfold hasI
  by_cases h0 : 0 ≤ o
  · rw [has_put l k o.toNat on h, if_neg (by omega)]
  · have : decide (0 ≤ o) = false := by simp; omega
    rw [this]; simp

set_option maxHeartbeats 2000000 in
theorem BitsBack_walk (s : ByteArray) (i other : Int) (hs : s.size ≤ 9223372036854775807) (hi : -9223372036854775808 ≤ i ∧ i ≤ 9223372036854775807) (ho : -9223372036854775808 ≤ other ∧ other ≤ 9223372036854775807) (w : World) :
    Calls Try.prog 6 #[.string s, .int .i64 i, .int .i64 other] w fun e w' => e = .returned (.bool true) ∧ Below w.heap.size w w' := by
  by_cases h1 : 2000 < s.size
  · go_enter Try.func6, Try.ntmps6
    go_wp2_with fail
    go_ret
    exact ⟨rfl, Below.refl _ _⟩
  · by_cases hout : i < 0 ∨ (s.data.toList.length : Int) * 8 ≤ i
    · have hb : hasI s.data.toList i = false := by
        unfold hasI
        rcases hout with h | h
        · have : decide (0 ≤ i) = false := by simp; omega
          rw [this]; simp
        · rw [has_out _ _ (by omega)]; simp
      have hh := Lib.hid (fun w => has_any s i hs hi.2 w)
      have hw := Lib.hid (fun w => with_any s i true (by omega) hi.2 w)
      rw [hb] at hh
      rw [withI_out _ _ _ hout, txt_self] at hw
      rw [len_bytes] at hout
      clear hb
      by_cases h0 : i < 0
      · clear hout
        go_enter Try.func6, Try.ntmps6
        go_wp2_with fail
        refine (hh.out _).mono ?_
        rintro e w' ⟨rfl, rfl⟩
        go_wp2_with fail
        refine (hw.out _).mono ?_
        rintro e w1 ⟨rfl, hb1⟩
        go_wp2_with fail
        refine (alive_any _).mono ?_
        rintro e w3 ⟨rfl, hb3⟩
        have B3 := hb1.trans (hb3.mono hb1.size)
        go_wp2_with fail
        go_ret
        exact ⟨rfl, B3⟩
      · obtain ⟨k, rfl⟩ := Int.eq_ofNat_of_zero_le (Int.not_lt.1 h0)
        have d1 : decide ((s.size : Int) ≤ (k : Int) / 8) = true := by simp; omega
        go_enter Try.func6, Try.ntmps6
        go_wp2_with fail
        refine (hh.out _).mono ?_
        rintro e w' ⟨rfl, rfl⟩
        go_wp2_with fail
        refine (hw.out _).mono ?_
        rintro e w1 ⟨rfl, hb1⟩
        go_wp2_with fail
        refine (alive_any _).mono ?_
        rintro e w3 ⟨rfl, hb3⟩
        have B3 := hb1.trans (hb3.mono hb1.size)
        go_wp2_with fail
        go_ret
        exact ⟨rfl, B3⟩
    · obtain ⟨k, rfl⟩ := Int.eq_ofNat_of_zero_le (show 0 ≤ i by omega)
      have hk : k < s.data.toList.length * 8 := by omega
      have hh := Lib.hid (fun w => has_any s k hs hi.2 w)
      have hoh := Lib.hid (fun w => has_any s other hs ho.2 w)
      rw [hasI_nat] at hh
      generalize hb : has s.data.toList k = b at hh
      have hw := Lib.hid (fun w => with_any s k (!b) (by omega) hi.2 w)
      have hw2 := Lib.hid (fun w => with_any s k b (by omega) hi.2 w)
      rw [withI_in _ _ _ hk] at hw hw2
      rw [← hb, put_same _ _ hk, txt_self, hb] at hw2
      have htl : (txt (put s.data.toList k (!b))).size = s.size := by rw [txt_size, put_length, len_bytes]
      have hth := Lib.hid (fun w => has_any (txt (put s.data.toList k (!b))) k (by omega) hi.2 w)
      rw [txt_bytes, hasI_nat, has_put _ _ _ _ hk, if_pos rfl] at hth
      have hto := Lib.hid (fun w => has_any (txt (put s.data.toList k (!b))) other (by omega) ho.2 w)
      have hwb := Lib.hid (fun w => with_any (txt (put s.data.toList k (!b))) k b (by omega) hi.2 w)
      rw [txt_bytes, withI_in _ _ _ (by rw [put_length]; exact hk), put_put _ _ _ _ hk, ← hb, put_same _ _ hk, txt_self, hb] at hwb
      have d1 : decide ((s.size : Int) ≤ (k : Int) / 8) = false := by rw [len_bytes] at hk; simp; omega
      by_cases hoi : other = (k : Int)
      · clear hoh hto
        subst hoi
        generalize txt (put s.data.toList k (!b)) = t at *
        clear hb hout hk
        go_enter Try.func6, Try.ntmps6
        go_wp2_with fail
        refine (hh.out _).mono ?_
        rintro e w' ⟨rfl, rfl⟩
        go_wp2_with fail
        refine (hw.out _).mono ?_
        rintro e w1 ⟨rfl, hb1⟩
        go_wp2_with fail
        refine (hth.out _).mono ?_
        rintro e w' ⟨rfl, rfl⟩
        go_wp2_with fail
        refine (hwb.out _).mono ?_
        rintro e w2 ⟨rfl, hb2⟩
        have B2 := hb1.trans (hb2.mono hb1.size)
        go_wp2_with fail
        refine (hw2.out _).mono ?_
        rintro e w3 ⟨rfl, hb3⟩
        have B3 := B2.trans (hb3.mono B2.size)
        go_wp2_with fail
        refine (alive_any _).mono ?_
        rintro e w4 ⟨rfl, hb4⟩
        have B4 := B3.trans (hb4.mono B3.size)
        go_wp2_with fail
        go_ret
        exact ⟨rfl, B4⟩
      · rw [txt_bytes, hasI_put _ _ _ _ hk hoi] at hto
        generalize hasI s.data.toList other = c at *
        generalize txt (put s.data.toList k (!b)) = t at *
        have q1 : (other == (k : Int)) = false := by rw [beq_eq_false_iff_ne]; exact hoi
        clear hb hout hk
        go_enter Try.func6, Try.ntmps6
        go_wp2_with fail
        refine (hh.out _).mono ?_
        rintro e w' ⟨rfl, rfl⟩
        go_wp2_with fail
        refine (hw.out _).mono ?_
        rintro e w1 ⟨rfl, hb1⟩
        go_wp2_with fail
        refine (hth.out _).mono ?_
        rintro e w' ⟨rfl, rfl⟩
        go_wp2_with fail
        refine (hto.out _).mono ?_
        rintro e w' ⟨rfl, rfl⟩
        go_wp2_with fail
        refine (hoh.out _).mono ?_
        rintro e w' ⟨rfl, rfl⟩
        go_wp2_with fail
        refine (hwb.out _).mono ?_
        rintro e w2 ⟨rfl, hb2⟩
        have B2 := hb1.trans (hb2.mono hb1.size)
        go_wp2_with fail
        refine (hw2.out _).mono ?_
        rintro e w3 ⟨rfl, hb3⟩
        have B3 := B2.trans (hb3.mono B2.size)
        go_wp2_with fail
        refine (alive_any _).mono ?_
        rintro e w4 ⟨rfl, hb4⟩
        have B4 := B3.trans (hb4.mono B3.size)
        go_wp2_with fail
        go_ret
        exact ⟨rfl, B4⟩

end Go.Proofs.Ytnpgddndelidfaa
