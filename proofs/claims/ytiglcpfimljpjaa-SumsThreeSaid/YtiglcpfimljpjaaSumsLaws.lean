/- The sums: the laws' own texts answer true. -/
import Derived.Test.YtiglcpfimljpjaaSumsAlive
namespace Go.Proofs.Ytiglcpfimljpjaa
open Go Go.RowKit

theorem SumsOf_walk (s : ByteArray) (x : W32) (hs : s.size ≤ 9223372036854775807) (w : World) :
    Calls Try.prog 3 #[.string s, .int .u32 (u32 x)] w fun e w' => e = .returned (.bool true) ∧ Below w.heap.size w w' := by
  by_cases hbig : 20000 < s.size
  · go_enter Try.func3, Try.ntmps3
    go_wp2_with fail
    go_ret
    exact ⟨rfl, Below.refl _ _⟩
  · go_enter Try.func3, Try.ntmps3
    go_wp2_with (first
      | (go_at_call 10; refine (sum_any _ hs _).mono ?_; rintro e w' ⟨rfl, rfl⟩)
      | (go_at_call 11; refine (rsum_any _ hs _).mono ?_; rintro e w' ⟨rfl, rfl⟩)
      | (go_at_call 12; refine (more_any _ _ hs _).mono ?_; rintro e w' ⟨rfl, rfl⟩)
      | (go_at_call 13; refine (rmore_any _ _ hs _).mono ?_; rintro e w' ⟨rfl, rfl⟩)
      | (go_at_call 14; refine (alive_any _).mono ?_; rintro e w' ⟨rfl, hb⟩))
    go_ret
    exact ⟨rfl, by assumption⟩

theorem SumsJoins_walk (a b : W32) (n : Int) (w : World) :
    Calls Try.prog 4 #[.int .u32 (u32 a), .int .u32 (u32 b), .int .i64 n] w fun e w' => e = .returned (.bool true) ∧ Below w.heap.size w w' := by
  rcases (by omega : n < 0 ∨ 1073741824 < n ∨ (0 ≤ n ∧ n ≤ 20000) ∨ (20000 < n ∧ n ≤ 1073741824)) with h | h | h | h
  · go_enter Try.func4, Try.ntmps4
    go_wp2_with (first
      | (go_at_call 15; refine (join_no _ _ _ (.inl h) _).mono ?_; rintro e w' ⟨rfl, rfl⟩)
      | (go_at_call 16; refine (rjoin_no _ _ _ (.inl h) _).mono ?_; rintro e w' ⟨rfl, rfl⟩)
      | (go_at_call 14; refine (alive_any _).mono ?_; rintro e w' ⟨rfl, hb⟩))
    go_ret
    exact ⟨rfl, by assumption⟩
  · have h2 : 20000 < n := by omega
    go_enter Try.func4, Try.ntmps4
    go_wp2_with (first
      | (go_at_call 15; refine (join_no _ _ _ (.inr h) _).mono ?_; rintro e w' ⟨rfl, rfl⟩)
      | (go_at_call 16; refine (rjoin_no _ _ _ (.inr h) _).mono ?_; rintro e w' ⟨rfl, rfl⟩)
      | (go_at_call 14; refine (alive_any _).mono ?_; rintro e w' ⟨rfl, hb⟩))
    go_ret
    exact ⟨rfl, by assumption⟩
  · obtain ⟨k, rfl⟩ := Int.eq_ofNat_of_zero_le h.1
    have h2 : k ≤ 1073741824 := by omega
    have h3 := h.2
    go_enter Try.func4, Try.ntmps4
    go_wp2_with (first
      | (go_at_call 15; refine (join_yes _ _ _ h2 _).mono ?_; rintro e w1 ⟨rfl, hb1⟩)
      | (go_at_call 16; refine (rjoin_yes _ _ _ h2 _).mono ?_; rintro e w' ⟨rfl, rfl⟩)
      | (go_at_call 14; refine (alive_any _).mono ?_; rintro e w2 ⟨rfl, hb2⟩))
    go_ret
    exact ⟨rfl, hb1.trans (hb2.mono hb1.size)⟩
  · have h2 := h.1
    have h3 := h.2
    go_enter Try.func4, Try.ntmps4
    go_wp2_with fail
    go_ret
    exact ⟨rfl, Below.refl _ _⟩

theorem SumsCut_walk (a b : ByteArray) (ha : a.size ≤ 9223372036854775807) (hb : b.size ≤ 9223372036854775807) (w : World) :
    Calls Try.prog 5 #[.string a, .string b] w fun e w' => e = .returned (.bool true) ∧ Below w.heap.size w w' := by
  by_cases h1 : 100000 < a.size
  · go_enter Try.func5, Try.ntmps5
    go_wp2_with fail
    go_ret
    exact ⟨rfl, Below.refl _ _⟩
  by_cases h2 : 100000 < b.size
  · go_enter Try.func5, Try.ntmps5
    go_wp2_with fail
    go_ret
    exact ⟨rfl, Below.refl _ _⟩
  have hm := Lib.hid (more_append 0#32 a.data.toList b.data.toList)
  have hj := Lib.hid (more_join a.data.toList b.data.toList)
  have hl : b.data.toList.length = b.size := by rw [Array.length_toList]; rfl
  rw [hl] at hj
  have hd : (a ++ b).data.toList = a.data.toList ++ b.data.toList := by rw [ByteArray.data_append, Array.toList_append]
  have hs : (a ++ b).size ≤ 9223372036854775807 := by rw [ByteArray.size_append]; omega
  have HD := Lib.hid hd
  have HS := Lib.hid hs
  clear hd hl hs
  go_enter Try.func5, Try.ntmps5
  go_wp2_with fail
  refine (sum_any a ha _).mono ?_
  rintro e w' ⟨rfl, rfl⟩
  go_wp2_with fail
  refine (sum_any b hb _).mono ?_
  rintro e w' ⟨rfl, rfl⟩
  go_wp2_with fail
  refine (join_yes _ _ b.size (by omega) _).mono ?_
  rintro e w1 ⟨rfl, hb1⟩
  rw [← hj.out]
  go_wp2_with fail
  refine (sum_any a ha _).mono ?_
  rintro e w' ⟨rfl, rfl⟩
  go_wp2_with fail
  refine (more_any _ b hb _).mono ?_
  rintro e w' ⟨rfl, rfl⟩
  rw [← hm.out]
  go_wp2_with fail
  refine (sum_any (a ++ b) HS.out _).mono ?_
  rintro e w' ⟨rfl, rfl⟩
  rw [HD.out]
  go_wp2_with fail
  refine (sum_any (a ++ b) HS.out _).mono ?_
  rintro e w' ⟨rfl, rfl⟩
  rw [HD.out]
  go_wp2_with fail
  refine (alive_any _).mono ?_
  rintro e w2 ⟨rfl, hb2⟩
  go_wp2_with fail
  go_ret
  exact ⟨rfl, hb1.trans (hb2.mono hb1.size)⟩

theorem SumsNothing_walk (x : W32) (s : ByteArray) (n : Int) (hs : s.size ≤ 9223372036854775807) (w : World) :
    Calls Try.prog 9 #[.int .u32 (u32 x), .string s, .int .i64 n] w fun e w' => e = .returned (.bool true) ∧ Below w.heap.size w w' := by
  by_cases h1 : 20000 < s.size
  · go_enter Try.func9, Try.ntmps9
    go_wp2_with fail
    go_ret
    exact ⟨rfl, Below.refl _ _⟩
  have hj0 : join x 0#32 0 = x := by simp [join, iter]
  have hj1 : ∀ k, join 0#32 x k = x := fun k => by simp [join, z8_linear.iter k |>.zero]
  have HJ0 := Lib.hid hj0
  have HJ1 := Lib.hid hj1
  clear hj0 hj1
  have e0 : more 0#32 (⟨#[]⟩ : ByteArray).data.toList = 0#32 := more_nil 0#32
  have e1 : more x (⟨#[]⟩ : ByteArray).data.toList = x := more_nil x
  have E0 := Lib.hid e0
  have E1 := Lib.hid e1
  clear e0 e1
  have z0 : (u32 0#32 == 0) = true := by decide
  rcases (by omega : n < 0 ∨ 1073741824 < n ∨ (0 ≤ n ∧ n ≤ 1073741824)) with h | h | h
  · have d0 : decide (0 ≤ n) = false := by simp; omega
    go_enter Try.func9, Try.ntmps9
    go_wp2_with fail
    refine (join_yes x 0#32 0 (by decide) _).mono ?_
    rintro e w1 ⟨rfl, hb1⟩
    rw [HJ0.out]
    go_wp2_with fail
    refine (join_no 0#32 x n (.inl h) _).mono ?_
    rintro e w' ⟨rfl, rfl⟩
    go_wp2_with fail
    refine (sum_any ⟨#[]⟩ (by decide) _).mono ?_
    rintro e w' ⟨rfl, rfl⟩
    rw [E0.out]
    go_wp2_with fail
    refine (more_any x ⟨#[]⟩ (by decide) _).mono ?_
    rintro e w' ⟨rfl, rfl⟩
    rw [E1.out]
    go_wp2_with fail
    refine (more_any 0#32 s hs _).mono ?_
    rintro e w' ⟨rfl, rfl⟩
    go_wp2_with fail
    refine (sum_any s hs _).mono ?_
    rintro e w' ⟨rfl, rfl⟩
    go_wp2_with fail
    refine (alive_any _).mono ?_
    rintro e w2 ⟨rfl, hb2⟩
    go_wp2_with fail
    go_ret
    exact ⟨rfl, hb1.trans (hb2.mono hb1.size)⟩
  · have d0 : decide (0 ≤ n) = true := by simp; omega
    have d1 : decide (n ≤ 1073741824) = false := by simp; omega
    go_enter Try.func9, Try.ntmps9
    go_wp2_with fail
    refine (join_yes x 0#32 0 (by decide) _).mono ?_
    rintro e w1 ⟨rfl, hb1⟩
    rw [HJ0.out]
    go_wp2_with fail
    refine (join_no 0#32 x n (.inr h) _).mono ?_
    rintro e w' ⟨rfl, rfl⟩
    go_wp2_with fail
    refine (sum_any ⟨#[]⟩ (by decide) _).mono ?_
    rintro e w' ⟨rfl, rfl⟩
    rw [E0.out]
    go_wp2_with fail
    refine (more_any x ⟨#[]⟩ (by decide) _).mono ?_
    rintro e w' ⟨rfl, rfl⟩
    rw [E1.out]
    go_wp2_with fail
    refine (more_any 0#32 s hs _).mono ?_
    rintro e w' ⟨rfl, rfl⟩
    go_wp2_with fail
    refine (sum_any s hs _).mono ?_
    rintro e w' ⟨rfl, rfl⟩
    go_wp2_with fail
    refine (alive_any _).mono ?_
    rintro e w2 ⟨rfl, hb2⟩
    go_wp2_with fail
    go_ret
    exact ⟨rfl, hb1.trans (hb2.mono hb1.size)⟩
  · obtain ⟨k, rfl⟩ := Int.eq_ofNat_of_zero_le h.1
    have h2 : k ≤ 1073741824 := by omega
    have d0 : decide (0 ≤ (k : Int)) = true := by simp
    have d1 : decide ((k : Int) ≤ 1073741824) = true := by simp; omega
    go_enter Try.func9, Try.ntmps9
    go_wp2_with fail
    refine (join_yes x 0#32 0 (by decide) _).mono ?_
    rintro e w1 ⟨rfl, hb1⟩
    rw [HJ0.out]
    go_wp2_with fail
    refine (join_yes 0#32 x k h2 _).mono ?_
    rintro e w3 ⟨rfl, hb3⟩
    rw [HJ1.out]
    have hb13 := hb1.trans (hb3.mono hb1.size)
    go_wp2_with fail
    refine (sum_any ⟨#[]⟩ (by decide) _).mono ?_
    rintro e w' ⟨rfl, rfl⟩
    rw [E0.out]
    go_wp2_with fail
    refine (more_any x ⟨#[]⟩ (by decide) _).mono ?_
    rintro e w' ⟨rfl, rfl⟩
    rw [E1.out]
    go_wp2_with fail
    refine (more_any 0#32 s hs _).mono ?_
    rintro e w' ⟨rfl, rfl⟩
    go_wp2_with fail
    refine (sum_any s hs _).mono ?_
    rintro e w' ⟨rfl, rfl⟩
    go_wp2_with fail
    refine (alive_any _).mono ?_
    rintro e w2 ⟨rfl, hb2⟩
    go_wp2_with fail
    go_ret
    exact ⟨rfl, hb13.trans (hb2.mono hb13.size)⟩

end Go.Proofs.Ytiglcpfimljpjaa
