/- Bitmaps: the reference's With. -/
import Derived.Test.YtnpgddndelidfaaBitsRef
import Derived.Deep.RegionHeld3
namespace Go.Proofs.Ytnpgddndelidfaa
open Go Go.RowKit

theorem set_mid (l : List UInt8) (q : Nat) (x : UInt8) (h : q < l.length) : l.take q ++ [x] ++ l.drop (q + 1) = l.set q x := by
  rw [List.set_eq_take_append_cons_drop, if_pos h]; simp

theorem text_mid (s : ByteArray) (q : Nat) (x : UInt8) (h : q < s.size) : s.extract 0 q ++ txt [x] ++ s.extract (q + 1) s.size = txt (s.data.toList.set q x) := by
  have h' : q < s.data.toList.length := by rw [len_bytes]; exact h
  rw [← set_mid _ _ _ h']
  apply ByteArray.ext
  apply Array.ext'
  have hn : s.data.toList.length = s.size := len_bytes s
  rw [ByteArray.data_append, ByteArray.data_append, ByteArray.data_extract, ByteArray.data_extract, Array.toList_append, Array.toList_append, Array.toList_extract, Array.toList_extract, List.extract_eq_take_drop, List.extract_eq_take_drop, ← hn]
  show (s.data.toList.drop 0).take (q - 0) ++ [x] ++ (s.data.toList.drop (q + 1)).take (s.data.toList.length - (q + 1)) = s.data.toList.take q ++ [x] ++ s.data.toList.drop (q + 1)
  rw [List.drop_zero, Nat.sub_zero, List.take_of_length_le (l := s.data.toList.drop (q + 1)) (by rw [List.length_drop]; exact Nat.le_refl _)]

theorem add_bit (b : UInt8) (m : Nat) (hm : m < 8) (h : bitOf b m = false) : ((b.toNat : Int) + 2 ^ m) % 256 = ((setBit b m true).toNat : Int) := by
  have e : ∀ (n : Fin 256) (m : Fin 8), bitOf (UInt8.ofNat n.val) m.val = false → (((UInt8.ofNat n.val).toNat : Int) + 2 ^ m.val) % 256 = ((setBit (UInt8.ofNat n.val) m.val true).toNat : Int) := by decide +kernel
  have := e ⟨b.toNat, b.toNat_lt⟩ ⟨m, hm⟩
  simp only [UInt8.ofNat_toNat] at this
  exact this h
theorem sub_bit (b : UInt8) (m : Nat) (hm : m < 8) (h : bitOf b m = true) : ((b.toNat : Int) - 2 ^ m) % 256 = ((setBit b m false).toNat : Int) := by
  have e : ∀ (n : Fin 256) (m : Fin 8), bitOf (UInt8.ofNat n.val) m.val = true → (((UInt8.ofNat n.val).toNat : Int) - 2 ^ m.val) % 256 = ((setBit (UInt8.ofNat n.val) m.val false).toNat : Int) := by decide +kernel
  have := e ⟨b.toNat, b.toNat_lt⟩ ⟨m, hm⟩
  simp only [UInt8.ofNat_toNat] at this
  exact this h

set_option maxRecDepth 100000 in
set_option maxHeartbeats 1000000 in
theorem rwith_any (s : ByteArray) (i : Int) (on : Bool) (hs : s.size ≤ 1000000000000) (hi : i ≤ 9223372036854775807) (w : World) :
    Calls Try.prog 13 #[.string s, .int .i64 i, .bool on] w fun e w' => e = .returned (.string (txt (withI s.data.toList i on))) ∧ Below w.heap.size w w' := by
  by_cases h0 : i < 0
  · have hr := Lib.hid (withI_out s.data.toList i on (.inl h0))
    go_enter Try.func13, Try.ntmps13
    go_wp2_with fail
    go_ret
    exact ⟨by rw [hr.out, txt_self]; rfl, Below.refl _ _⟩
  · obtain ⟨k, rfl⟩ := Int.eq_ofNat_of_zero_le (Int.not_lt.1 h0)
    by_cases h1 : k / 8 < s.size
    · have hhas := Lib.hid (rhas_any s k (by omega) hi w)
      have d1 : decide ((s.size : Int) ≤ (k : Int) / 8) = false := by simp; omega
      have hk : k < s.data.toList.length * 8 := by rw [len_bytes]; omega
      have hv : hasI s.data.toList k = has s.data.toList k := by unfold hasI; simp
      have HV := Lib.hid hv
      clear hv
      have hr := Lib.hid (withI_in s.data.toList k on hk)
      by_cases he : has s.data.toList k = on
      · have hsame := Lib.hid (put_same s.data.toList k hk)
        rw [he] at hsame
        have HE := Lib.hid he
        clear he hk
        go_enter Try.func13, Try.ntmps13
        go_wp2_with fail
        refine hhas.out.mono ?_
        rintro e w' ⟨rfl, rfl⟩
        rw [HV.out, HE.out]
        go_wp2_with fail
        go_ret
        exact ⟨by rw [hr.out, hsame.out, txt_self]; rfl, Below.refl _ _⟩
      · have hne : has s.data.toList k = !on := by cases on <;> simpa using he
        have HE := Lib.hid hne
        clear he hne
        have eqb : ((!on) == on) = false := by cases on <;> rfl
        go_enter Try.func13, Try.ntmps13
        go_wp2_with fail
        refine hhas.out.mono ?_
        rintro e w' ⟨rfl, rfl⟩
        rw [HV.out, HE.out]
        go_wp2_with fail
        go_loop [7, 8] (fun x q => ∃ j : Nat, j ≤ k % 8 ∧ q = .int .i64 j ∧ x = .int .u8 ((2 ^ j : Nat) : Int)) (fun _ q => k % 8 - (intOf q).toNat)
        case atStart => exact ⟨0, by omega, rfl, rfl⟩
        case round =>
          obtain ⟨j, hj, rfl, rfl⟩ := hrel
          have hp : 2 ^ j ≤ 128 := Nat.pow_le_pow_right (j := 7) (by decide) (by omega)
          have hp2 := Lib.hid (show 2 ^ (j + 1) = 2 ^ j * 2 from Nat.pow_succ 2 j)
          by_cases hlt : j < k % 8
          · have hp3 : 2 ^ j ≤ 64 := Nat.pow_le_pow_right (j := 6) (by decide) (by omega)
            generalize 2 ^ j = y at *
            go_wp2_with fail
            go_round
            case rel => exact ⟨j + 1, by omega, by go_num, by rw [hp2.out]; go_num⟩
            case measure => simp [intOf]; omega
          · have hjk : j = k % 8 := by omega
            go_wp2_with fail
            · have hbo : bitOf s[k / 8] (k % 8) = false := by
                have := HE.out
                unfold has at this
                rw [getD_bytes s _ h1] at this
                rw [this]; simp [*]
              rw [add_bit s[k / 8] (k % 8) (by omega) hbo]
              generalize hb' : setBit s[k / 8] (k % 8) true = b'
              have hconv : (convert 40 9 (.slice (some ⟨w.heap.size, 0, none⟩) 1 1)).run Try.prog (w.alloc (.cells #[.int .u8 (b'.toNat : Int)] 5)).drew = .ok (.string (txt [b'])) (w.alloc (.cells #[.int .u8 (b'.toNat : Int)] 5)).drew :=
                run_string_of_row (P := Try.prog) (l := [b']) 40 9 5 1 1 rfl Try.underlying40 Try.underlying5 Try.underlying9 (Row.new w 5 (bcells [b']) rfl).drew
              have i0 : (0 : Int) ≤ (k : Int) / 8 := by omega
              have i1 : (k : Int) / 8 < s.size := by omega
              have i4 : (0 : Int) ≤ (k : Int) / 8 + 1 := by omega
              have i2 : (k : Int) / 8 ≤ s.size := by omega
              have i3 : (k : Int) / 8 + 1 ≤ s.size := by omega
              have hw8 : IntKind.i64.wrap ((k : Int) / 8) = (k : Int) / 8 := IntWalk.i64_in _ (by omega)
              have hw9 : IntKind.i64.wrap ((k : Int) / 8 + 1) = (k : Int) / 8 + 1 := IntWalk.i64_in _ (by omega)
              have hn8 : ((k : Int) / 8).toNat = k / 8 := by omega
              have hn9 : ((k : Int) / 8 + 1).toNat = k / 8 + 1 := by omega
              have ts : (txt [b']).size = 1 := txt_size _
              have f1 : ¬ 9223372036854775807 < min (k / 8) s.size + (txt [b']).size := by omega
              have f2 : ¬ 9223372036854775807 < min (k / 8) s.size + (txt [b']).size + (s.size - (k / 8 + 1)) := by omega
              clear ts
              go_region
              go_wp2_with fail
              go_ret
              exact ⟨by rw [hr.out]; exact ret_of (by show Value.string (s.extract 0 (k / 8) ++ txt [b'] ++ s.extract (k / 8 + 1) s.size) = _; rw [text_mid s (k / 8) b' h1, ← hb', ← getD_bytes s _ h1]; simp [put, *]), ((Below.refl _ _).alloc (Nat.le_refl _) _).drew⟩
            · have hbo : bitOf s[k / 8] (k % 8) = true := by
                have := HE.out
                unfold has at this
                rw [getD_bytes s _ h1] at this
                rw [this]; simp [*]
              rw [sub_bit s[k / 8] (k % 8) (by omega) hbo]
              generalize hb' : setBit s[k / 8] (k % 8) false = b'
              have hconv : (convert 40 9 (.slice (some ⟨w.heap.size, 0, none⟩) 1 1)).run Try.prog (w.alloc (.cells #[.int .u8 (b'.toNat : Int)] 5)).drew = .ok (.string (txt [b'])) (w.alloc (.cells #[.int .u8 (b'.toNat : Int)] 5)).drew :=
                run_string_of_row (P := Try.prog) (l := [b']) 40 9 5 1 1 rfl Try.underlying40 Try.underlying5 Try.underlying9 (Row.new w 5 (bcells [b']) rfl).drew
              have i0 : (0 : Int) ≤ (k : Int) / 8 := by omega
              have i1 : (k : Int) / 8 < s.size := by omega
              have i4 : (0 : Int) ≤ (k : Int) / 8 + 1 := by omega
              have i2 : (k : Int) / 8 ≤ s.size := by omega
              have i3 : (k : Int) / 8 + 1 ≤ s.size := by omega
              have hw8 : IntKind.i64.wrap ((k : Int) / 8) = (k : Int) / 8 := IntWalk.i64_in _ (by omega)
              have hw9 : IntKind.i64.wrap ((k : Int) / 8 + 1) = (k : Int) / 8 + 1 := IntWalk.i64_in _ (by omega)
              have hn8 : ((k : Int) / 8).toNat = k / 8 := by omega
              have hn9 : ((k : Int) / 8 + 1).toNat = k / 8 + 1 := by omega
              have ts : (txt [b']).size = 1 := txt_size _
              have f1 : ¬ 9223372036854775807 < min (k / 8) s.size + (txt [b']).size := by omega
              have f2 : ¬ 9223372036854775807 < min (k / 8) s.size + (txt [b']).size + (s.size - (k / 8 + 1)) := by omega
              clear ts
              go_region
              go_wp2_with fail
              go_ret
              exact ⟨by rw [hr.out]; exact ret_of (by show Value.string (s.extract 0 (k / 8) ++ txt [b'] ++ s.extract (k / 8 + 1) s.size) = _; rw [text_mid s (k / 8) b' h1, ← hb', ← getD_bytes s _ h1]; simp [put, *]), ((Below.refl _ _).alloc (Nat.le_refl _) _).drew⟩
    · have hr := Lib.hid (withI_out s.data.toList k on (.inr (by rw [len_bytes]; omega)))
      have d1 : decide ((s.size : Int) ≤ (k : Int) / 8) = true := by simp; omega
      go_enter Try.func13, Try.ntmps13
      go_wp2_with fail
      go_ret
      exact ⟨by rw [hr.out, txt_self]; rfl, Below.refl _ _⟩

end Go.Proofs.Ytnpgddndelidfaa
