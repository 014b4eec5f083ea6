/- Bitmaps: the law of the bit that is taken. -/
import Derived.Test.YtnpgddndelidfaaBitsFound
import Derived.Test.YtnpgddndelidfaaBitsCountLaw
namespace Go.Proofs.Ytnpgddndelidfaa
open Go Go.RowKit

theorem free_len (s : ByteArray) (n : Int) (hs : s.size ≤ 100000000) (hn : -9223372036854775808 ≤ n ∧ n ≤ 9223372036854775807) (d : Nat) (hd : (runsTo s.data.toList (firstN s.data.toList n)).length = d) (w : World) :
    Calls Try.prog 15 #[.string s, .int .i64 n] w fun e w' => ∃ ad cap, e = .returned (.slice ad d cap) ∧ Below w.heap.size w w' := by
  refine (free_any s n hs hn w).mono ?_
  rintro e w' ⟨v, rfl, ho, hb⟩
  obtain ⟨ad, cap, rfl, _⟩ := own_open ho
  rw [ri_length, hd]
  exact ⟨ad, cap, rfl, hb⟩

set_option maxRecDepth 100000 in
set_option maxHeartbeats 4000000 in
theorem BitsTaken_walk (s : ByteArray) (n frm : Int) (hs : s.size ≤ 9223372036854775807) (hn : -9223372036854775808 ≤ n ∧ n ≤ 9223372036854775807) (hfr : -9223372036854775808 ≤ frm ∧ frm ≤ 9223372036854775807) (w : World) :
    Calls Try.prog 9 #[.string s, .int .i64 n, .int .i64 frm] w fun e w' => e = .returned (.bool true) ∧ Below w.heap.size w w' := by
  by_cases h1 : 600 < s.size
  · go_enter Try.func9, Try.ntmps9
    go_wp2_with fail
    go_ret
    exact ⟨rfl, Below.refl _ _⟩
  · have hF1 := fun w => find_any s n frm (by omega) hn hfr w
    have hc := Lib.hid (fun w => count_any s n (by omega) hn w)
    cases hok : (fitOf 1 frm (runsTo s.data.toList (firstN s.data.toList n))).2
    · obtain ⟨hnil, hF⟩ := fit_none_none frm s.data.toList _ hok
      rw [hF] at hF1
      have HF1 := Lib.hid hF1
      have hfl := Lib.hid (fun w => free_len s n (by omega) hn 0 (by rw [hnil]; rfl) w)
      clear hF1 hF hnil hok hc hn hfr
      go_enter Try.func9, Try.ntmps9
      go_wp2_with fail
      refine (HF1.out _).mono ?_
      rintro e w1 ⟨rfl, hb1⟩
      go_wp2_with fail
      refine (hfl.out _).mono ?_
      rintro e w2 ⟨ad, cap, rfl, hb2⟩
      have B2 := hb1.trans (hb2.mono hb1.size)
      go_wp2_with fail
      refine (alive_any _).mono ?_
      rintro e w3 ⟨rfl, hb3⟩
      have B3 := B2.trans (hb3.mono B2.size)
      go_wp2_with fail
      go_ret
      exact ⟨rfl, B3⟩
    · obtain ⟨k, hk, hfind⟩ := find_spec frm s.data.toList _ hok
      rw [hk, hok] at hF1
      have hNle := firstN_le s.data.toList n
      have hkN := hfind.zero.1
      have hkz := hfind.zero.2
      have hkl : k < s.data.toList.length * 8 := by omega
      have hksz : k < s.size * 8 := by rw [len_bytes] at hkl; exact hkl
      have hw := fun w => with_any s k true (by omega) (by omega) w
      have hNt : firstN (txt (put s.data.toList k true)).data.toList n = firstN s.data.toList n := by
        rw [txt_bytes]; unfold firstN; rw [put_length]
      have htl : (txt (put s.data.toList k true)).size = s.size := by rw [txt_size, put_length, len_bytes]
      have hF2 := fun w => find_any (txt (put s.data.toList k true)) n frm (by omega) hn hfr w
      have hF3 := fun w => find_any (txt (put s.data.toList k true)) n ((k : Int) + 1) (by omega) hn (by omega) w
      have hct := fun w => count_any (txt (put s.data.toList k true)) n (by omega) hn w
      have hft := fun w => free_len (txt (put s.data.toList k true)) n (by omega) hn _ rfl w
      rw [withI_in _ _ _ hkl] at hw
      rw [hNt, txt_bytes] at hF2 hF3 hct hft
      rw [countTo_put _ _ hkl hkz, if_pos hkN] at hct
      have hlen := runsTo_length (put s.data.toList k true) (firstN s.data.toList n)
      have hsame : (fitOf 1 ((k : Int) + 1) (runsTo (put s.data.toList k true) (firstN s.data.toList n))).2 = (fitOf 1 frm (runsTo (put s.data.toList k true) (firstN s.data.toList n))).2 := by rw [fit_ok, fit_ok]
      rw [hsame] at hF3
      have hcase : ∃ (m o : Int) (is : Bool) (d : Nat),
          (fitOf 1 frm (runsTo (put s.data.toList k true) (firstN s.data.toList n))).1.1 = m ∧ (fitOf 1 ((k : Int) + 1) (runsTo (put s.data.toList k true) (firstN s.data.toList n))).1.1 = o ∧
          (fitOf 1 frm (runsTo (put s.data.toList k true) (firstN s.data.toList n))).2 = is ∧ (runsTo (put s.data.toList k true) (firstN s.data.toList n)).length = d ∧
          ((is = false ∧ d = 0) ∨ (is = true ∧ 0 < d ∧ (m != (k : Int)) = true ∧ (k : Int) < frm) ∨ (is = true ∧ 0 < d ∧ (m != (k : Int)) = true ∧ frm ≤ (k : Int) ∧ o = m)) := by
        refine ⟨_, _, _, _, rfl, rfl, rfl, rfl, ?_⟩
        cases his : (fitOf 1 frm (runsTo (put s.data.toList k true) (firstN s.data.toList n))).2
        · obtain ⟨hnil, _⟩ := fit_none_none frm _ _ his
          exact .inl ⟨rfl, by rw [hnil]; rfl⟩
        · rw [his] at hsame
          obtain ⟨m, hm, hfm⟩ := find_spec frm _ _ his
          obtain ⟨o, ho, hfo⟩ := find_spec _ _ _ hsame
          rw [isZero_put _ _ _ hkl] at hfm hfo
          have hd : 0 < (runsTo (put s.data.toList k true) (firstN s.data.toList n)).length := by
            rw [fit_ok] at his
            obtain ⟨_, x, hx, _⟩ := of_decide_eq_true his
            exact List.length_pos_of_mem hx
          have hne := hfm.zero.2
          rw [hm, ho]
          by_cases hlt : (k : Int) < frm
          · exact .inr (.inl ⟨rfl, hd, by rw [bne_iff_ne]; omega, hlt⟩)
          · exact .inr (.inr ⟨rfl, hd, by rw [bne_iff_ne]; omega, by omega, by rw [finds_same hfind (by omega) hfm hfo]⟩)
      obtain ⟨m, o, is, d, e1, e2, e3, e4, hcases⟩ := hcase
      rw [e1, e3] at hF2
      rw [e2, e3] at hF3
      rw [e4] at hft
      have hdb : d ≤ 100000 := by rw [← e4]; rw [len_bytes] at hNle; omega
      have hcb : countTo s.data.toList (firstN s.data.toList n) ≤ 100000 := by
        have := countTo_le s.data.toList (firstN s.data.toList n); rw [len_bytes] at hNle; omega
      generalize countTo s.data.toList (firstN s.data.toList n) = c at *
      generalize txt (put s.data.toList k true) = t at *
      have HF1 := Lib.hid hF1
      have HF2 := Lib.hid hF2
      have HF3 := Lib.hid hF3
      have HCT := Lib.hid hct
      have HFT := Lib.hid hft
      have HW := Lib.hid hw
      have hkb : k < 10000 := by omega
      clear hF1 hF2 hF3 hct hft hw e1 e2 e3 e4 hsame hlen hNt hkl hkz hkN hNle hfind hk hok hn hfr htl hksz
      rcases hcases with ⟨rfl, rfl⟩ | ⟨rfl, hd, hmk, hkf⟩ | ⟨rfl, hd, hmk, hkf, rfl⟩
      all_goals
        go_enter Try.func9, Try.ntmps9
        go_wp2_with fail
        refine (HF1.out _).mono ?_
        rintro e w1 ⟨rfl, hb1⟩
        go_wp2_with fail
        refine (HW.out _).mono ?_
        rintro e w2 ⟨rfl, hb2⟩
        have B2 := hb1.trans (hb2.mono hb1.size)
        clear hb1 hb2
        go_wp2_with fail
        refine (HF2.out _).mono ?_
        rintro e w3 ⟨rfl, hb3⟩
        have B3 := B2.trans (hb3.mono B2.size)
        clear B2 hb3
        go_wp2_with fail
        refine (HF3.out _).mono ?_
        rintro e w4 ⟨rfl, hb4⟩
        have B4 := B3.trans (hb4.mono B3.size)
        clear B3 hb4
        go_wp2_with fail
        refine (HCT.out _).mono ?_
        rintro e w' ⟨rfl, rfl⟩
        go_wp2_with fail
        refine (hc.out _).mono ?_
        rintro e w' ⟨rfl, rfl⟩
        go_wp2_with fail
        refine (HFT.out _).mono ?_
        rintro e w5 ⟨ad, cap, rfl, hb5⟩
        have B5 := B4.trans (hb5.mono B4.size)
        clear B4 hb5
        go_wp2_with fail
        refine (alive_any _).mono ?_
        rintro e w6 ⟨rfl, hb6⟩
        have B6 := B5.trans (hb6.mono B5.size)
        go_wp2_with fail
        go_ret
        exact ⟨rfl, B6⟩

end Go.Proofs.Ytnpgddndelidfaa
