/- Bitmaps: the law that runs and ones are the whole. -/
import Derived.Test.YtnpgddndelidfaaBitsMore
import Derived.Deep.DeepCutAuto
namespace Go.Proofs.Ytnpgddndelidfaa
open Go Go.RowKit

def endI (p : List (Nat × Nat)) : Int := match p.getLast? with | none => -1 | some x => (x.1 : Int) + x.2
theorem endI_snoc (p : List (Nat × Nat)) (x : Nat × Nat) : endI (p ++ [x]) = (x.1 : Int) + x.2 := by simp [endI]
theorem endI_lt {L : List (Nat × Nat)} (h : Rises L) {i : Nat} (hi : i < L.length) : endI (L.take i) < (L[i].1 : Int) := by
  have e : L = L.take i ++ L[i] :: L.drop (i + 1) := by rw [List.getElem_cons_drop]; exact (List.take_append_drop i L).symm
  have h2 : Rises (L.take i ++ L[i] :: L.drop (i + 1)) := e ▸ h
  obtain ⟨_, _, h3⟩ := List.pairwise_append.1 h2
  rcases list_snoc (L.take i) with h0 | ⟨p, y, h0⟩
  · rw [h0]; show (-1 : Int) < _; omega
  · rw [h0, endI_snoc]
    have := h3 y (by rw [h0]; simp) L[i] (List.mem_cons_self ..)
    omega
theorem total_take (L : List (Nat × Nat)) (i : Nat) : total (L.take i) ≤ total L := by
  have : total L = total (L.take i ++ L.drop i) := by rw [List.take_append_drop]
  rw [this]; unfold total; rw [List.map_append, List.sum_append]; omega
theorem take_next {L : List (Nat × Nat)} {i : Nat} (hi : i < L.length) : L.take (i + 1) = L.take i ++ [L[i]] := List.take_succ_eq_append_getElem hi

theorem drewn_on {w1 wr : World} (h : ∃ k, wr = w1.drewN k) (n : Nat) : ∃ k, wr.drewN n = w1.drewN k := by
  obtain ⟨k, rfl⟩ := h; exact ⟨k + n, World.drewN_drewN _ _ _⟩

set_option maxRecDepth 100000 in
set_option maxHeartbeats 2000000 in
theorem BitsWhole_walk (s : ByteArray) (n size : Int) (hs : s.size ≤ 9223372036854775807) (hn : -9223372036854775808 ≤ n ∧ n ≤ 9223372036854775807) (hsz : -9223372036854775808 ≤ size ∧ size ≤ 9223372036854775807) (w : World) :
    Calls Try.prog 7 #[.string s, .int .i64 n, .int .i64 size] w fun e w' => e = .returned (.bool true) ∧ Below w.heap.size w w' := by
  by_cases h1 : 600 < s.size
  · go_enter Try.func7, Try.ntmps7
    go_wp2_with fail
    go_ret
    exact ⟨rfl, Below.refl _ _⟩
  · have hf := Lib.hid (fun w => free_any s n (by omega) hn w)
    have hc := Lib.hid (fun w => count_any s n (by omega) hn w)
    have hfit := Lib.hid (fun w => fit_any s n size 0 (by omega) hn hsz (by omega) w)
    have hN : firstN s.data.toList n ≤ 8 * s.size := by have := firstN_le s.data.toList n; rw [len_bytes] at this; omega
    have hT := Lib.hid (runsTo_total s.data.toList (firstN s.data.toList n))
    have hpos := Lib.hid (runsTo_pos s.data.toList (firstN s.data.toList n))
    have hri := Lib.hid (runsTo_rises s.data.toList (firstN s.data.toList n))
    have hbd := Lib.hid (runsTo_bound s.data.toList (firstN s.data.toList n))
    have hNdef : Hid (firstN s.data.toList n = min n.toNat (s.size * 8)) := Lib.hid (by unfold firstN; rw [len_bytes])
    have hlen : (runsTo s.data.toList (firstN s.data.toList n)).length ≤ 1000000 := by
      have := runsTo_length s.data.toList (firstN s.data.toList n); omega
    have hok := fit_ok_mx size 0 (runsTo s.data.toList (firstN s.data.toList n))
    generalize firstN s.data.toList n = N at *
    generalize runsTo s.data.toList N = L at *
    generalize countTo s.data.toList N = c at *
    generalize fitOf size 0 L = F at *
    obtain ⟨⟨x1, x2⟩, ok⟩ := F
    dsimp only at hok
    have HOK := Lib.hid hok
    clear hok
    go_enter Try.func7, Try.ntmps7
    go_upto_if 24 with fail
    go_cut [7] (fun s7 wx => s7 = .int .i64 N ∧ wx = w)
    case first =>
      have hNd := hNdef.out
      clear hNdef
      by_cases hd : (s.size : Int) ≤ n.tdiv 8
      · have d1 : decide ((s.size : Int) ≤ n.tdiv 8) = true := decide_eq_true hd
        by_cases h0 : n < 0
        · have hv : Hid ((8 : Int) * s.size = N) := Lib.hid (by
            have ht : n.tdiv 8 ≤ 0 := by
              rw [← Int.neg_neg n, Int.neg_tdiv, Int.tdiv_eq_ediv_of_nonneg (by omega)]
              omega
            omega)
          clear hNd
          go_wp2_with fail
          go_meet
          exact ⟨by rw [← hv.out], rfl⟩
        · have hv : Hid ((8 : Int) * s.size = N) := Lib.hid (by rw [Int.tdiv_eq_ediv_of_nonneg (by omega)] at hd; omega)
          clear hNd
          go_wp2_with fail
          go_meet
          exact ⟨by rw [← hv.out], rfl⟩
      · have d1 : decide ((s.size : Int) ≤ n.tdiv 8) = false := decide_eq_false hd
        by_cases h0 : n < 0
        · have hv : Hid ((0 : Int) = N) := Lib.hid (by omega)
          clear hNd
          go_wp2_with fail
          go_meet
          exact ⟨by rw [← hv.out], rfl⟩
        · have hv : Hid (n = (N : Int)) := Lib.hid (by rw [Int.tdiv_eq_ediv_of_nonneg (by omega)] at hd; omega)
          clear hNd
          go_wp2_with fail
          go_meet
          exact ⟨by rw [← hv.out], rfl⟩
    case rest =>
      obtain ⟨rfl, hwc⟩ := hcut
      have hwc2 := hwc.symm
      subst hwc2
      clear hNdef
      go_wp2_with fail
      refine (hf.out _).mono ?_
      rintro e w1 ⟨v1, rfl, o1, hb1⟩
      obtain ⟨ad, cap, rfl, hat⟩ := RunsAt.open (RunsOwn.at o1)
      have HAT := Lib.hid hat
      have HB1 := Lib.hid hb1
      clear o1 hat hb1
      go_wp2_with fail
      go_loopw [9, 10, 11, 12] (fun q9 q10 q11 q wr => ∃ (i : Nat) (e : Int), i ≤ L.length ∧ q = .int .i64 i ∧ q9 = .int .i64 (total (L.take i) : Nat) ∧ q10 = .int .i64 (mx (L.take i) : Nat) ∧ q11 = .int .i64 e ∧ Hid (e = endI (L.take i)) ∧ Hid (∃ k, wr = w1.drewN k)) (fun _ _ _ q _ => L.length - (intOf q).toNat)
      case atStart => exact ⟨0, -1, by omega, rfl, rfl, rfl, rfl, Lib.hid rfl, Lib.hid ⟨0, rfl⟩⟩
      case round =>
        obtain ⟨i, e, hi, rfl, rfl, rfl, rfl, he, hw⟩ := hrel
        by_cases hlt : i < L.length
        · obtain ⟨b, off, rfl, c1, c2⟩ := HAT.out i hlt
          have hb1 := hbd.out _ (List.getElem_mem hlt)
          have hp1 := hpos.out _ (List.getElem_mem hlt)
          have hel := endI_lt hri.out hlt
          rw [← he.out] at hel
          have ht1 : total (L.take (i + 1)) = total (L.take i) + L[i].2 := by rw [take_next hlt, total_snoc]
          have hm1 : mx (L.take (i + 1)) = max (mx (L.take i)) L[i].2 := by rw [take_next hlt, mx_snoc]
          have he1 : endI (L.take (i + 1)) = (L[i].1 : Int) + L[i].2 := by rw [take_next hlt, endI_snoc]
          have htt := total_take L (i + 1)
          have hTT := hT.out
          generalize total (L.take i) = t at *
          generalize mx (L.take i) = m at *
          generalize L[i] = x at *
          obtain ⟨a1, a2⟩ := x
          dsimp only at c1 c2 hb1 hp1 hel ht1 hm1 he1
          obtain ⟨m2, hm2⟩ : ∃ m2, m2 = mx (L.take (i + 1)) := ⟨_, rfl⟩
          have hcase : ((m : Int) < a2 ∧ m2 = a2) ∨ (¬ (m : Int) < a2 ∧ m2 = m) := by rw [hm2, hm1]; omega
          have HM2 := Lib.hid hm2
          have htl : t + a2 ≤ N := by omega
          have HT1 := Lib.hid ht1
          have HE1 := Lib.hid he1
          clear ht1 hm1 he1 htt hTT hm2
          have i0 : (0 : Int) ≤ (i : Int) := by omega
          have i1 : (i : Int) < (L.length : Int) := by omega
          obtain ⟨k, hk⟩ := hw.out
          have e1 : wr.cell? = w1.cell? := by rw [hk]; rfl
          rw [← e1] at c1 c2
          have g1 : decide ((a2 : Int) < 1) = false := decide_eq_false (by omega)
          have g2 : decide ((a1 : Int) ≤ e) = false := decide_eq_false (by omega)
          have g3 : IntKind.i64.wrap ((N : Int) - a2) = (N : Int) - a2 := IntWalk.i64_in _ (by omega)
          have g4 : decide ((N : Int) - a2 < (a1 : Int)) = false := decide_eq_false (by omega)
          have g5 : IntKind.i64.wrap ((a1 : Int) + a2) = (a1 : Int) + a2 := IntWalk.i64_in _ (by omega)
          clear hk e1
          rcases hcase with ⟨hc1, hc2⟩ | ⟨hc1, hc2⟩
          all_goals
            have HC2 := Lib.hid hc2
            clear hc2
            go_wp2_with fail
            go_quiet (fail)
            go_wp2_with fail
            go_quiet (fail)
            go_wp2_with fail
            go_roundw
            case rel => exact ⟨i + 1, _, by omega, by go_num, by rw [HT1.out]; go_num, by rw [← HM2.out, HC2.out], rfl, Lib.hid HE1.out.symm, Lib.hid (by first | exact drewn_on (drewn_on hw.out _) _ | exact drewn_on hw.out _)⟩
            case measure => simp [intOf]; omega
        · have hall : L.take i = L := List.take_of_length_le (by omega)
          rw [hall]
          clear he
          have HK : Hid (∃ k, wr = w1.drewN k) := hw
          have hTT := hT.out
          generalize total L = t at *
          have hok := HOK.out
          generalize mx L = m at *
          go_wp2_with fail
          refine (hfit.out _).mono ?_
          rintro e w2 ⟨rfl, hb2⟩
          have B2 : Below w.heap.size w w2 := by
            obtain ⟨k, hk⟩ := HK.out
            have : Below w.heap.size w wr := by rw [hk]; exact HB1.out.trans ⟨rfl, rfl, rfl, Nat.le_refl _, fun _ _ => rfl⟩
            exact this.trans (hb2.mono this.size)
          simp only [runV]
          have B3 := Lib.hid (B2.alloc B2.size (.cells #[.int .i64 x1, .int .i64 x2] 31))
          clear hb2 B2 HK hT HOK
          by_cases hA : 1 ≤ size
          · by_cases hB : size ≤ (m : Int)
            · have : ok = true := by rw [hok]; simp [hA, hB]
              subst this
              clear hok
              go_wp2_with fail
              refine (hc.out _).mono ?_
              rintro e w' ⟨rfl, rfl⟩
              go_wp2_with fail
              refine (alive_any _).mono ?_
              rintro e w4 ⟨rfl, hb4⟩
              have B4 := B3.out.trans (hb4.mono B3.out.size)
              go_wp2_with fail
              go_ret
              exact ⟨rfl, B4⟩
            · have hB2 : decide (size ≤ (m : Int)) = false := decide_eq_false hB
              have : ok = false := by rw [hok]; simp [hB]
              subst this
              clear hok
              go_wp2_with fail
              refine (hc.out _).mono ?_
              rintro e w' ⟨rfl, rfl⟩
              go_wp2_with fail
              refine (alive_any _).mono ?_
              rintro e w4 ⟨rfl, hb4⟩
              have B4 := B3.out.trans (hb4.mono B3.out.size)
              go_wp2_with fail
              go_ret
              exact ⟨rfl, B4⟩
          · have : ok = false := by rw [hok]; simp [hA]
            subst this
            clear hok
            go_wp2_with fail
            refine (hc.out _).mono ?_
            rintro e w' ⟨rfl, rfl⟩
            go_wp2_with fail
            refine (alive_any _).mono ?_
            rintro e w4 ⟨rfl, hb4⟩
            have B4 := B3.out.trans (hb4.mono B3.out.size)
            go_wp2_with fail
            go_ret
            exact ⟨rfl, B4⟩

end Go.Proofs.Ytnpgddndelidfaa
