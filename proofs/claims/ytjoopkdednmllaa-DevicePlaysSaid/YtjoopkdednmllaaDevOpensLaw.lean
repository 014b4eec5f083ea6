/- The law DeviceOpens: its walk. -/
import Derived.Test.YtjoopkdednmllaaRefOpen
namespace Go.Proofs.Ytjoopkdednmllaa
open Go Go.RowKit
variable {B b : Nat} {w : World} {y : Lay} {D : Dev}

theorem chop_sized (s : ByteArray) (n j : Nat) (hs : s.size = n * 128) (hj : j ≤ n) : sized (chop s j) := by
  induction j with
  | zero => intro t ht; simp [chop] at ht
  | succ j ih =>
    intro t ht
    rcases List.mem_append.1 ht with h | h
    · exact ih (by omega) t h
    · simp at h; subst h
      show (List.toArray _).size = _
      rw [List.size_toArray, List.length_take, List.length_drop, Array.length_toList]
      have : s.data.size = n * 128 := hs
      omega
theorem chop_cat (s : ByteArray) (n j : Nat) (hs : s.size = n * 128) (hj : j ≤ n) : cat (chop s j) = s.data.toList.take (j * 128) := by
  induction j with
  | zero => simp [chop, cat]
  | succ j ih =>
    have e : cat (chop s (j + 1)) = cat (chop s j) ++ (s.data.toList.drop (j * 128)).take 128 := by
      simp [chop, cat, blkS, txt]
    rw [e, ih (by omega), show (j + 1) * 128 = j * 128 + 128 by omega, List.take_add]
theorem chop_all (s : ByteArray) (n : Nat) (hs : s.size = n * 128) : txt (cat (chop s n)) = s := by
  rw [chop_cat s n n hs (Nat.le_refl _), List.take_of_length_le (by rw [Array.length_toList]; exact Nat.le_of_eq hs)]
  exact txt_of s

theorem fresh_crash (L : List ByteArray) (hL : sized L) (keep : List Bool) : (Dev.fresh L).crash keep = L := by
  unfold Dev.crash
  have e : (Dev.fresh L).pend = List.replicate L.length false := rfl
  rw [e, pendTo_falses]
  rfl

theorem DevAt.mono {B' : Nat} (h : DevAt B w b y D) (hB : B' ≤ B) : DevAt B' w b y D := ⟨Nat.le_trans hB h.own, h.cells, own_mono h.kept hB, own_mono h.now hB, own_mono h.pend hB, h.ne, h.pos, h.left, h.acts⟩
theorem RefAt.mono {B' : Nat} {z : RLay} (h : RefAt B w b z D) (hB : B' ≤ B) : RefAt B' w b z D := ⟨Nat.le_trans hB h.own, h.cells, own_mono h.now hB, own_mono h.was hB, own_mono h.pend hB, h.ne, h.pos, h.left, h.acts⟩

set_option maxRecDepth 100000 in
set_option maxHeartbeats 4000000 in
theorem DeviceOpens_walk (s : ByteArray) (i : Int) (hs : s.size ≤ 9223372036854775807) (hi : -9223372036854775808 ≤ i ∧ i ≤ 9223372036854775807) (w : World) :
    Calls Try.prog 8 #[.string s, .int .i64 i] w fun e w' => e = .returned (.bool true) ∧ Below w.heap.size w w' := by
  have hal := Lib.hid (fun w => alive_any w)
  by_cases h1 : 5120 < s.size ∧ s.size ≤ 524288
  · have h1a : (5120 : Int) < (s.size : Int) := by omega
    have h1b : (s.size : Int) ≤ 524288 := by omega
    clear h1
    go_enter Try.func8, Try.ntmps8
    go_wp2_with fail
    go_ret
    exact ⟨rfl, Below.refl _ _⟩
  by_cases h2 : s.size = 0 ∨ s.size % 128 ≠ 0 ∨ 524288 < s.size
  · have k1 := Lib.hid (opendev_none (w := w) s hs h2)
    have k2 := Lib.hid (ropen_none (w := w) s hs h2)
    by_cases h3 : 5120 < s.size
    · have h1a : (5120 : Int) < (s.size : Int) := by omega
      have h1b : ¬ (s.size : Int) ≤ 524288 := by omega
      clear h2
      go_enter Try.func8, Try.ntmps8
      go_wp2_with fail
      refine k1.out.mono ?_
      rintro e w1 ⟨rfl, rfl⟩
      go_wp2_with fail
      refine k2.out.mono ?_
      rintro e w1 ⟨rfl, rfl⟩
      go_wp2_with fail
      refine (hal.out _).mono ?_
      rintro e w2 ⟨rfl, b2⟩
      have B2 := Lib.hid b2
      clear b2
      go_wp2_with fail
      go_ret
      exact ⟨rfl, B2.out⟩
    · have h1a : ¬ (5120 : Int) < (s.size : Int) := by omega
      clear h2
      go_enter Try.func8, Try.ntmps8
      go_wp2_with fail
      refine k1.out.mono ?_
      rintro e w1 ⟨rfl, rfl⟩
      go_wp2_with fail
      refine k2.out.mono ?_
      rintro e w1 ⟨rfl, rfl⟩
      go_wp2_with fail
      refine (hal.out _).mono ?_
      rintro e w2 ⟨rfl, b2⟩
      have B2 := Lib.hid b2
      clear b2
      go_wp2_with fail
      go_ret
      exact ⟨rfl, B2.out⟩
  · obtain ⟨n, hn⟩ : ∃ n, s.size = n * 128 := ⟨s.size / 128, by omega⟩
    have hn1 : 1 ≤ n ∧ n ≤ 40 := by omega
    have k1 := Lib.hid (opendev_any (w := w) s n hn (by omega))
    have k2 := Lib.hid (fun w => ropen_any (w := w) s n hn (by omega))
    have h1a : ¬ (5120 : Int) < (s.size : Int) := by omega
    have hch := Lib.hid (chop_all s n hn)
    have hsz := Lib.hid (chop_sized s n n hn (Nat.le_refl _))
    have hcr := Lib.hid (fresh_crash (chop s n) hsz.out [true])
    have hpe : Hid (pendTo (Dev.fresh (chop s n)).pend (Dev.fresh (chop s n)).pend.length = []) := Lib.hid (by
      have e : (Dev.fresh (chop s n)).pend = List.replicate (chop s n).length false := rfl
      rw [e, pendTo_falses])
    have hd0 : Hid ((Dev.fresh (chop s n)).dead = false) := Lib.hid rfl
    have ha0 : Hid ((Dev.fresh (chop s n)).acts = 0) := Lib.hid rfl
    have hk0 : Hid ((Dev.fresh (chop s n)).kept = chop s n ∧ (Dev.fresh (chop s n)).now = chop s n) := Lib.hid ⟨rfl, rfl⟩
    clear h1 h2 hn
    generalize hF : Dev.fresh (chop s n) = F at *
    generalize hC : chop s n = L at *
    clear hF hC
    have hsz1 : Hid (sized F.kept) := Lib.hid (by rw [hk0.out.1]; exact hsz.out)
    have hsz2 : Hid (sized F.now) := Lib.hid (by rw [hk0.out.2]; exact hsz.out)
    go_enter Try.func8, Try.ntmps8
    go_wp2_with fail
    refine k1.out.mono ?_
    rintro e w1 ⟨b, rfl, ⟨y, d1⟩, b1⟩
    have D1 := Lib.hid d1
    have B1 := Lib.hid b1
    clear d1 b1 k1
    go_wp2_with fail
    refine (k2.out _).mono ?_
    rintro e w2 ⟨r, rfl, ⟨z, d2⟩, b2⟩
    have D2 := Lib.hid (D1.out.below b2)
    have R2 := Lib.hid d2
    have B2 := Lib.hid (B1.out.trans (b2.mono B1.out.size))
    clear d2 b2 k2 B1 D1
    have c1 := Lib.hid (read_any D2.out i)
    have c2 := Lib.hid (rread_any R2.out i)
    have c3 := Lib.hid (blocks_any D2.out)
    have c4 := Lib.hid (rblocks_any R2.out)
    have c5 := Lib.hid (kept_any D2.out hsz1.out)
    rw [hk0.out.1, hch.out] at c5
    generalize F.readS i = rs at *
    generalize F.ask i = ra at *
    go_wp2_with fail
    refine c1.out.mono ?_
    rintro e w3 ⟨rfl, rfl⟩
    go_wp2_with fail
    refine c2.out.mono ?_
    rintro e w3 ⟨rfl, rfl⟩
    go_wp2_with fail
    refine c3.out.mono ?_
    rintro e w3 ⟨rfl, rfl⟩
    go_wp2_with fail
    refine c4.out.mono ?_
    rintro e w3 ⟨rfl, rfl⟩
    go_wp2_with fail
    refine c5.out.mono ?_
    rintro e w3 ⟨rfl, b3⟩
    have D3 := Lib.hid (D2.out.below b3)
    have B3 := Lib.hid (B2.out.trans (b3.mono B2.out.size))
    clear b3 c1 c2 c3 c4 c5 D2 R2 B2
    go_wp2_with fail
    have b4 : Below w3.heap.size w3 (w3.alloc (.cells #[.bool true] 4)) := (Below.refl _ _).alloc (Nat.le_refl _) _
    have k1c : Hid (Calls Try.prog 31 #[.pointer (some ⟨b, 0, none⟩), .slice (some ⟨w3.heap.size, 0, none⟩) 1 1] (w3.alloc (.cells #[.bool true] 4)) fun e w' => e = .returned (.string s) ∧ Below (w3.heap.size + 1) (w3.alloc (.cells #[.bool true] 4)) w') := Lib.hid (by
      have := crash_any (D3.out.below b4) hsz1.out hsz2.out (some ⟨w3.heap.size, 0, none⟩) 1 [true] (fun i hi => by
        obtain rfl : i = 0 := by simpa using hi
        exact ⟨_, _, rfl, by rw [cell_of_row _ _ _ _ _ _ (heap_alloc_new w3 _)]; rfl⟩) (by simp)
      rw [hcr.out, hch.out] at this
      simpa using this)
    refine k1c.out.mono ?_
    rintro e w5 ⟨rfl, b5⟩
    have b45 : Below w3.heap.size w3 w5 := b4.trans (b5.mono (by omega))
    have D5 := Lib.hid (D3.out.below b45)
    have B5 := Lib.hid (B3.out.trans (b45.mono B3.out.size))
    clear b4 b5 b45 k1c D3 B3
    have c6 := Lib.hid (pending_any D5.out)
    rw [hpe.out] at c6
    go_wp2_with fail
    refine c6.out.mono ?_
    rintro e w6 ⟨v, rfl, ho6, b6⟩
    obtain ⟨ad6, cap6, rfl, _⟩ := own_opens ho6
    have D6 := Lib.hid (D5.out.below b6)
    have B6 := Lib.hid (B5.out.trans (b6.mono B5.out.size))
    clear b6 ho6 c6 D5 B5
    have c7 := Lib.hid (acts_any D6.out)
    have c8 := Lib.hid (dead_any D6.out)
    rw [ha0.out] at c7
    rw [hd0.out] at c8
    go_wp2_with fail
    refine c7.out.mono ?_
    rintro e w7 ⟨rfl, rfl⟩
    go_wp2_with fail
    refine c8.out.mono ?_
    rintro e w7 ⟨rfl, rfl⟩
    go_wp2_with fail
    refine (hal.out _).mono ?_
    rintro e w8 ⟨rfl, b8⟩
    have B8 := Lib.hid (B6.out.trans (b8.mono B6.out.size))
    clear b8
    go_wp2_with fail
    go_ret
    exact ⟨rfl, B8.out⟩

end Go.Proofs.Ytjoopkdednmllaa
