/- Bitmaps: the law of Count and Free. -/
import Derived.Test.YtnpgddndelidfaaBitsAlive
namespace Go.Proofs.Ytnpgddndelidfaa
open Go Go.RowKit

theorem own_open {w : World} {B n : Nat} {T : TypeId} {v : Value} {xs : List Value} (h : w.ownsRow B T 2 v n xs) : ∃ ad cap, v = .slice ad n cap ∧ (0 < n → ∃ g, ad = some ⟨g, 0, none⟩ ∧ B ≤ g) := by
  rcases h.2 with ⟨rfl, hn⟩ | ⟨g, cap, cur, rfl, hg, _⟩
  · subst hn; exact ⟨_, _, rfl, fun h => absurd h (Nat.lt_irrefl _)⟩
  · exact ⟨_, _, rfl, fun _ => ⟨g, rfl, hg⟩⟩

set_option maxHeartbeats 1000000 in
theorem BitsCount_walk (s : ByteArray) (n : Int) (hs : s.size ≤ 9223372036854775807) (hn : -9223372036854775808 ≤ n ∧ n ≤ 9223372036854775807) (w : World) :
    Calls Try.prog 4 #[.string s, .int .i64 n] w fun e w' => e = .returned (.bool true) ∧ Below w.heap.size w w' := by
  by_cases h1 : 600 < s.size
  · go_enter Try.func4, Try.ntmps4
    go_wp2_with fail
    go_ret
    exact ⟨rfl, Below.refl _ _⟩
  · have hf := Lib.hid (fun w => free_any s n (by omega) hn w)
    have hr := Lib.hid (fun w => rfree_any s n (by omega) hn w)
    have hc := Lib.hid (fun w => count_any s n (by omega) hn w)
    have hd := Lib.hid (fun w => rcount_any s n (by omega) hn w)
    have hlen : (runsTo s.data.toList (firstN s.data.toList n)).length ≤ 1000000000 := by
      have := runsTo_length s.data.toList (firstN s.data.toList n)
      have h2 := firstN_le s.data.toList n; rw [len_bytes] at h2; omega
    rw [← ri_length] at hlen
    generalize countTo s.data.toList (firstN s.data.toList n) = c at *
    generalize ri (runsTo s.data.toList (firstN s.data.toList n)) = L at *
    clear hn
    go_enter Try.func4, Try.ntmps4
    go_wp2_with fail
    refine (hf.out _).mono ?_
    rintro e w1 ⟨v1, rfl, o1, hb1⟩
    go_wp2_with fail
    refine (hr.out _).mono ?_
    rintro e w2 ⟨v2, rfl, o2, hb2⟩
    have B2 : Below w.heap.size w w2 := hb1.trans (hb2.mono hb1.size)
    have p1 : w2.ownsRow w.heap.size 31 2 v1 L.length (rcells L) := own_below o1 hb2
    have hlt : ∀ g, v1.ownBlock = some g → g < w1.heap.size := fun g hg => (World.ownsRow.lt o1 g hg).2
    clear o1 hb1 hb2
    go_wp2_with fail
    refine (hc.out _).mono ?_
    rintro e w' ⟨rfl, rfl⟩
    go_wp2_with fail
    refine (hd.out _).mono ?_
    rintro e w' ⟨rfl, rfl⟩
    go_wp2_with fail
    refine (same_any _ _ _ L L (RunsAt.own p1) (RunsOwn.at o2) (by omega) (by omega)).mono ?_
    rintro e w3 ⟨rfl, k, hk⟩
    have p3 : w3.ownsRow w.heap.size 31 2 v1 L.length (rcells L) := by rw [hk]; exact p1
    have q3 : w3.ownsRow w1.heap.size 31 2 v2 L.length (rcells L) := by rw [hk]; exact o2
    have B3 : Below w.heap.size w w3 := by rw [hk]; exact B2.trans ⟨rfl, rfl, rfl, Nat.le_refl _, fun _ _ => rfl⟩
    clear hk p1 o2 B2
    rw [beq_self_eq_true]
    obtain ⟨ad, cap, rfl, had⟩ := own_open p3
    have HLT := Lib.hid hlt
    have HAD := Lib.hid had
    have P3 := Lib.hid p3
    have Q3 := Lib.hid q3
    have B3H := Lib.hid B3
    clear hlt had p3 q3 B3
    go_wp2_with fail
    go_loopw [7] (fun q wr => ∃ i : Nat, i ≤ L.length ∧ q = .int .i64 i ∧ Hid (∃ xs, wr.ownsRow w.heap.size 31 2 (.slice ad L.length cap) L.length xs) ∧ Hid (wr.ownsRow w1.heap.size 31 2 v2 L.length (rcells L)) ∧ Hid (Below w.heap.size w wr)) (fun q _ => L.length - (intOf q).toNat)
    case atStart => exact ⟨0, by omega, rfl, Lib.hid ⟨_, P3.out⟩, Q3, B3H⟩
    case round =>
      obtain ⟨i, hi, rfl, hx, hq, hbw⟩ := hrel
      by_cases hlt : i < L.length
      · obtain ⟨xs, hxs⟩ := hx.out
        obtain ⟨g, rfl, hg⟩ := HAD.out (by omega)
        have hg1 := HLT.out g rfl
        obtain ⟨u0, hu0⟩ : ∃ u, xs[i * 2]? = some u := ⟨_, List.getElem?_eq_getElem (by rw [hxs.1]; omega)⟩
        obtain ⟨u1, hu1⟩ : ∃ u, xs[i * 2 + 1]? = some u := ⟨_, List.getElem?_eq_getElem (by rw [hxs.1]; omega)⟩
        have z1 := ownsRow_cell hxs hu0
        have z2 := ownsRow_cell hxs hu1
        have z3 := ownsRow_free hxs (i * 2)
        have z4 := ownsRow_free hxs (i * 2 + 1)
        have XS := Lib.hid hxs
        clear hxs hu0 hu1
        have i0 : (0 : Int) ≤ (i : Int) := by omega
        have i1 : (i : Int) < (L.length : Int) := by omega
        go_wp2_with fail
        go_roundw
        case rel =>
          refine ⟨i + 1, by omega, by go_num, Lib.hid ⟨_, ownsRow_set (ownsRow_set XS.out (i * 2) (by omega) _) (i * 2 + 1) (by omega) _⟩, ?_, ?_⟩
          · exact Lib.hid (ownsRow_setCell_below (ownsRow_setCell_below hq.out (by dsimp only; omega) _) (by dsimp only; omega) _)
          · exact Lib.hid ((hbw.out.setCell (by dsimp only; omega) _).setCell (by dsimp only; omega) _)
        case measure => simp [intOf]; omega
      · go_wp2_with fail
        refine (hf.out _).mono ?_
        rintro e w4 ⟨v4, rfl, o4, hb4⟩
        have q4 := own_below hq.out hb4
        have B4 := hbw.out.trans (hb4.mono hbw.out.size)
        clear hb4
        go_wp2_with fail
        refine (same_any _ _ _ L L (RunsOwn.at o4) (RunsAt.own q4) (by omega) (by omega)).mono ?_
        rintro e w5 ⟨rfl, k, hk⟩
        have B5 : Below w.heap.size w w5 := by rw [hk]; exact B4.trans ⟨rfl, rfl, rfl, Nat.le_refl _, fun _ _ => rfl⟩
        clear hk B4 q4 o4
        rw [beq_self_eq_true]
        go_wp2_with fail
        refine (alive_any _).mono ?_
        rintro e w6 ⟨rfl, hb6⟩
        have B6 := B5.trans (hb6.mono B5.size)
        clear B5 hb6
        go_wp2_with fail
        go_ret
        exact ⟨rfl, B6⟩

end Go.Proofs.Ytnpgddndelidfaa
