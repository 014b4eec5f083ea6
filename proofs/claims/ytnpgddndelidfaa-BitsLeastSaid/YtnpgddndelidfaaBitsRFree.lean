/- Bitmaps: the reference's Free. -/
import Derived.Test.YtnpgddndelidfaaBitsFitting
namespace Go.Proofs.Ytnpgddndelidfaa
open Go Go.RowKit

theorem ownsRow_set {w : World} {base size n g cap : Nat} {e : TypeId} {xs : List Value} (h : w.ownsRow base e size (.slice (some ⟨g, 0, none⟩) n cap) n xs) (k : Nat) (hk : k < n * size) (u : Value) :
    (w.setCell ⟨g, k, none⟩ u).ownsRow base e size (.slice (some ⟨g, 0, none⟩) n cap) n (xs.set k u) := by
  obtain ⟨h1, h2⟩ := h
  refine ⟨by simpa using h1, ?_⟩
  rcases h2 with ⟨hv, _⟩ | ⟨g', cap', cur, hv, hb, hg, hc1, hc2, hsz, htk⟩
  · cases hv
  · cases hv
    refine .inr ⟨g, cap, cur.set! k u, rfl, hb, ?_, hc1, hc2, by simpa using hsz, ?_⟩
    · have hlt := lt_of_block hg
      have h' : w.heap[g] = .cells cur e (0, 0) := by simpa [Array.getElem?_eq_getElem hlt] using hg
      show (w.heap.modify g _)[g]? = _
      rw [Array.getElem?_eq_getElem (by simpa using hlt), Array.getElem_modify_self, h']
      simp
    · rw [← htk]
      simp [List.take_set]

theorem ownsRow_cell {w : World} {base size n g cap : Nat} {e : TypeId} {xs : List Value} (h : w.ownsRow base e size (.slice (some ⟨g, 0, none⟩) n cap) n xs) {j : Nat} {u : Value} (hu : xs[j]? = some u) : w.cell? ⟨g, j, none⟩ = some u := by
  have := h.cells rfl j u hu
  have hadd : (⟨g, 0, none⟩ : Addr).add j = ⟨g, j, none⟩ := by unfold Addr.add; split <;> simp_all
  rwa [hadd] at this
theorem ownsRow_free {w : World} {base size n g cap : Nat} {e : TypeId} {xs : List Value} (h : w.ownsRow base e size (.slice (some ⟨g, 0, none⟩) n cap) n xs) (k : Nat) : w.frozen? ⟨g, k, none⟩ = false := by
  rcases h.2 with ⟨hv, _⟩ | ⟨g', cap', cur, hv, hb, hg, _⟩
  · cases hv
  · cases hv
    simp [World.frozen?, hg]

theorem rcells_snoc (l : RL) (a b : Int) : rcells (l ++ [(a, b)]) = rcells l ++ [.int .i64 a, .int .i64 b] := by rw [rcells_append]; rfl
theorem rcells_snoc_set (l : RL) (a b c : Int) : (rcells (l ++ [(a, b)])).set (l.length * 2 + 1) (.int .i64 c) = rcells (l ++ [(a, c)]) := by
  rw [rcells_snoc, rcells_snoc, List.set_append, if_neg (by rw [rcells_length]; omega), rcells_length]
  simp

/-- A list that is growing at its end, run by run. -/
def Grows (B : Nat) (l : List (Nat × Nat)) (v : Value) (w : World) : Prop := w.ownsRow B 31 2 v (ri l).length (rcells (ri l))

theorem grows_new {B : Nat} {L : List (Nat × Nat)} {j m : Nat} {v' : Value} {w1 : World} (hm : (ri L).length = m) (hown : w1.ownsRow B 31 2 v' (m + 1) (rcells (ri L) ++ [.int .i64 (j : Int), .int .i64 1])) : Grows B (L ++ [(j, 1)]) v' w1 := by
  unfold Grows; rw [ri_append, rcells_append, List.length_append, hm]; exact hown

theorem grows_touch {B g cap a c : Nat} {p : List (Nat × Nat)} {w : World} (h : w.ownsRow B 31 2 (.slice (some ⟨g, 0, none⟩) (p.length + 1) cap) (p.length + 1) (rcells (ri (p ++ [(a, c)])))) :
    Grows B (p ++ [(a, c + 1)]) (.slice (some ⟨g, 0, none⟩) (p.length + 1) cap) (w.setCell ⟨g, p.length * 2 + 1, none⟩ (.int .i64 ((c : Int) + 1))) := by
  have e := ownsRow_set h (p.length * 2 + 1) (by omega) (.int .i64 ((c : Int) + 1))
  have e1 : ri (p ++ [(a, c)]) = ri p ++ [((a : Int), (c : Int))] := by simp [ri]
  have e2 : ri (p ++ [(a, c + 1)]) = ri p ++ [((a : Int), (c : Int) + 1)] := by simp [ri]
  have e3 := rcells_snoc_set (ri p) a c ((c : Int) + 1)
  rw [ri_length] at e3
  rw [e1, e3] at e
  unfold Grows
  rw [e2, List.length_append, ri_length]
  exact e

set_option maxHeartbeats 1000000 in
theorem rfree_any (s : ByteArray) (n : Int) (hs : s.size ≤ 100000000) (hn : -9223372036854775808 ≤ n ∧ n ≤ 9223372036854775807) (w : World) :
    Calls Try.prog 16 #[.string s, .int .i64 n] w fun e w' => ∃ v, e = .returned v ∧ RunsOwn w w' v (ri (runsTo s.data.toList (firstN s.data.toList n))) ∧ Below w.heap.size w w' := by
  obtain ⟨i0, hi0, hz0, hz1, hz2⟩ := info_parts info_run
  have hf := Lib.hid fun w => rfirst_any s n (by omega) hn w
  have hN : firstN s.data.toList n ≤ 8 * s.size := by have := firstN_le s.data.toList n; rw [len_bytes] at this; omega
  clear hn
  generalize firstN s.data.toList n = N at *
  go_enter Try.func16, Try.ntmps16
  go_wp2_with fail
  go_loopw [5, 6] (fun v q wr => ∃ (j : Nat) (u : Value), j ≤ N ∧ u = v ∧ q = .int .i64 j ∧ Hid (Grows w.heap.size (runsTo s.data.toList j) u wr) ∧ Below w.heap.size w wr) (fun _ q _ => N - (intOf q).toNat)
  case atStart => exact ⟨0, _, by omega, rfl, rfl, Lib.hid (World.ownsRow_nil _ _ _ _), Below.refl _ _⟩
  case round =>
    obtain ⟨j, v, hj, rfl, rfl, hg, hbw⟩ := hrel
    by_cases hlt : j < N
    · have hh := rhas_any s (j : Int) (by omega) (by omega) wr
      rw [hasI_nat] at hh
      have HH := Lib.hid hh
      clear hh
      cases hb : has s.data.toList j
      · have hr : Hid (runsTo s.data.toList (j + 1) = grow (runsTo s.data.toList j) j) := Lib.hid (by simp [runsTo, hb])
        rw [hb] at HH
        clear hb
        have hlen := runsTo_length s.data.toList j
        have hend := runsTo_end s.data.toList j
        generalize runsTo s.data.toList j = L at *
        rcases list_snoc L with rfl | ⟨p, ⟨a, c⟩, rfl⟩
        · have hv : ∃ ad cp, v = .slice ad 0 cp := by
            rcases hg.out.2 with ⟨rfl, _⟩ | ⟨g, cap, cur, rfl, _⟩
            · exact ⟨_, _, rfl⟩
            · exact ⟨_, _, rfl⟩
          obtain ⟨ad, cp, rfl⟩ := hv
          have G : ∀ k, (wr.drewN k).ownsRow w.heap.size 31 2 (.slice ad 0 cp) 0 (rcells (ri [])) := fun _ => hg.out
          have HM : Hid ((ri []).length = 0) := Lib.hid rfl
          have hgr : Hid (grow [] j = [] ++ [(j, 1)]) := Lib.hid (grow_new _ _ (.inr rfl))
          have hone : ∀ u ∈ ([.int .i64 (j : Int), .int .i64 1] : List Value), u.oneCell' = true := by simp [Value.oneCell']
          have hbd : ∀ k o, Below w.heap.size w ((wr.drewN k).alloc o) := fun k o => (hbw.trans ⟨rfl, rfl, rfl, Nat.le_refl _, fun _ _ => rfl⟩ : Below w.heap.size w (wr.drewN k)).alloc hbw.size o
          go_wp2_with fail
          refine (hf.out wr).mono ?_
          rintro e w' ⟨rfl, rfl⟩
          go_wp2_with fail
          refine HH.out.mono ?_
          rintro e w' ⟨rfl, rfl⟩
          go_wp2_with fail
          go_quiet (fail)
          go_wp2_with (first
              | (at_builtin; refine wpList_append_own _ rfl _ _ 26 rfl w.heap.size 31 i0 (.agg #[.int .i64 0, .int .i64 0]) 2 16 Try.underlying26 hi0 hz0 hz1 hz2 rfl (by decide) _ 0 _ rfl ((G _).alloc _) ⟨wr.heap.size, 0, none⟩ 1 1 [.int .i64 j, .int .i64 1] rfl rfl
                  (World.news_of_block (heap_alloc_new _ _)) hone (by unfold maxLen; omega) (by omega) (by have := hbw.size; simp; omega) ?_))
          intro v' w1 hown hgrow _
          have hW : Below w.heap.size w w1 := (hbd nq (.cells #[.int .i64 j, .int .i64 1] 31)).grown hgrow (by have := hbw.size; simp; omega) (fun k hk => ((G nq).lt k hk).1)
          have hG := Lib.hid (grows_new HM.out hown)
          clear hown hgrow
          go_wp2_with fail
          go_roundw
          case rel => exact ⟨j + 1, v', by omega, rfl, by go_num, by rw [hr.out, hgr.out]; exact hG, hW⟩
          case measure => simp [intOf]; omega
        · rw [lastEnd_snoc] at hend
          have hv : ∃ g cap, v = .slice (some ⟨g, 0, none⟩) (p.length + 1) cap := by
            have e : (ri (p ++ [(a, c)])).length = p.length + 1 := by simp [ri]
            rcases hg.out.2 with ⟨_, h0⟩ | ⟨g, cap, cur, hv, _⟩
            · rw [e] at h0; omega
            · rw [e] at hv; exact ⟨_, _, hv⟩
          obtain ⟨g, cap, rfl⟩ := hv
          have HM : Hid ((ri (p ++ [(a, c)])).length = p.length + 1) := Lib.hid (by simp [ri])
          have hG : wr.ownsRow w.heap.size 31 2 (.slice (some ⟨g, 0, none⟩) (p.length + 1) cap) (p.length + 1) (rcells (ri (p ++ [(a, c)]))) := by
            have := hg.out; unfold Grows at this; rwa [HM.out] at this
          have hlenp : p.length < 1000000000 := by simp at hlen; omega
          have hat := rcells_at (ri (p ++ [(a, c)])) p.length (by simp [ri])
          have hgd : (ri (p ++ [(a, c)])).getD p.length (0, 0) = ((a : Int), (c : Int)) := by
            simp [ri, List.getD]
          rw [hgd] at hat
          have cl1 := ownsRow_cell hG hat.1
          have cl2 := ownsRow_cell hG hat.2
          have fl2 := ownsRow_free hG (p.length * 2 + 1)
          have G : ∀ k, (wr.drewN k).ownsRow w.heap.size 31 2 (.slice (some ⟨g, 0, none⟩) (p.length + 1) cap) (p.length + 1) (rcells (ri (p ++ [(a, c)]))) := fun _ => hG
          have hblk := (hG.lt g rfl).1
          have HG := Lib.hid hG
          clear hat hgd hG hlen
          have w1 : IntKind.i64.wrap ((a : Int) + c) = (a : Int) + c := IntWalk.i64_in _ (by omega)
          have p1 : (0 : Int) ≤ (p.length : Int) := by omega
          have p2 : (p.length : Int) < ((p.length + 1 : Nat) : Int) := by omega
          have hk : ((p.length : Int) + 1) - 1 = (p.length : Int) := by omega
          by_cases he : a + c = j
          · have hgr : Hid (grow (p ++ [(a, c)]) j = p ++ [(a, c + 1)]) := Lib.hid (by rw [grow_snoc, if_pos he])
            have q1 : ((a : Int) + c == (j : Int)) = true := by rw [beq_iff_eq]; omega
            go_wp2_with fail
            refine (hf.out wr).mono ?_
            rintro e w' ⟨rfl, rfl⟩
            go_wp2_with fail
            refine HH.out.mono ?_
            rintro e w' ⟨rfl, rfl⟩
            go_wp2_with fail
            go_quiet (fail)
            go_wp2_with fail
            go_roundw
            case rel =>
              refine ⟨j + 1, _, by omega, rfl, by go_num, ?_, ?_⟩
              · rw [hr.out, hgr.out]; exact Lib.hid (grows_touch (G nq))
              · exact (hbw.trans ⟨rfl, rfl, rfl, Nat.le_refl _, fun _ _ => rfl⟩ : Below w.heap.size w (wr.drewN nq)).setCell hblk _
            case measure => simp [intOf]; omega
          · have hgr : Hid (grow (p ++ [(a, c)]) j = (p ++ [(a, c)]) ++ [(j, 1)]) := Lib.hid (by rw [grow_snoc, if_neg he]; simp)
            have q1 : ((a : Int) + c == (j : Int)) = false := by rw [beq_eq_false_iff_ne]; omega
            clear he
            have hone : ∀ u ∈ ([.int .i64 (j : Int), .int .i64 1] : List Value), u.oneCell' = true := by simp [Value.oneCell']
            have hbd : ∀ k o, Below w.heap.size w ((wr.drewN k).alloc o) := fun k o => (hbw.trans ⟨rfl, rfl, rfl, Nat.le_refl _, fun _ _ => rfl⟩ : Below w.heap.size w (wr.drewN k)).alloc hbw.size o
            go_wp2_with fail
            refine (hf.out wr).mono ?_
            rintro e w' ⟨rfl, rfl⟩
            go_wp2_with fail
            refine HH.out.mono ?_
            rintro e w' ⟨rfl, rfl⟩
            go_wp2_with fail
            go_quiet (fail)
            go_wp2_with (first
                | (at_builtin; refine wpList_append_own _ rfl _ _ 26 rfl w.heap.size 31 i0 (.agg #[.int .i64 0, .int .i64 0]) 2 16 Try.underlying26 hi0 hz0 hz1 hz2 rfl (by decide) _ (p.length + 1) _ rfl ((G _).alloc _) ⟨wr.heap.size, 0, none⟩ 1 1 [.int .i64 j, .int .i64 1] rfl rfl
                    (World.news_of_block (heap_alloc_new _ _)) hone (by unfold maxLen; omega) (by omega) (by have := hbw.size; simp; omega) ?_))
            intro v' w1 hown hgrow _
            have hW : Below w.heap.size w w1 := (hbd nq (.cells #[.int .i64 j, .int .i64 1] 31)).grown hgrow (by have := hbw.size; simp; omega) (fun k hk => ((G nq).lt k hk).1)
            have hG := Lib.hid (grows_new HM.out hown)
            clear hown hgrow
            go_wp2_with fail
            go_roundw
            case rel => exact ⟨j + 1, v', by omega, rfl, by go_num, by rw [hr.out, hgr.out]; exact hG, hW⟩
            case measure => simp [intOf]; omega
      · have hr : Hid (runsTo s.data.toList (j + 1) = runsTo s.data.toList j) := Lib.hid (by simp [runsTo, hb])
        rw [hb] at HH
        clear hb
        go_wp2_with fail
        refine (hf.out wr).mono ?_
        rintro e w' ⟨rfl, rfl⟩
        go_wp2_with fail
        refine HH.out.mono ?_
        rintro e w' ⟨rfl, rfl⟩
        go_wp2_with fail
        go_roundw
        case rel => exact ⟨j + 1, _, by omega, rfl, by go_num, by rw [hr.out]; exact hg, hbw⟩
        case measure => simp [intOf]; omega
    · obtain rfl : j = N := by omega
      go_wp2_with fail
      refine (hf.out wr).mono ?_
      rintro e w' ⟨rfl, rfl⟩
      go_wp2_with fail
      go_ret
      exact ⟨_, rfl, hg.out, hbw⟩

end Go.Proofs.Ytnpgddndelidfaa
