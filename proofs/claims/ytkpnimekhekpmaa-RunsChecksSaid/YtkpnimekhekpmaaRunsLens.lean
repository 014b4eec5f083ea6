/- Lists of runs: Lengths, Count, Largest. -/
import Derived.Test.YtkpnimekhekpmaaRunsCheck
namespace Go.Proofs.Ytkpnimekhekpmaa
open Go Go.RowKit

theorem info_int : (Try.prog.info? 3).map (fun i => (i.zero, i.size, i.bytes)) = some (some (.int .i64 0), 1, 8) := by kernel_rfl
/-- A new row of ints of the call's own. -/
def OwnInts (B : Nat) (w : World) (v : Value) (l : List Int) : Prop := w.ownsRow B 3 1 v l.length (l.map (Value.int .i64))
def sortI (l : List Int) : List Int := l.mergeSort fun x y => decide (x ≤ y)
theorem sortI_perm (l : List Int) : (sortI l).Perm l := List.mergeSort_perm _ _
theorem sortI_len (l : List Int) : (sortI l).length = l.length := (sortI_perm l).length_eq

theorem own_keepG {B n s : Nat} {T : TypeId} {v : Value} {w w' : World} {xs : List Value} (h : w.ownsRow B T s v n xs) (he : ∀ g, g < w.heap.size → w'.heap[g]? = w.heap[g]?) : w'.ownsRow B T s v n xs := by
  refine ⟨h.1, ?_⟩
  rcases h.2 with h0 | ⟨g, cap, cur, e0, hb, hg, h1, h2, h3, h4⟩
  · exact .inl h0
  · exact .inr ⟨g, cap, cur, e0, hb, by rw [he g (lt_of_block hg)]; exact hg, h1, h2, h3, h4⟩
theorem own_belowG {B n s : Nat} {T : TypeId} {v : Value} {xs : List Value} {w w' : World} (h : w.ownsRow B T s v n xs) (hb : Below w.heap.size w w') : w'.ownsRow B T s v n xs := own_keepG h hb.block

theorem sortInts_any (B : Nat) (v : Value) (l : List Int) (w : World) (h : OwnInts B w v l) (hl : l.length ≤ 1000000000) (hB : B ≤ w.heap.size) :
    Calls Try.prog 47 #[v] w fun e w' => e = .returned (.tuple #[]) ∧ OwnInts B w' v (sortI l) ∧ Below B w w' := by
  by_cases h0 : v = .slice none 0 0
  · subst h0
    refine (Try.slices_Sort_int_none none 0 w).mono ?_
    rintro e w' ⟨rfl, rfl⟩
    have : l = [] := by
      rcases h.2 with ⟨_, h⟩ | ⟨_, _, _, e, _⟩
      · exact List.eq_nil_of_length_eq_zero h
      · cases e
    subst this
    refine ⟨rfl, ?_, Below.refl _ _⟩
    rwa [show sortI [] = [] by simp [sortI]]
  · obtain ⟨g, cap, rfl, hg1, hg2, _, _, _, hH⟩ := Lib.holds_of_ownsRow h h0
    refine (Try.slices_Sort_int g 0 cap l w hH hg2 (by omega)).mono ?_
    rintro e w' ⟨rfl, n, os, rfl⟩
    have h1 := Lib.ownsRow_putRow (q := n) (k := l.length) h (ys := sortI l) (sortI_len l) (Nat.le_refl _)
    rw [List.take_of_length_le (by rw [sortI_len]; exact Nat.le_refl _)] at h1
    refine ⟨rfl, ?_, ?_⟩
    · unfold OwnInts
      rw [sortI_len]
      exact own_keepG h1 (fun k hk => Array.getElem?_append_left hk)
    · have h2 := Lib.below_putRow (enc := Value.int .i64) (q := n) (d := (sortI l).toArray) (Below.refl B w) hg1
      refine ⟨h2.os, h2.tape, h2.output, Nat.le_trans h2.size (by simp [Sort.grow]), fun k hk => ?_⟩
      rw [← h2.block k hk]
      exact Array.getElem?_append_left (Nat.lt_of_lt_of_le (Nat.lt_of_lt_of_le hk hB) h2.size)

def lensR (l : RL) : List Int := sortI ((Runs.normR l).map (·.2))

set_option maxRecDepth 100000 in
set_option maxHeartbeats 2000000 in
theorem lengths_any (v : Value) (l : RL) (w : World) (hs : Smalls l) (h : RunsAt w v l) (hl : l.length ≤ 1000000000) :
    Calls Try.prog 21 #[v] w fun e w' => ∃ v', e = .returned v' ∧ OwnInts w.heap.size w' v' (lensR l) ∧ Below w.heap.size w w' := by
  have hN := Lib.hid (normal_any v l w hs h hl)
  obtain ⟨i0', hi0, hz0, hz1, hz2⟩ := info_parts info_int
  have hnl := norm_len l
  clear h
  go_enter Try.func21, Try.ntmps21
  go_wp2_with fail
  refine hN.out.mono ?_
  rintro e w1 ⟨v1, rfl, h1, b1⟩
  have H := Lib.hid (OwnRuns.at h1)
  have B1 := Lib.hid b1
  have hD : Hid (lensR l = sortI ((Runs.normR l).map (·.2))) := Lib.hid rfl
  clear b1
  generalize Runs.normR l = N at *
  obtain ⟨ad, cap, rfl⟩ : ∃ ad cap, v1 = .slice ad N.length cap := by
    rcases H.out with ⟨rfl, rfl⟩ | ⟨b, off, cap, rfl, _⟩
    · exact ⟨_, _, rfl⟩
    · exact ⟨_, _, rfl⟩
  clear h1
  go_wp2_with fail
  go_loopw [3, 9] (fun p q wr => ∃ (u : Value) (j : Nat), u = p ∧ q = .int .i64 j ∧ j ≤ N.length ∧ Hid (OwnInts w1.heap.size wr u ((N.take j).map (·.2))) ∧ Hid (Below w1.heap.size w1 wr) ∧ w1.heap.size ≤ wr.heap.size) (fun _ q _ => N.length - (intOf q).toNat)
  case atStart => exact ⟨_, 0, rfl, rfl, by omega, Lib.hid (World.ownsRow_nil _ _ _ _), Lib.hid (Below.refl _ _), Nat.le_refl _⟩
  case round =>
    obtain ⟨u, j, rfl, rfl, hj, ho, hb, hsz⟩ := hrel
    by_cases hlt : j < N.length
    · have i0 : (0 : Int) ≤ (j : Int) := by omega
      have i1 : (j : Int) < (N.length : Int) := by omega
      obtain ⟨hll, g, off, rfl, c0, c1⟩ := (H.out.below (B := 0) hb.out).cells j hlt
      clear hll
      have htk : Hid ((N.take (j + 1)).map (·.2) = (N.take j).map (·.2) ++ [(N.getD j (0, 0)).2]) := Lib.hid (by
        rw [List.take_succ_eq_append_getElem hlt, List.map_append]
        simp [List.getD, hlt])
      generalize N.getD j (0, 0) = x at *
      obtain ⟨xa, xb⟩ := x
      dsimp only at *
      have hlj : ((N.take j).map (·.2)).length = j := by simp; omega
      generalize (N.take j).map (·.2) = R at *
      have ho1 : Hid ((wr.alloc (.cells #[.int .i64 xa, .int .i64 xb] 30)).ownsRow w1.heap.size 3 1 u j (R.map (Value.int .i64))) := Lib.hid (by
        have := own_belowG ho.out ((Below.refl _ _).alloc (Nat.le_refl _) (.cells #[.int .i64 xa, .int .i64 xb] 30))
        rwa [hlj] at this)
      have hb1 : Hid (Below w1.heap.size w1 (wr.alloc (.cells #[.int .i64 xa, .int .i64 xb] 30))) := Lib.hid (hb.out.alloc hsz _)
      have hs1 : w1.heap.size ≤ (wr.alloc (.cells #[.int .i64 xa, .int .i64 xb] 30)).heap.size := hb1.out.size
      have G : ((wr.alloc (.cells #[.int .i64 xa, .int .i64 xb] 30)).alloc (.cells #[.int .i64 xb] 3)).ownsRow w1.heap.size 3 1 u j (R.map (Value.int .i64)) := own_belowG ho1.out ((Below.refl _ _).alloc (Nat.le_refl _) _)
      have NN : ∀ jj uu, [Value.int .i64 xb][jj]? = some uu → ((wr.alloc (.cells #[.int .i64 xa, .int .i64 xb] 30)).alloc (.cells #[.int .i64 xb] 3)).cell? ((⟨wr.heap.size + 1, 0, none⟩ : Addr).add jj) = some uu := fun jj uu hjj => by
        have hadd : (⟨wr.heap.size + 1, 0, none⟩ : Addr).add jj = ⟨wr.heap.size + 1, jj, none⟩ := by unfold Addr.add; split <;> simp_all
        rw [hadd, World.cell?_alloc_at _ _ _ _ (by simp)]
        simpa using hjj
      have hone : ∀ u ∈ [Value.int .i64 xb], u.oneCell' = true := by simp [Value.oneCell']
      go_wp2_with (first
        | (at_builtin; refine wpList_append_own _ rfl _ _ 32 rfl w1.heap.size 3 i0' (.int .i64 0) 1 8 Try.underlying32 hi0 hz0 hz1 hz2 rfl (by decide) _ j _ rfl G ⟨wr.heap.size + 1, 0, none⟩ 1 1 [.int .i64 xb] rfl rfl NN hone (by unfold maxLen; omega) (by omega) (by simp; omega) ?_))
      intro v' w5 hown hgrow _
      have B5 : Hid (Below w1.heap.size w1 w5) := Lib.hid ((hb1.out.alloc hs1 (.cells #[.int .i64 xb] 3)).grown hgrow (by simp; omega) (fun k hk => (ho.out.lt k hk).1))
      have O5 : Hid (OwnInts w1.heap.size w5 v' ((N.take (j + 1)).map (·.2))) := Lib.hid (by
        rw [htk.out]
        unfold OwnInts
        rw [List.map_append, List.length_append, hlj]
        exact hown)
      have z5 := B5.out.size
      clear hown hgrow hlj
      go_wp2_with fail
      go_roundw
      case rel => exact ⟨v', j + 1, rfl, by go_num, by omega, O5, B5, z5⟩
      case measure => simp [intOf]; omega
    · obtain rfl : j = N.length := by omega
      have hS := Lib.hid (sortInts_any w1.heap.size u (N.map (·.2)) wr (by have := ho.out; rwa [List.take_length] at this) (by simp; omega) hsz)
      go_wp2_with fail
      refine hS.out.mono ?_
      rintro e w6 ⟨rfl, o6, b6⟩
      have O6 : Hid (OwnInts w.heap.size w6 u (lensR l)) := Lib.hid (by
        rw [hD.out]
        exact World.ownsRow.mono o6 B1.out.size)
      have B6 := Lib.hid (B1.out.trans ((hb.out.trans b6).mono B1.out.size))
      clear o6 b6
      go_wp2_with fail
      go_ret
      exact ⟨_, rfl, O6.out, B6.out⟩


def sumL : List Int → Int
  | [] => 0
  | x :: l => x + sumL l
theorem sumL_append (a b : List Int) : sumL (a ++ b) = sumL a + sumL b := by
  induction a with
  | nil => simp [sumL]
  | cons x a ih => simp only [List.cons_append, sumL, ih]; omega
theorem sumL_perm {a b : List Int} (h : a.Perm b) : sumL a = sumL b := by
  induction h with
  | nil => rfl
  | cons x _ ih => simp only [sumL, ih]
  | swap x y l => simp only [sumL]; omega
  | trans _ _ h1 h2 => exact h1.trans h2
theorem sumL_pos (l : List Int) (h : ∀ x ∈ l, 0 ≤ x) : 0 ≤ sumL l := by
  induction l with
  | nil => simp [sumL]
  | cons x l ih =>
    have := ih (fun y hy => h y (by simp [hy]))
    have := h x (by simp)
    simp only [sumL]; omega
theorem sumL_take (l : List Int) (h : ∀ x ∈ l, 0 ≤ x) (j : Nat) : 0 ≤ sumL (l.take j) ∧ sumL (l.take j) ≤ sumL l := by
  have h1 := sumL_pos (l.take j) (fun x hx => h x (List.mem_of_mem_take hx))
  have h2 := sumL_pos (l.drop j) (fun x hx => h x (List.mem_of_mem_drop hx))
  have h3 := sumL_append (l.take j) (l.drop j)
  rw [List.take_append_drop] at h3
  omega
/-- All lengths of a row are together no more than may be. -/
theorem row_sum : ∀ (l : RL) (a : Int), Runs.Row l → a ≤ Runs.top → (∀ x ∈ l, a ≤ x.1) → a + sumL (l.map (·.2)) ≤ Runs.top
  | [], a, _, h, _ => by simpa [sumL] using h
  | x :: l, a, hl, _, ha => by
    have hm := hl.1
    unfold Runs.may at hm
    have h1 := ha x (by simp)
    have h2 := row_sum l (Runs.fin x) hl.2.2 (by unfold Runs.fin; omega) (fun y hy => by have := hl.2.1 y hy; omega)
    unfold Runs.fin at h2
    simp only [List.map_cons, sumL]
    omega
def countR (l : RL) : Int := sumL ((Runs.normR l).map (·.2))
theorem count_lens (l : RL) : sumL (lensR l) = countR l := sumL_perm (sortI_perm _)
theorem lens_pos (l : RL) : ∀ x ∈ lensR l, 1 ≤ x := by
  intro x hx
  have h1 := (sortI_perm _).mem_iff.1 hx
  obtain ⟨y, hy, rfl⟩ := List.mem_map.1 h1
  have := (Runs.normR_spec l).1.may y hy
  unfold Runs.may at this
  omega
theorem count_top (l : RL) : 0 ≤ countR l ∧ countR l ≤ Runs.top := by
  have h1 := row_sum (Runs.normR l) 0 (Runs.normR_spec l).1 (by decide) (fun x hx => by have := (Runs.normR_spec l).1.may x hx; unfold Runs.may at this; omega)
  have h2 := sumL_pos (lensR l) (fun x hx => by have := lens_pos l x hx; omega)
  rw [count_lens] at h2
  unfold countR at *
  omega

theorem OwnInts.cells {B : Nat} {w : World} {ad : Option Addr} {n cap : Nat} {l : List Int} (h : OwnInts B w (.slice ad n cap) l) (i : Nat) (hi : i < l.length) : n = l.length ∧ ∃ g, ad = some ⟨g, 0, none⟩ ∧ w.cell? ⟨g, i, none⟩ = some (.int .i64 (l.getD i 0)) := by
  have h0 : Value.slice ad n cap ≠ .slice none 0 0 := by
    intro e
    rcases h.2 with ⟨_, h1⟩ | ⟨g, c, cur, e1, _⟩
    · omega
    · rw [e] at e1; cases e1
  obtain ⟨g, c, e, _, _, _, _, _, hH⟩ := Lib.holds_of_ownsRow h h0
  cases e
  refine ⟨rfl, g, rfl, ?_⟩
  have := (hH i (by simpa using hi)).1
  rw [Nat.zero_add] at this
  rw [this]
  simp [getElem!_pos, hi, List.getD]

set_option maxRecDepth 100000 in
set_option maxHeartbeats 2000000 in
theorem count_any (v : Value) (l : RL) (w : World) (hs : Smalls l) (h : RunsAt w v l) (hl : l.length ≤ 1000000000) :
    Calls Try.prog 19 #[v] w fun e w' => e = .returned (.int .i64 (countR l)) ∧ Below w.heap.size w w' := by
  have hN := Lib.hid (lengths_any v l w hs h hl)
  have hct := count_top l
  have hlen : (lensR l).length ≤ 1000000000 := by
    have := norm_len l
    unfold lensR
    rw [sortI_len]
    simp; omega
  have hcl := count_lens l
  have hsm := Lib.hid (fun j => sumL_take (lensR l) (fun x hx => by have := lens_pos l x hx; omega) j)
  clear h
  unfold Runs.top at hct
  generalize countR l = C at *
  go_enter Try.func19, Try.ntmps19
  go_wp2_with fail
  refine hN.out.mono ?_
  rintro e w1 ⟨v1, rfl, h1, b1⟩
  have H := Lib.hid h1
  have B1 := Lib.hid b1
  have hcl' := Lib.hid hcl
  clear b1 hcl
  generalize lensR l = N at *
  obtain ⟨ad, cap, rfl⟩ : ∃ ad cap, v1 = .slice ad N.length cap := by
    rcases h1.2 with ⟨rfl, h⟩ | ⟨g, cap, cur, rfl, _⟩
    · exact ⟨none, 0, by rw [h]⟩
    · exact ⟨_, _, rfl⟩
  clear h1
  go_wp2_with fail
  go_loopw [3, 9] (fun p q wr => ∃ (s : Int) (j : Nat), p = .int .i64 s ∧ q = .int .i64 j ∧ j ≤ N.length ∧ s = sumL (N.take j) ∧ wr = w1) (fun _ q _ => N.length - (intOf q).toNat)
  case atStart => exact ⟨0, 0, rfl, rfl, by omega, by simp [sumL], rfl⟩
  case round =>
    obtain ⟨s, j, rfl, rfl, hj, hsj, rfl⟩ := hrel
    by_cases hlt : j < N.length
    · have i0 : (0 : Int) ≤ (j : Int) := by omega
      have i1 : (j : Int) < (N.length : Int) := by omega
      obtain ⟨hll, g, rfl, c0⟩ := H.out.cells j hlt
      clear hll
      have htk : sumL (N.take (j + 1)) = s + N.getD j 0 := by
        rw [List.take_succ_eq_append_getElem hlt, sumL_append, ← hsj]
        simp [sumL, List.getD, hlt]
      have hb := (hsm.out (j + 1))
      rw [htk] at hb
      have hw : IntKind.i64.wrap (s + N.getD j 0) = s + N.getD j 0 := IntWalk.i64_in _ (by have := hcl'.out; omega)
      generalize N.getD j 0 = x at *
      have htk' := Lib.hid htk.symm
      clear hb htk hsj
      go_wp2_with fail
      go_roundw
      case rel => exact ⟨s + x, j + 1, rfl, by go_num, by omega, htk'.out, by first | rfl | trivial⟩
      case measure => simp [intOf]; omega
    · obtain rfl : j = N.length := by omega
      have hE : Hid (s = C) := Lib.hid (by rw [hsj, List.take_length, hcl'.out])
      clear hsj
      go_wp2_with fail
      go_ret
      exact ⟨by rw [hE.out]; rfl, B1.out⟩

set_option maxHeartbeats 2000000 in
theorem largest_any (v : Value) (l : RL) (w : World) (hs : Smalls l) (h : RunsAt w v l) (hl : l.length ≤ 1000000000) :
    Calls Try.prog 28 #[v] w fun e w' => e = .returned (.int .i64 ((lensR l).getLastD 0)) ∧ Below w.heap.size w w' := by
  have hN := Lib.hid (lengths_any v l w hs h hl)
  have hlen : (lensR l).length ≤ 1000000000 := by
    have := norm_len l
    unfold lensR
    rw [sortI_len]
    simp; omega
  clear h
  generalize lensR l = N at *
  rcases List.eq_nil_or_concat N with rfl | ⟨N, z, rfl⟩
  · go_enter Try.func28, Try.ntmps28
    go_wp2_with fail
    refine hN.out.mono ?_
    rintro e w1 ⟨v1, rfl, h1, b1⟩
    have B1 := Lib.hid b1
    obtain ⟨ad, cap, rfl⟩ : ∃ ad cap, v1 = .slice ad 0 cap := by
      rcases h1.2 with ⟨rfl, h⟩ | ⟨g, cap, cur, rfl, _⟩
      · exact ⟨none, 0, rfl⟩
      · exact ⟨_, _, rfl⟩
    clear h1 b1
    go_wp2_with fail
    go_ret
    exact ⟨rfl, B1.out⟩
  · rw [List.concat_eq_append] at *
    have hz : (N ++ [z]).getLastD 0 = z := by simp
    rw [hz]
    clear hz
    go_enter Try.func28, Try.ntmps28
    go_wp2_with fail
    refine hN.out.mono ?_
    rintro e w1 ⟨v1, rfl, h1, b1⟩
    have B1 := Lib.hid b1
    obtain ⟨ad, n, cap, rfl⟩ : ∃ ad n cap, v1 = .slice ad n cap := by
      rcases h1.2 with ⟨rfl, h⟩ | ⟨g, cap, cur, rfl, _⟩
      · exact ⟨none, 0, 0, rfl⟩
      · exact ⟨_, _, _, rfl⟩
    obtain ⟨rfl, g, rfl, c0⟩ := h1.cells N.length (by simp)
    have hg : (N ++ [z]).getD N.length 0 = z := by simp [List.getD]
    rw [hg] at c0
    rw [show (N ++ [z]).length = N.length + 1 by simp] at *
    have k0 : (0 : Int) < (N.length : Int) + 1 := by omega
    have k1 : (N.length : Int) < (N.length : Int) + 1 := by omega
    have k2 : (0 : Int) ≤ (N.length : Int) := by omega
    clear h1 b1 hg
    go_wp2_with fail
    go_ret
    exact ⟨rfl, B1.out⟩

end Go.Proofs.Ytkpnimekhekpmaa
