/- The document's Lengths, Largest. -/
import Derived.Test.YtkpnimekhekpmaaRunsRefNorm
namespace Go.Proofs.Ytkpnimekhekpmaa
open Go Go.RowKit

/-! ### What is put in its place -/
def posK (x : Int) : List Int → Nat
  | [] => 0
  | y :: r => if y ≤ x then posK x r + 1 else 0
theorem posK_le (x : Int) : ∀ l, posK x l ≤ l.length
  | [] => Nat.le_refl _
  | y :: r => by
    have := posK_le x r
    unfold posK
    split
    · simp only [List.length_cons]; omega
    · exact Nat.zero_le _
theorem posK_lt (x : Int) : ∀ (l : List Int) (k : Nat), k < posK x l → l.getD k 0 ≤ x
  | [], k, h => by simp [posK] at h
  | y :: r, k, h => by
    unfold posK at h
    split at h
    · cases k with
      | zero => simpa using ‹y ≤ x›
      | succ k => simpa using posK_lt x r k (by omega)
    · omega
theorem posK_at (x : Int) : ∀ (l : List Int), posK x l < l.length → ¬ l.getD (posK x l) 0 ≤ x
  | [], h => by simp at h
  | y :: r, h => by
    unfold posK at h ⊢
    split
    · rename_i h1
      rw [if_pos h1] at h
      simpa using posK_at x r (by simpa using h)
    · rename_i h1
      simpa using h1
def insR (x : Int) : List Int → List Int
  | [] => [x]
  | y :: r => if y ≤ x then y :: insR x r else x :: y :: r
theorem insR_eq (x : Int) : ∀ l, insR x l = l.take (posK x l) ++ x :: l.drop (posK x l)
  | [] => rfl
  | y :: r => by
    unfold insR posK
    split
    · simp [insR_eq x r]
    · simp
theorem insR_perm (x : Int) : ∀ l, (insR x l).Perm (x :: l)
  | [] => List.Perm.refl _
  | y :: r => by
    unfold insR
    split
    · exact ((insR_perm x r).cons y).trans (List.Perm.swap x y r)
    · exact List.Perm.refl _
theorem insR_up (x : Int) : ∀ l : List Int, l.Pairwise (fun a b => a ≤ b) → (insR x l).Pairwise (fun a b => a ≤ b)
  | [], _ => by simp [insR]
  | y :: r, h => by
    rw [List.pairwise_cons] at h
    unfold insR
    split
    · rename_i h1
      rw [List.pairwise_cons]
      refine ⟨fun z hz => ?_, insR_up x r h.2⟩
      rcases List.mem_cons.1 ((insR_perm x r).mem_iff.1 hz) with rfl | h2
      · exact h1
      · exact h.1 z h2
    · rename_i h1
      rw [List.pairwise_cons, List.pairwise_cons]
      refine ⟨fun z hz => ?_, h⟩
      rcases List.mem_cons.1 hz with rfl | h2
      · omega
      · have := h.1 z h2; omega
theorem sorted_unique : ∀ (a b : List Int), a.Pairwise (fun a b => a ≤ b) → b.Pairwise (fun a b => a ≤ b) → a.Perm b → a = b
  | [], b, _, _, h => (List.Perm.nil_eq h)
  | x :: a, [], _, _, h => by have := h.length_eq; simp at this
  | x :: a, y :: b, h1, h2, h => by
    have hx : y ≤ x := by
      rcases List.mem_cons.1 (h.mem_iff.1 (List.mem_cons_self)) with e | e
      · exact Int.le_of_eq e.symm
      · exact (List.pairwise_cons.1 h2).1 x e
    have hy : x ≤ y := by
      rcases List.mem_cons.1 (h.mem_iff.2 (List.mem_cons_self)) with e | e
      · exact Int.le_of_eq e.symm
      · exact (List.pairwise_cons.1 h1).1 y e
    obtain rfl : x = y := by omega
    rw [sorted_unique a b (List.pairwise_cons.1 h1).2 (List.pairwise_cons.1 h2).2 (List.Perm.cons_inv h)]
def insTo (M : List Int) (j : Nat) : List Int := (M.take j).foldl (fun out x => insR x out) []
theorem insTo_zero (M : List Int) : insTo M 0 = [] := rfl
theorem insTo_next (M : List Int) (j : Nat) (hj : j < M.length) : insTo M (j + 1) = insR (M.getD j 0) (insTo M j) := by
  unfold insTo
  rw [List.take_succ_eq_append_getElem hj, List.foldl_append]
  simp [List.getD, hj]
theorem ins_fold : ∀ (m out : List Int), out.Pairwise (fun a b => a ≤ b) → (m.foldl (fun out x => insR x out) out).Pairwise (fun a b => a ≤ b) ∧ (m.foldl (fun out x => insR x out) out).Perm (m ++ out)
  | [], out, h => ⟨h, List.Perm.refl _⟩
  | x :: m, out, h => by
    obtain ⟨h1, h2⟩ := ins_fold m (insR x out) (insR_up x out h)
    refine ⟨h1, h2.trans ?_⟩
    exact ((insR_perm x out).append_left m).trans List.perm_middle
theorem insTo_len (M : List Int) (j : Nat) (hj : j ≤ M.length) : (insTo M j).length = j := by
  have := (ins_fold (M.take j) [] List.Pairwise.nil).2.length_eq
  simp only [List.append_nil, List.length_take] at this
  unfold insTo
  omega
theorem insTo_all (M : List Int) : insTo M M.length = sortI M := by
  have h := ins_fold (M.take M.length) [] List.Pairwise.nil
  rw [List.take_length, List.append_nil] at h
  unfold insTo
  rw [List.take_length]
  refine sorted_unique _ _ h.1 ?_ (h.2.trans (sortI_perm M).symm)
  have hp : (sortI M).Pairwise (fun x y => decide (x ≤ y) = true) := List.pairwise_mergeSort (fun a b c h1 h2 => by simp at *; omega) (fun a b => by simp; omega) M
  exact hp.imp (fun h => by simpa using h)

theorem ints_one (l : List Int) : ∀ u ∈ l.map (Value.int .i64), u.oneCell' = true := by
  intro u hu
  obtain ⟨z, _, rfl⟩ := List.mem_map.1 hu
  rfl
theorem ints_form {B : Nat} {w : World} {v : Value} {l : List Int} (h : OwnInts B w v l) : (v = .slice none 0 0 ∧ l = []) ∨ ∃ g c, v = .slice (some ⟨g, 0, none⟩) l.length c ∧ l.length ≤ c ∧ B ≤ g ∧ g < w.heap.size ∧ ∀ j u, (l.map (Value.int .i64))[j]? = some u → w.cell? ⟨g, j, none⟩ = some u := by
  rcases h.2 with ⟨rfl, h0⟩ | ⟨g, cap, cur, rfl, h1, h2, h3, h4⟩
  · exact .inl ⟨rfl, List.eq_nil_of_length_eq_zero h0⟩
  · refine .inr ⟨g, cap, rfl, h3, h1, lt_of_block h2, fun j u hj => ?_⟩
    have hjl : j < l.length := by have := (List.getElem?_eq_some_iff.1 hj).1; simpa using this
    obtain ⟨_, g', e, hc⟩ := OwnInts.cells (B := B) (w := w) (ad := some ⟨g, 0, none⟩) (n := l.length) (cap := cap) ⟨h.1, .inr ⟨g, cap, cur, rfl, h1, h2, h3, h4⟩⟩ j hjl
    cases e
    rw [hc]
    simpa [List.getD, hjl] using hj
theorem ints_after {B : Nat} {w w' : World} {v : Value} {l : List Int} {row : Option Nat} (h : OwnInts B w v l) (hlt : ∀ j, row = some j → w.heap.size ≤ j ∨ v.ownBlock ≠ some j) (hg : w.grownBy w' row) : OwnInts B w' v l := by
  refine World.ownsRow.kept h hg ?_
  cases hv : v.ownBlock with
  | none => exact .inl rfl
  | some k =>
    refine .inr (fun e => ?_)
    rcases hlt k e.symm with h1 | h1
    · have := (World.ownsRow.lt h k hv).2; omega
    · exact h1 hv

set_option maxRecDepth 100000 in
set_option maxHeartbeats 8000000 in
theorem lens2_any (v : Value) (l : RL) (w : World) (hs : Smalls l) (h : RunsAt w v l) (hl : l.length ≤ 100000000) :
    Calls Try.prog 22 #[v] w fun e w' => ∃ v', e = .returned v' ∧ OwnInts w.heap.size w' v' (lensR l) ∧ Below w.heap.size w w' := by
  have hN := Lib.hid (normal2_any v l w hs h hl)
  obtain ⟨i0', hi0, hz0, hz1, hz2⟩ := info_parts info_int
  have hnl := norm_len l
  have hD : Hid (lensR l = sortI ((Runs.normR l).map (·.2))) := Lib.hid rfl
  clear h
  generalize Runs.normR l = N at *
  go_enter Try.func22, Try.ntmps22
  go_wp2_with fail
  refine hN.out.mono ?_
  rintro e w1 ⟨v1, rfl, h1, b1⟩
  have H := Lib.hid (OwnRuns.at h1)
  have B1 := Lib.hid b1
  clear b1
  obtain ⟨ad, cap, rfl⟩ : ∃ ad cap, v1 = .slice ad N.length cap := by
    rcases h1.form with ⟨rfl, rfl⟩ | ⟨g, co, rfl, _⟩
    · exact ⟨_, _, rfl⟩
    · exact ⟨_, _, rfl⟩
  clear h1
  obtain ⟨M, hM⟩ : ∃ M, Hid (N.map (·.2) = M) := ⟨_, Lib.hid rfl⟩
  rw [hM.out] at hD
  have hML : Hid (M.length = N.length) := Lib.hid (by rw [← hM.out, List.length_map])
  go_wp2_with fail
  go_loopw [3, 5] (fun p q wr => ∃ (u : Value) (i : Nat), u = p ∧ q = .int .i64 i ∧ i ≤ N.length ∧ Hid (OwnInts w1.heap.size wr u (insTo M i)) ∧ Hid (Below w1.heap.size w1 wr)) (fun _ q _ => N.length - (intOf q).toNat)
  case atStart => exact ⟨_, 0, rfl, rfl, by omega, Lib.hid (World.ownsRow_nil _ _ _ _), Lib.hid (Below.refl _ _)⟩
  case round =>
    obtain ⟨u, i, rfl, rfl, hi, ho, hb⟩ := hrel
    by_cases hlt : i < N.length
    · have i0 : (0 : Int) ≤ (i : Int) := by omega
      have i1 : (i : Int) < (N.length : Int) := by omega
      have hsz := hb.out.size
      have hOl := Lib.hid (insTo_len M i (by have := hML.out; omega))
      have hOb : (insTo M i).length ≤ 100000000 := by have := hOl.out; omega
      have hnx := Lib.hid (insTo_next M i (by have := hML.out; omega))
      have hx : M.getD i 0 = (N.getD i (0, 0)).2 := by rw [← hM.out]; simp [List.getD, hlt]
      rw [hx] at hnx
      obtain ⟨hll, g, off, rfl, _, c1⟩ := (H.out.below (B := 0) hb.out).cells i hlt
      clear hll hx
      generalize (N.getD i (0, 0)).2 = x at *
      generalize insTo M i = O at *
      have hgl : g < wr.heap.size := World.block_lt_of_cell? _ _ c1
      have hK := posK_le x O
      have hKlt := Lib.hid (posK_lt x O)
      have hKat := Lib.hid (posK_at x O)
      have hins := Lib.hid (insR_eq x O)
      generalize posK x O = K at *
      have C1 := Lib.hid c1
      clear c1
      obtain ⟨ua, uc, rfl⟩ : ∃ ua uc, u = .slice ua O.length uc := by
        rcases ints_form ho.out with ⟨rfl, rfl⟩ | ⟨gg, c, rfl, _⟩
        · exact ⟨_, _, rfl⟩
        · exact ⟨_, _, rfl⟩
      go_wp2_with fail
      go_loopw [6] (fun q wx => ∃ k : Nat, q = .int .i64 k ∧ k ≤ K ∧ Hid (Below wr.heap.size wr wx)) (fun q _ => K - (intOf q).toNat)
      case atStart => exact ⟨0, rfl, Nat.zero_le _, Lib.hid (Below.refl _ _)⟩
      case round =>
        obtain ⟨k, rfl, hk, hbx⟩ := hrel
        have c1 := (hbx.out.cell (p := ⟨g, off + i * 2 + 1, none⟩) hgl).trans C1.out
        have k0 : (0 : Int) ≤ (k : Int) := by omega
        by_cases hkK : k < K
        · have k1 : (k : Int) < (O.length : Int) := by omega
          have k1n : k < O.length := by omega
          have k1d : decide (k < O.length) = true := decide_eq_true (by omega)
          obtain ⟨_, go, rfl, co⟩ := OwnInts.cells (own_belowG ho.out hbx.out) k (by omega)
          have kx := hKlt.out k hkK
          generalize O.getD k 0 = z at *
          go_upto_region 7 with fail
          go_quiet (fail)
          have hb2 := Lib.hid (hbx.out.trans (below_dr (n := nq) (Below.refl wr.heap.size wr) |>.mono hbx.out.size))
          clear hbx
          go_wp2_with fail
          go_roundw
          case rel => exact ⟨k + 1, by go_num, by omega, hb2⟩
          case measure => simp [intOf]; omega
        · obtain rfl : k = K := by omega
          by_cases hkl : k < O.length
          · have k1 : (k : Int) < (O.length : Int) := by omega
            have k1d : decide (k < O.length) = true := decide_eq_true (by omega)
            obtain ⟨_, go, rfl, co⟩ := OwnInts.cells (own_belowG ho.out hbx.out) k (by omega)
            have kx := hKat.out hkl
            have kxd : decide (O.getD k 0 ≤ x) = false := decide_eq_false (by omega)
            generalize O.getD k 0 = z at *
            go_upto_region 7 with fail
            go_quiet (fail)
            have hb2 := Lib.hid (hbx.out.trans (below_dr (n := nq) (Below.refl wr.heap.size wr) |>.mono hbx.out.size))
            have c1q := (hb2.out.cell (p := ⟨g, off + i * 2 + 1, none⟩) hgl).trans C1.out
            have HO := Lib.hid (own_belowG ho.out hb2.out)
            have HB := Lib.hid (hb.out.trans (hb2.out.mono hsz))
            have hgl2 : g < (wr.drewN nq).heap.size := Nat.lt_of_lt_of_le hgl hb2.out.size
            clear hbx c1 hb2
            generalize wr.drewN nq = wq at *
            obtain ⟨r, hr⟩ : ∃ r, O.length = k + r := ⟨O.length - k, by omega⟩
            rw [hins.out] at hnx
            have hlt1 : (O.take k).length = k := by rw [List.length_take]; omega
            rcases ints_form HO.out with ⟨e, h0⟩ | ⟨gq, cq, e, hcap, hgB, hgw, hcs⟩
            · cases e
            · cases e
              obtain ⟨P, hP⟩ : ∃ P, Hid ((O.take k).map (Value.int .i64) = P) := ⟨_, Lib.hid rfl⟩
              obtain ⟨Q, hQ⟩ : ∃ Q, Hid ((O.drop k).map (Value.int .i64) = Q) := ⟨_, Lib.hid rfl⟩
              have hPl : P.length = k := by rw [← hP.out, List.length_map, hlt1]
              have hdl : (O.drop k).length = r := by rw [List.length_drop]; omega
              have hQl : Q.length = r := by rw [← hQ.out, List.length_map, hdl]
              have hPQ : O.map (Value.int .i64) = P ++ Q := by rw [← hP.out, ← hQ.out, ← List.map_append, List.take_append_drop]
              have hoP := ints_one (O.take k)
              have hoQ := ints_one (O.drop k)
              rw [hP.out] at hoP
              rw [hQ.out] at hoQ
              rw [hPQ] at hcs
              clear hPQ
              have hcs' : ∀ j u, (P ++ Q)[j]? = some u → wq.cell? ⟨go, j, none⟩ = some u := hcs
              have hne1 : ∀ j u, P[j]? = some u → wq.cell? ((⟨go, 0, none⟩ : Addr).add j) = some u := fun j u hj => by
                have e1 : (⟨go, 0, none⟩ : Addr).add j = ⟨go, j, none⟩ := by unfold Addr.add; split <;> simp_all
                rw [e1]
                refine hcs' j u ?_
                rw [List.getElem?_append_left (List.getElem?_eq_some_iff.1 hj).1]
                exact hj
              obtain ⟨s, rfl⟩ : ∃ s, uc = k + s := ⟨uc - k, by omega⟩
              have hrs : r ≤ s := by omega
              have q1 : (k : Int) ≤ (k : Int) + (s : Int) := by omega
              have q2 : (0 : Int) ≤ (k : Int) := by omega
              have q3 : (k : Int) + (r : Int) ≤ (k : Int) + (s : Int) := by omega
              have q4 : (k : Int) ≤ (k : Int) + (r : Int) := by omega
              go_wp2_with (first
                | (at_builtin; refine wpList_append_own _ rfl _ _ 32 rfl wq.heap.size 3 i0' (.int .i64 0) 1 8 Try.underlying32 hi0 hz0 hz1 hz2 rfl (by decide) _ 0 _ rfl (World.ownsRow_nil _ _ _ _) ⟨go, 0, none⟩ k _ P rfl (by rw [hPl, Nat.mul_one]) hne1 hoP (by unfold maxLen; omega) (by omega) (Nat.le_refl _) ?_))
              intro vn w2 hown2 hgrow2 _
              have own2 : Hid (w2.ownsRow wq.heap.size 3 1 vn k P) := Lib.hid (by simpa using hown2)
              have hcs2 : ∀ j u, (P ++ Q)[j]? = some u → w2.cell? ⟨go, j, none⟩ = some u := fun j u hj => (World.cell?_of_block (a := ⟨go, j, none⟩) (hgrow2.block go hgw (by simp [Value.ownBlock]))).trans (hcs' j u hj)
              have c12 : w2.cell? ⟨g, off + i * 2 + 1, none⟩ = some (.int .i64 x) := (World.cell?_of_block (a := ⟨g, off + i * 2 + 1, none⟩) (hgrow2.block g hgl2 (by simp [Value.ownBlock]))).trans c1q
              have z2 := hgrow2.size
              have HB2 := Lib.hid (HB.out.grown hgrow2 HB.out.size (fun k hk => by simp [Value.ownBlock] at hk))
              clear hown2 hgrow2 hne1 hcs' hcs c1q
              have G3 : (w2.alloc (.cells #[.int .i64 x] 3)).ownsRow wq.heap.size 3 1 vn k P := own_belowG own2.out ((Below.refl _ _).alloc (Nat.le_refl _) _)
              have NN : ∀ jj uu, [Value.int .i64 x][jj]? = some uu → (w2.alloc (.cells #[.int .i64 x] 3)).cell? ((⟨w2.heap.size, 0, none⟩ : Addr).add jj) = some uu := fun jj uu hjj => by
                have hadd : (⟨w2.heap.size, 0, none⟩ : Addr).add jj = ⟨w2.heap.size, jj, none⟩ := by unfold Addr.add; split <;> simp_all
                rw [hadd, World.cell?_alloc_at _ _ _ _ rfl]
                simpa using hjj
              have hone3 : ∀ u ∈ [Value.int .i64 x], u.oneCell' = true := by simp [Value.oneCell']
              go_wp2_with (first
                | (at_builtin; refine wpList_append_own _ rfl _ _ 32 rfl wq.heap.size 3 i0' (.int .i64 0) 1 8 Try.underlying32 hi0 hz0 hz1 hz2 rfl (by decide) _ k _ rfl G3 ⟨w2.heap.size, 0, none⟩ 1 1 [.int .i64 x] rfl rfl NN hone3 (by unfold maxLen; omega) (by omega) (by simp; omega) ?_))
              intro v3 w3 hown3 hgrow3 _
              have hvn : ∀ j, vn.ownBlock = some j → wq.heap.size ≤ j := fun j hj => (World.ownsRow.lt own2.out j hj).1
              have hA : ∀ j u, (P ++ Q)[j]? = some u → (w2.alloc (.cells #[.int .i64 x] 3)).cell? ⟨go, j, none⟩ = some u := fun j u hj => Lib.cell?_alloc_some _ (hcs2 j u hj)
              have hcs3 : ∀ j u, (P ++ Q)[j]? = some u → w3.cell? ⟨go, j, none⟩ = some u := fun j u hj => hgrow3.cell (hA j u hj) (fun e => by have := hvn go e.symm; omega)
              have HB3 := Lib.hid ((HB2.out.alloc HB2.out.size (.cells #[.int .i64 x] 3)).grown hgrow3 (by have := HB2.out.size; simp; omega) (fun k hk => Nat.le_trans HB.out.size (hvn k hk)))
              have own3 : Hid (w3.ownsRow wq.heap.size 3 1 v3 (k + 1) (P ++ [.int .i64 x])) := Lib.hid hown3
              have z3 := hgrow3.size
              have z3' : wq.heap.size ≤ w3.heap.size := by rw [World.size_alloc] at z3; omega
              clear hown3 hgrow3 G3 NN hcs2 c12 hA
              have hfin : insTo M (i + 1) = O.take k ++ [x] ++ O.drop k := by rw [hnx.out]; simp
              have hcsd : ∀ j u, Q[j]? = some u → w3.cell? ⟨go, k + j, none⟩ = some u := fun j u hj => by
                refine hcs3 (k + j) u ?_
                rw [List.getElem?_append_right (by omega), hPl, show k + j - k = j by omega]
                exact hj
              have FIN : ∀ v4 w4, w4.ownsRow wq.heap.size 3 1 v4 (k + 1 + r) (P ++ [.int .i64 x] ++ Q) → OwnInts w1.heap.size w4 v4 (insTo M (i + 1)) := fun v4 w4 h4 => by
                rw [hfin]
                have h5 := World.ownsRow.mono h4 HB.out.size
                unfold OwnInts
                rw [List.map_append, List.map_append, hP.out, hQ.out]
                rw [show (O.take k ++ [x] ++ O.drop k).length = k + 1 + r by simp only [List.length_append, hlt1, hdl, List.length_cons, List.length_nil]]
                exact h5
              have HF := Lib.hid FIN
              clear FIN hfin hcs3
              by_cases hs0 : s = 0
              · obtain rfl : r = 0 := by omega
                subst hs0
                have hd0 : Q = [] := List.eq_nil_of_length_eq_zero hQl
                have hne4 : ∀ j u, Q[j]? = some u → w3.cell? ((⟨go, 0, none⟩ : Addr).add j) = some u := fun j u hj => by rw [hd0] at hj; simp at hj
                go_wp2_with (first
                  | (at_builtin; refine wpList_append_own _ rfl _ _ 32 rfl wq.heap.size 3 i0' (.int .i64 0) 1 8 Try.underlying32 hi0 hz0 hz1 hz2 rfl (by decide) _ (k + 1) _ rfl own3.out ⟨go, 0, none⟩ 0 _ Q rfl (by rw [hQl]) hne4 hoQ (by unfold maxLen; omega) (by omega) z3' ?_))
                intro v4 w4 hown4 hgrow4 _
                have O4 := Lib.hid (HF.out v4 w4 (by first | (simpa using hown4) | (rw [hd0]; simpa using hown4)))
                have HB4 := Lib.hid (HB3.out.grown hgrow4 (Nat.le_trans HB.out.size z3') (fun k hk => Nat.le_trans HB.out.size (World.ownsRow.lt own3.out k hk).1))
                clear hown4 hgrow4 hne4 hcsd HF
                go_wp2_with fail
                go_roundw
                case rel => exact ⟨v4, i + 1, rfl, by go_num, by omega, O4, HB4⟩
                case measure => simp [intOf]; omega
              · have hne4 : ∀ j u, Q[j]? = some u → w3.cell? ((⟨go, k, none⟩ : Addr).add j) = some u := fun j u hj => by
                  have e1 : (⟨go, k, none⟩ : Addr).add j = ⟨go, k + j, none⟩ := by unfold Addr.add; split <;> simp_all
                  rw [e1]
                  exact hcsd j u hj
                go_wp2_with (first
                  | (at_builtin; refine wpList_append_own _ rfl _ _ 32 rfl wq.heap.size 3 i0' (.int .i64 0) 1 8 Try.underlying32 hi0 hz0 hz1 hz2 rfl (by decide) _ (k + 1) _ rfl own3.out ⟨go, k, none⟩ r _ Q rfl (by rw [hQl, Nat.mul_one]) hne4 hoQ (by unfold maxLen; omega) (by omega) z3' ?_))
                intro v4 w4 hown4 hgrow4 _
                have O4 := Lib.hid (HF.out v4 w4 (by first | (simpa using hown4) | (rw [hd0]; simpa using hown4)))
                have HB4 := Lib.hid (HB3.out.grown hgrow4 (Nat.le_trans HB.out.size z3') (fun k hk => Nat.le_trans HB.out.size (World.ownsRow.lt own3.out k hk).1))
                clear hown4 hgrow4 hne4 hcsd HF
                go_wp2_with fail
                go_roundw
                case rel => exact ⟨v4, i + 1, rfl, by go_num, by omega, O4, HB4⟩
                case measure => simp [intOf]; omega
          · have k1 : decide (k < O.length) = false := decide_eq_false hkl
            go_upto_region 7 with fail
            go_quiet (fail)
            have hb2 := Lib.hid (hbx.out.trans (below_dr (n := nq) (Below.refl wr.heap.size wr) |>.mono hbx.out.size))
            have c1q := (hb2.out.cell (p := ⟨g, off + i * 2 + 1, none⟩) hgl).trans C1.out
            have HO := Lib.hid (own_belowG ho.out hb2.out)
            have HB := Lib.hid (hb.out.trans (hb2.out.mono hsz))
            have hgl2 : g < (wr.drewN nq).heap.size := Nat.lt_of_lt_of_le hgl hb2.out.size
            clear hbx c1 hb2
            generalize wr.drewN nq = wq at *
            obtain ⟨r, hr⟩ : ∃ r, O.length = k + r := ⟨O.length - k, by omega⟩
            rw [hins.out] at hnx
            have hlt1 : (O.take k).length = k := by rw [List.length_take]; omega
            rcases ints_form HO.out with ⟨e, h0⟩ | ⟨gq, cq, e, hcap, hgB, hgw, hcs⟩
            · skip
              subst h0
              obtain rfl : k = 0 := by simpa using hK
              obtain ⟨rfl, rfl⟩ : ua = none ∧ uc = 0 := by simpa using e
              obtain rfl : r = 0 := by simp only [List.length_nil] at hr; omega
              clear hr
              go_upto_region 11 with fail
              have G3 : (wq.alloc (.cells #[.int .i64 x] 3)).ownsRow wq.heap.size 3 1 (.slice none 0 0) 0 [] := World.ownsRow_nil _ _ _ _
              have NN : ∀ jj uu, [Value.int .i64 x][jj]? = some uu → (wq.alloc (.cells #[.int .i64 x] 3)).cell? ((⟨wq.heap.size, 0, none⟩ : Addr).add jj) = some uu := fun jj uu hjj => by
                have hadd : (⟨wq.heap.size, 0, none⟩ : Addr).add jj = ⟨wq.heap.size, jj, none⟩ := by unfold Addr.add; split <;> simp_all
                rw [hadd, World.cell?_alloc_at _ _ _ _ rfl]
                simpa using hjj
              have hone3 : ∀ u ∈ [Value.int .i64 x], u.oneCell' = true := by simp [Value.oneCell']
              go_wp2_with (first
                | (at_builtin; refine wpList_append_own _ rfl _ _ 32 rfl wq.heap.size 3 i0' (.int .i64 0) 1 8 Try.underlying32 hi0 hz0 hz1 hz2 rfl (by decide) _ 0 _ rfl G3 ⟨wq.heap.size, 0, none⟩ 1 1 [.int .i64 x] rfl rfl NN hone3 (by unfold maxLen; omega) (by omega) (by simp) ?_))
              intro v3 w3 hown3 hgrow3 _
              have HB3 := Lib.hid ((HB.out.alloc HB.out.size (.cells #[.int .i64 x] 3)).grown hgrow3 (by have := HB.out.size; simp; omega) (fun k hk => by simp [Value.ownBlock] at hk))
              have hown3' : w3.ownsRow wq.heap.size 3 1 v3 1 [.int .i64 x] := by simpa using hown3
              obtain ⟨g3, c3, rfl, _, _⟩ := World.ownsRow.form hown3' (by omega)
              have hc3 : 1 ≤ c3 := by
                rcases hown3'.2 with ⟨e, _⟩ | ⟨_, _, _, e, _, _, h1, _⟩
                · cases e
                · cases e; exact h1
              have O4 : Hid (OwnInts w1.heap.size w3 (.slice (some ⟨g3, 0, none⟩) 1 c3) (insTo M (i + 1))) := Lib.hid (by
                rw [hnx.out]
                exact World.ownsRow.mono hown3' HB.out.size)
              clear hown3 hown3' hgrow3 G3 NN c1q
              go_wp2_with fail
              go_roundw
              case rel => exact ⟨_, i + 1, rfl, by go_num, by omega, O4, HB3⟩
              case measure => simp [intOf]; omega
            · cases e
              obtain ⟨P, hP⟩ : ∃ P, Hid ((O.take k).map (Value.int .i64) = P) := ⟨_, Lib.hid rfl⟩
              obtain ⟨Q, hQ⟩ : ∃ Q, Hid ((O.drop k).map (Value.int .i64) = Q) := ⟨_, Lib.hid rfl⟩
              have hPl : P.length = k := by rw [← hP.out, List.length_map, hlt1]
              have hdl : (O.drop k).length = r := by rw [List.length_drop]; omega
              have hQl : Q.length = r := by rw [← hQ.out, List.length_map, hdl]
              have hPQ : O.map (Value.int .i64) = P ++ Q := by rw [← hP.out, ← hQ.out, ← List.map_append, List.take_append_drop]
              have hoP := ints_one (O.take k)
              have hoQ := ints_one (O.drop k)
              rw [hP.out] at hoP
              rw [hQ.out] at hoQ
              rw [hPQ] at hcs
              clear hPQ
              have hcs' : ∀ j u, (P ++ Q)[j]? = some u → wq.cell? ⟨gq, j, none⟩ = some u := hcs
              have hne1 : ∀ j u, P[j]? = some u → wq.cell? ((⟨gq, 0, none⟩ : Addr).add j) = some u := fun j u hj => by
                have e1 : (⟨gq, 0, none⟩ : Addr).add j = ⟨gq, j, none⟩ := by unfold Addr.add; split <;> simp_all
                rw [e1]
                refine hcs' j u ?_
                rw [List.getElem?_append_left (List.getElem?_eq_some_iff.1 hj).1]
                exact hj
              obtain ⟨s, rfl⟩ : ∃ s, uc = k + s := ⟨uc - k, by omega⟩
              have hrs : r ≤ s := by omega
              have q1 : (k : Int) ≤ (k : Int) + (s : Int) := by omega
              have q2 : (0 : Int) ≤ (k : Int) := by omega
              have q3 : (k : Int) + (r : Int) ≤ (k : Int) + (s : Int) := by omega
              have q4 : (k : Int) ≤ (k : Int) + (r : Int) := by omega
              go_wp2_with (first
                | (at_builtin; refine wpList_append_own _ rfl _ _ 32 rfl wq.heap.size 3 i0' (.int .i64 0) 1 8 Try.underlying32 hi0 hz0 hz1 hz2 rfl (by decide) _ 0 _ rfl (World.ownsRow_nil _ _ _ _) ⟨gq, 0, none⟩ k _ P rfl (by rw [hPl, Nat.mul_one]) hne1 hoP (by unfold maxLen; omega) (by omega) (Nat.le_refl _) ?_))
              intro vn w2 hown2 hgrow2 _
              have own2 : Hid (w2.ownsRow wq.heap.size 3 1 vn k P) := Lib.hid (by simpa using hown2)
              have hcs2 : ∀ j u, (P ++ Q)[j]? = some u → w2.cell? ⟨gq, j, none⟩ = some u := fun j u hj => (World.cell?_of_block (a := ⟨gq, j, none⟩) (hgrow2.block gq hgw (by simp [Value.ownBlock]))).trans (hcs' j u hj)
              have c12 : w2.cell? ⟨g, off + i * 2 + 1, none⟩ = some (.int .i64 x) := (World.cell?_of_block (a := ⟨g, off + i * 2 + 1, none⟩) (hgrow2.block g hgl2 (by simp [Value.ownBlock]))).trans c1q
              have z2 := hgrow2.size
              have HB2 := Lib.hid (HB.out.grown hgrow2 HB.out.size (fun k hk => by simp [Value.ownBlock] at hk))
              clear hown2 hgrow2 hne1 hcs' hcs c1q
              have G3 : (w2.alloc (.cells #[.int .i64 x] 3)).ownsRow wq.heap.size 3 1 vn k P := own_belowG own2.out ((Below.refl _ _).alloc (Nat.le_refl _) _)
              have NN : ∀ jj uu, [Value.int .i64 x][jj]? = some uu → (w2.alloc (.cells #[.int .i64 x] 3)).cell? ((⟨w2.heap.size, 0, none⟩ : Addr).add jj) = some uu := fun jj uu hjj => by
                have hadd : (⟨w2.heap.size, 0, none⟩ : Addr).add jj = ⟨w2.heap.size, jj, none⟩ := by unfold Addr.add; split <;> simp_all
                rw [hadd, World.cell?_alloc_at _ _ _ _ rfl]
                simpa using hjj
              have hone3 : ∀ u ∈ [Value.int .i64 x], u.oneCell' = true := by simp [Value.oneCell']
              go_wp2_with (first
                | (at_builtin; refine wpList_append_own _ rfl _ _ 32 rfl wq.heap.size 3 i0' (.int .i64 0) 1 8 Try.underlying32 hi0 hz0 hz1 hz2 rfl (by decide) _ k _ rfl G3 ⟨w2.heap.size, 0, none⟩ 1 1 [.int .i64 x] rfl rfl NN hone3 (by unfold maxLen; omega) (by omega) (by simp; omega) ?_))
              intro v3 w3 hown3 hgrow3 _
              have hvn : ∀ j, vn.ownBlock = some j → wq.heap.size ≤ j := fun j hj => (World.ownsRow.lt own2.out j hj).1
              have hA : ∀ j u, (P ++ Q)[j]? = some u → (w2.alloc (.cells #[.int .i64 x] 3)).cell? ⟨gq, j, none⟩ = some u := fun j u hj => Lib.cell?_alloc_some _ (hcs2 j u hj)
              have hcs3 : ∀ j u, (P ++ Q)[j]? = some u → w3.cell? ⟨gq, j, none⟩ = some u := fun j u hj => hgrow3.cell (hA j u hj) (fun e => by have := hvn gq e.symm; omega)
              have HB3 := Lib.hid ((HB2.out.alloc HB2.out.size (.cells #[.int .i64 x] 3)).grown hgrow3 (by have := HB2.out.size; simp; omega) (fun k hk => Nat.le_trans HB.out.size (hvn k hk)))
              have own3 : Hid (w3.ownsRow wq.heap.size 3 1 v3 (k + 1) (P ++ [.int .i64 x])) := Lib.hid hown3
              have z3 := hgrow3.size
              have z3' : wq.heap.size ≤ w3.heap.size := by rw [World.size_alloc] at z3; omega
              clear hown3 hgrow3 G3 NN hcs2 c12 hA
              have hfin : insTo M (i + 1) = O.take k ++ [x] ++ O.drop k := by rw [hnx.out]; simp
              have hcsd : ∀ j u, Q[j]? = some u → w3.cell? ⟨gq, k + j, none⟩ = some u := fun j u hj => by
                refine hcs3 (k + j) u ?_
                rw [List.getElem?_append_right (by omega), hPl, show k + j - k = j by omega]
                exact hj
              have FIN : ∀ v4 w4, w4.ownsRow wq.heap.size 3 1 v4 (k + 1 + r) (P ++ [.int .i64 x] ++ Q) → OwnInts w1.heap.size w4 v4 (insTo M (i + 1)) := fun v4 w4 h4 => by
                rw [hfin]
                have h5 := World.ownsRow.mono h4 HB.out.size
                unfold OwnInts
                rw [List.map_append, List.map_append, hP.out, hQ.out]
                rw [show (O.take k ++ [x] ++ O.drop k).length = k + 1 + r by simp only [List.length_append, hlt1, hdl, List.length_cons, List.length_nil]]
                exact h5
              have HF := Lib.hid FIN
              clear FIN hfin hcs3
              by_cases hs0 : s = 0
              · obtain rfl : r = 0 := by omega
                subst hs0
                have hd0 : Q = [] := List.eq_nil_of_length_eq_zero hQl
                have hne4 : ∀ j u, Q[j]? = some u → w3.cell? ((⟨gq, 0, none⟩ : Addr).add j) = some u := fun j u hj => by rw [hd0] at hj; simp at hj
                go_wp2_with (first
                  | (at_builtin; refine wpList_append_own _ rfl _ _ 32 rfl wq.heap.size 3 i0' (.int .i64 0) 1 8 Try.underlying32 hi0 hz0 hz1 hz2 rfl (by decide) _ (k + 1) _ rfl own3.out ⟨gq, 0, none⟩ 0 _ Q rfl (by rw [hQl]) hne4 hoQ (by unfold maxLen; omega) (by omega) z3' ?_))
                intro v4 w4 hown4 hgrow4 _
                have O4 := Lib.hid (HF.out v4 w4 (by first | (simpa using hown4) | (rw [hd0]; simpa using hown4)))
                have HB4 := Lib.hid (HB3.out.grown hgrow4 (Nat.le_trans HB.out.size z3') (fun k hk => Nat.le_trans HB.out.size (World.ownsRow.lt own3.out k hk).1))
                clear hown4 hgrow4 hne4 hcsd HF
                go_wp2_with fail
                go_roundw
                case rel => exact ⟨v4, i + 1, rfl, by go_num, by omega, O4, HB4⟩
                case measure => simp [intOf]; omega
              · have hne4 : ∀ j u, Q[j]? = some u → w3.cell? ((⟨gq, k, none⟩ : Addr).add j) = some u := fun j u hj => by
                  have e1 : (⟨gq, k, none⟩ : Addr).add j = ⟨gq, k + j, none⟩ := by unfold Addr.add; split <;> simp_all
                  rw [e1]
                  exact hcsd j u hj
                go_wp2_with (first
                  | (at_builtin; refine wpList_append_own _ rfl _ _ 32 rfl wq.heap.size 3 i0' (.int .i64 0) 1 8 Try.underlying32 hi0 hz0 hz1 hz2 rfl (by decide) _ (k + 1) _ rfl own3.out ⟨gq, k, none⟩ r _ Q rfl (by rw [hQl, Nat.mul_one]) hne4 hoQ (by unfold maxLen; omega) (by omega) z3' ?_))
                intro v4 w4 hown4 hgrow4 _
                have O4 := Lib.hid (HF.out v4 w4 (by first | (simpa using hown4) | (rw [hd0]; simpa using hown4)))
                have HB4 := Lib.hid (HB3.out.grown hgrow4 (Nat.le_trans HB.out.size z3') (fun k hk => Nat.le_trans HB.out.size (World.ownsRow.lt own3.out k hk).1))
                clear hown4 hgrow4 hne4 hcsd HF
                go_wp2_with fail
                go_roundw
                case rel => exact ⟨v4, i + 1, rfl, by go_num, by omega, O4, HB4⟩
                case measure => simp [intOf]; omega
    · obtain rfl : i = N.length := by omega
      have O9 : Hid (OwnInts w.heap.size wr u (lensR l)) := Lib.hid (by
        rw [hD.out, ← insTo_all, hML.out]
        exact World.ownsRow.mono ho.out B1.out.size)
      have B9 := Lib.hid (B1.out.trans (hb.out.mono B1.out.size))
      go_wp2_with fail
      go_ret
      exact ⟨_, rfl, O9.out, B9.out⟩

set_option maxHeartbeats 2000000 in
theorem largest2_any (v : Value) (l : RL) (w : World) (hs : Smalls l) (h : RunsAt w v l) (hl : l.length ≤ 100000000) :
    Calls Try.prog 29 #[v] w fun e w' => e = .returned (.int .i64 ((lensR l).getLastD 0)) ∧ Below w.heap.size w w' := by
  have hN := Lib.hid (lens2_any v l w hs h hl)
  have hlen : (lensR l).length ≤ 100000000 := by
    have := norm_len l
    unfold lensR
    rw [sortI_len]
    simp; omega
  clear h
  generalize lensR l = N at *
  rcases List.eq_nil_or_concat N with rfl | ⟨N, z, rfl⟩
  · go_enter Try.func29, Try.ntmps29
    go_wp2_with fail
    refine hN.out.mono ?_
    rintro e w1 ⟨v1, rfl, h1, b1⟩
    have B1 := Lib.hid b1
    obtain ⟨ad, cap, rfl⟩ : ∃ ad cap, v1 = .slice ad 0 cap := by
      rcases h1.2 with ⟨rfl, h⟩ | ⟨g, cap, cur, rfl, _⟩
      · exact ⟨none, 0, rfl⟩
      · exact ⟨_, _, rfl⟩
    clear h1 b1
    go_wp2_with fail
    go_ret
    exact ⟨rfl, B1.out⟩
  · rw [List.concat_eq_append] at *
    have hz : (N ++ [z]).getLastD 0 = z := by simp
    rw [hz]
    clear hz
    go_enter Try.func29, Try.ntmps29
    go_wp2_with fail
    refine hN.out.mono ?_
    rintro e w1 ⟨v1, rfl, h1, b1⟩
    have B1 := Lib.hid b1
    obtain ⟨ad, n, cap, rfl⟩ : ∃ ad n cap, v1 = .slice ad n cap := by
      rcases h1.2 with ⟨rfl, h⟩ | ⟨g, cap, cur, rfl, _⟩
      · exact ⟨none, 0, 0, rfl⟩
      · exact ⟨_, _, _, rfl⟩
    obtain ⟨rfl, g, rfl, c0⟩ := h1.cells N.length (by simp)
    have hg : (N ++ [z]).getD N.length 0 = z := by simp [List.getD]
    rw [hg] at c0
    rw [show (N ++ [z]).length = N.length + 1 by simp] at *
    have k0 : ¬ (N.length : Int) + 1 = 0 := by omega
    have k1 : (N.length : Int) < (N.length : Int) + 1 := by omega
    have k2 : (0 : Int) ≤ (N.length : Int) := by omega
    clear h1 b1 hg
    go_wp2_with fail
    go_ret
    exact ⟨rfl, B1.out⟩

end Go.Proofs.Ytkpnimekhekpmaa
