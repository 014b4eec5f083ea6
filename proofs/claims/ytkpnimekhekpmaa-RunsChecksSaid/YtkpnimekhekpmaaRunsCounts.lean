/- How many numbers a list of runs has. No program. -/
import Derived.Test.YtkpnimekhekpmaaRunsSets
namespace Go.Proofs.Ytkpnimekhekpmaa
open Go Go.RowKit

def cnt (p : Int → Bool) : Nat → Int
  | 0 => 0
  | n + 1 => cnt p n + (bif p (n : Int) then 1 else 0)
theorem cnt_congr {p q : Int → Bool} : ∀ (n : Nat), (∀ i : Nat, i < n → p i = q i) → cnt p n = cnt q n
  | 0, _ => rfl
  | n + 1, h => by
    simp only [cnt]
    rw [cnt_congr n (fun i hi => h i (by omega)), h n (by omega)]
theorem cnt_or_and (p q : Int → Bool) : ∀ n, cnt (fun i => p i || q i) n + cnt (fun i => p i && q i) n = cnt p n + cnt q n
  | 0 => rfl
  | n + 1 => by
    have h := cnt_or_and p q n
    simp only [cnt]
    cases p n <;> cases q n <;> simp <;> omega
theorem cnt_diff (p q : Int → Bool) : ∀ n, cnt (fun i => p i && !q i) n + cnt (fun i => p i && q i) n = cnt p n
  | 0 => rfl
  | n + 1 => by
    have h := cnt_diff p q n
    simp only [cnt]
    cases p n <;> cases q n <;> simp <;> omega
theorem cnt_not (p : Int → Bool) : ∀ n : Nat, cnt p n + cnt (fun i => !p i) n = n
  | 0 => rfl
  | n + 1 => by
    have h := cnt_not p n
    simp only [cnt]
    cases p n <;> simp <;> omega
theorem cnt_none : ∀ n, cnt (fun _ => false) n = 0
  | 0 => rfl
  | n + 1 => by simp [cnt, cnt_none n]
theorem cnt_int (a b : Int) (h0 : 0 ≤ a) (h1 : a ≤ b) : ∀ n : Nat, cnt (fun i => decide (a ≤ i ∧ i < b)) n = min (n : Int) b - min (n : Int) a
  | 0 => by simp only [cnt]; omega
  | n + 1 => by
    have h := cnt_int a b h0 h1 n
    simp only [cnt]
    rw [h]
    by_cases h2 : a ≤ (n : Int) ∧ (n : Int) < b
    · rw [decide_eq_true h2, cond_true]; omega
    · rw [decide_eq_false h2, cond_false]; omega
theorem cnt_bounds (p : Int → Bool) : ∀ n : Nat, 0 ≤ cnt p n ∧ cnt p n ≤ n
  | 0 => by simp [cnt]
  | n + 1 => by
    have h := cnt_bounds p n
    simp only [cnt]
    cases p n <;> simp <;> omega
theorem hasB_cons (x : Int × Int) (r : RL) (i : Int) : hasB (x :: r) i = (inB i x || hasB r i) := rfl
theorem cnt_row : ∀ (r : RL) (N : Nat), Runs.Row r → (∀ x ∈ r, Runs.fin x ≤ N) → cnt (hasB r) N = sumL (r.map (·.2))
  | [], N, _, _ => by
    show cnt (fun _ => false) N = 0
    exact cnt_none N
  | x :: r, N, h, hf => by
    have hm := h.1
    have h1 := cnt_row r N h.2.2 (fun y hy => hf y (by simp [hy]))
    have h2 := cnt_or_and (fun i => inB i x) (hasB r) N
    have h3 : cnt (fun i => inB i x && hasB r i) N = 0 := by
      rw [cnt_congr (q := fun _ => false) N (fun i hi => ?_), cnt_none]
      cases h4 : inB i x
      · rfl
      · cases h5 : hasB r i
        · rfl
        · have h6 := h.behind i ((hasB_mem r i).1 h5)
          have h7 : Runs.isIn x i := by simpa [inB] using h4
          have := h7.2.2
          omega
    have h4 : cnt (fun i => inB i x) N = x.2 := by
      rw [cnt_congr (q := fun i => decide (x.1 ≤ i ∧ i < Runs.fin x)) N (fun i hi => by
        unfold inB Runs.isIn
        simp [hm]), cnt_int _ _ (by unfold Runs.may at hm; omega) (by unfold Runs.may at hm; unfold Runs.fin; omega)]
      have := hf x (by simp)
      unfold Runs.may at hm
      unfold Runs.fin at *
      omega
    have h5 : cnt (hasB (x :: r)) N = cnt (fun i => inB i x || hasB r i) N := rfl
    simp only [List.map_cons, sumL]
    rw [h5]
    omega
theorem fin_lt {r : RL} (h : Runs.Row r) {N : Int} (hN : ∀ i, Runs.mem r i → i < N) : ∀ x ∈ r, Runs.fin x ≤ N := fun x hx => by
  have hm := h.may x hx
  have h1 := hN (Runs.fin x - 1) ⟨x, hx, hm, by unfold Runs.may at hm; unfold Runs.fin; omega, by omega⟩
  omega
theorem count_cnt (l : RL) (N : Nat) (h : ∀ i, Runs.mem l i → i < N) : countR l = cnt (hasB l) N := by
  have h1 := cnt_row (Runs.normR l) N (Runs.normR_spec l).1 (fin_lt (Runs.normR_spec l).1 (fun i hi => h i (((Runs.normR_spec l).2 i).1 hi)))
  unfold countR
  rw [← h1]
  exact cnt_congr N (fun i _ => hasB_norm l i)
theorem bool_iff {a : Bool} {p : Prop} [Decidable p] (h : a = true ↔ p) : a = decide p := by
  cases a
  · exact (decide_eq_false (fun hp => by have := h.2 hp; cases this)).symm
  · exact (decide_eq_true (h.1 rfl)).symm
theorem hasB_union (a b : RL) (i : Int) : hasB (unionR a b) i = (hasB a i || hasB b i) := by
  rw [Bool.eq_iff_iff, hasB_mem, union_mem, Bool.or_eq_true, hasB_mem, hasB_mem]
theorem hasB_meet (a b : RL) (i : Int) : hasB (Runs.meetR a b) i = (hasB a i && hasB b i) := by
  rw [Bool.eq_iff_iff, hasB_mem, meet_mem, Bool.and_eq_true, hasB_mem, hasB_mem]
theorem hasB_minus (a b : RL) (i : Int) : hasB (Runs.minusR a b) i = (hasB a i && !hasB b i) := by
  rw [Bool.eq_iff_iff, hasB_mem, minus_mem, Bool.and_eq_true, hasB_mem, Bool.not_eq_true', ← hasB_mem b i]
  simp
theorem hasB_rest (a : RL) (n i : Int) (hn : n ≤ Runs.top) (h0 : 0 ≤ i) : hasB (Runs.restR a n) i = (decide (i < n) && !hasB a i) := by
  rw [Bool.eq_iff_iff, hasB_mem, (Runs.restR_spec a n hn).2, Bool.and_eq_true, decide_eq_true_eq, Bool.not_eq_true', ← hasB_mem a i]
  simp [h0]

/-- What the counts of two lists below N are together. -/
theorem counts (x y : RL) (N : Nat) (hN : (N : Int) ≤ Runs.top) (hx : ∀ i, Runs.mem x i → i < N) (hy : ∀ i, Runs.mem y i → i < N) :
    countR (unionR x y) + countR (Runs.meetR x y) = countR x + countR y ∧ countR (Runs.minusR x y) + countR (Runs.meetR x y) = countR x ∧ countR x + countR (Runs.restR x N) = N := by
  have h1 := count_cnt (unionR x y) N (fun i hi => ((union_mem x y i).1 hi).elim (hx i) (hy i))
  have h2 := count_cnt (Runs.meetR x y) N (fun i hi => hx i ((meet_mem x y i).1 hi).1)
  have h3 := count_cnt (Runs.minusR x y) N (fun i hi => hx i ((minus_mem x y i).1 hi).1)
  have h4 := count_cnt (Runs.restR x N) N (fun i hi => (((Runs.restR_spec x N hN).2 i).1 hi).2.1)
  have h5 := count_cnt x N hx
  have h6 := count_cnt y N hy
  rw [cnt_congr (q := fun i => hasB x i || hasB y i) N (fun i _ => hasB_union x y i)] at h1
  rw [cnt_congr (q := fun i => hasB x i && hasB y i) N (fun i _ => hasB_meet x y i)] at h2
  rw [cnt_congr (q := fun i => hasB x i && !hasB y i) N (fun i _ => hasB_minus x y i)] at h3
  rw [cnt_congr (q := fun i => !hasB x i) N (fun i hi => by rw [hasB_rest x N i hN (by omega)]; simp [hi])] at h4
  have h7 := cnt_or_and (hasB x) (hasB y) N
  have h8 := cnt_diff (hasB x) (hasB y) N
  have h9 := cnt_not (hasB x) N
  omega

theorem counts_M (x y : RL) (M : Int) (h0 : 0 ≤ M) (hN : M ≤ Runs.top) (hx : ∀ i, Runs.mem x i → i < M) (hy : ∀ i, Runs.mem y i → i < M) :
    (countR (unionR x y) + countR (Runs.meetR x y) = countR x + countR y ∧ countR (Runs.minusR x y) + countR (Runs.meetR x y) = countR x ∧ countR x + countR (Runs.restR x M) = M) ∧ countR x ≤ M ∧ countR y ≤ M := by
  obtain ⟨N, rfl⟩ : ∃ N : Nat, M = N := ⟨M.toNat, by omega⟩
  refine ⟨counts x y N hN hx hy, ?_, ?_⟩
  · rw [count_cnt x N hx]
    exact (cnt_bounds _ N).2
  · rw [count_cnt y N hy]
    exact (cnt_bounds _ N).2

end Go.Proofs.Ytkpnimekhekpmaa
