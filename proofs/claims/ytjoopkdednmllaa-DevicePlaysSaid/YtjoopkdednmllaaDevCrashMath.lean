/- What a crash leaves, block by block. No program. -/
import Derived.Test.YtjoopkdednmllaaDevFlushLaw
namespace Go.Proofs.Ytjoopkdednmllaa
open Go Go.RowKit
variable {D : Dev}

/-- How many are pending ahead of a block. -/
def rank (l : List Bool) (i : Nat) : Nat := (pendTo l i).length
theorem pendTo_succ (l : List Bool) (k : Nat) : pendTo l (k + 1) = if l.getD k false = true then pendTo l k ++ [k] else pendTo l k := rfl
theorem rank_succ (l : List Bool) (i : Nat) : rank l (i + 1) = if l.getD i false = true then rank l i + 1 else rank l i := by
  unfold rank
  rw [pendTo_succ]
  split <;> simp
theorem pendTo_prefix (l : List Bool) (i : Nat) : ∀ n, i ≤ n → ∃ r, pendTo l n = pendTo l i ++ r := by
  intro n
  induction n with
  | zero => intro h; obtain rfl : i = 0 := by omega
            exact ⟨[], by simp⟩
  | succ n ih =>
    intro h
    rcases Nat.lt_or_ge i (n + 1) with h1 | h1
    · obtain ⟨r, hr⟩ := ih (by omega)
      rw [pendTo_succ, hr]
      split
      · exact ⟨r ++ [n], by simp⟩
      · exact ⟨r, rfl⟩
    · obtain rfl : i = n + 1 := by omega
      exact ⟨[], by simp⟩
theorem rank_le (l : List Bool) (i n : Nat) (h : i ≤ n) : rank l i ≤ rank l n := by
  obtain ⟨r, hr⟩ := pendTo_prefix l i n h
  unfold rank; rw [hr]; simp
theorem rank_lt (l : List Bool) (i n : Nat) (h : i < n) (hp : l.getD i false = true) : rank l i < rank l n := by
  have := rank_le l (i + 1) n (by omega)
  rw [rank_succ, if_pos hp] at this
  omega
theorem pendTo_at (l : List Bool) (i n : Nat) (h : i < n) (hp : l.getD i false = true) : (pendTo l n).getD (rank l i) 0 = i := by
  obtain ⟨r, hr⟩ := pendTo_prefix l (i + 1) n (by omega)
  rw [hr, pendTo_succ, if_pos hp]
  unfold rank
  simp [List.getD]
theorem pendTo_mem (l : List Bool) (n k : Nat) (h : k ∈ pendTo l n) : k < n ∧ l.getD k false = true := by
  induction n with
  | zero => simp [pendTo] at h
  | succ n ih =>
    rw [pendTo_succ] at h
    split at h
    · rename_i hp
      rcases List.mem_append.1 h with h | h
      · have := ih h; exact ⟨by omega, this.2⟩
      · simp at h; subst h; exact ⟨by omega, hp⟩
    · have := ih h; exact ⟨by omega, this.2⟩
/-- The k-th of the pending ones: its rank is k. -/
theorem pendTo_rank (l : List Bool) (n : Nat) : ∀ k, k < rank l n → (pendTo l n).getD k 0 < n ∧ l.getD ((pendTo l n).getD k 0) false = true ∧ rank l ((pendTo l n).getD k 0) = k := by
  induction n with
  | zero => intro k h; simp [rank, pendTo] at h
  | succ n ih =>
    intro k h
    rw [rank_succ] at h
    rw [pendTo_succ]
    split at h
    · rename_i hp
      rw [if_pos hp]
      rcases Nat.lt_or_ge k (rank l n) with h1 | h1
      · have e : (pendTo l n ++ [n]).getD k 0 = (pendTo l n).getD k 0 := by simp only [List.getD]; rw [List.getElem?_append_left h1]
        rw [e]
        have := ih k h1
        exact ⟨by omega, this.2⟩
      · obtain rfl : k = rank l n := by omega
        have e : (pendTo l n ++ [n]).getD (rank l n) 0 = n := by simp [List.getD, rank]
        rw [e]
        exact ⟨by omega, hp, rfl⟩
    · rename_i hp
      rw [if_neg hp]
      have := ih k h
      exact ⟨by omega, this.2⟩

theorem getD_set (l : List ByteArray) (i j : Nat) (t d : ByteArray) (h : i < l.length) : (l.set i t).getD j d = if i = j then t else l.getD j d := by
  simp only [List.getD, List.getElem?_set]
  split
  · rename_i e; subst e; simp [h]
  · rfl

theorem crashTo_at (D : Dev) (keep : List Bool) (n : Nat) (hn : D.pend.length = n) (hk : D.kept.length = n) (i : Nat) (hi : i < n) : ∀ m, m ≤ rank D.pend n →
    (crashTo D (pendTo D.pend n) keep m).getD i ⟨#[]⟩ = if D.pend.getD i false = true ∧ rank D.pend i < m ∧ keep.getD (rank D.pend i) false = true then D.now.getD i ⟨#[]⟩ else D.kept.getD i ⟨#[]⟩ := by
  intro m
  induction m with
  | zero => intro _; rw [if_neg (by omega)]; rfl
  | succ m ih =>
    intro hm
    have ih := ih (by omega)
    have hr := pendTo_rank D.pend n m (by omega)
    show (if keep.getD m false = true then (crashTo D (pendTo D.pend n) keep m).set ((pendTo D.pend n).getD m 0) (D.now.getD ((pendTo D.pend n).getD m 0) ⟨#[]⟩) else crashTo D (pendTo D.pend n) keep m).getD i ⟨#[]⟩ = _
    generalize (pendTo D.pend n).getD m 0 = q at *
    obtain ⟨q1, q2, q3⟩ := hr
    split
    · rename_i hkm
      rw [getD_set _ _ _ _ _ (by rw [crashTo_length, hk]; exact q1), ih]
      by_cases hqi : q = i
      · subst hqi
        rw [if_pos rfl, if_pos ⟨q2, by omega, by rw [q3]; exact hkm⟩]
      · rw [if_neg hqi]
        by_cases hp : D.pend.getD i false = true
        · have hne : rank D.pend i ≠ m := by
            intro e
            rcases Nat.lt_or_ge i q with h | h
            · have := rank_lt D.pend i q h hp; omega
            · have := rank_lt D.pend q i (by omega) q2; omega
          by_cases hx : rank D.pend i < m ∧ keep.getD (rank D.pend i) false = true
          · rw [if_pos ⟨hp, hx⟩, if_pos ⟨hp, by omega, hx.2⟩]
          · rw [if_neg (fun h => hx h.2), if_neg (fun h => hx ⟨by omega, h.2.2⟩)]
        · rw [if_neg (fun h => hp h.1), if_neg (fun h => hp h.1)]
    · rename_i hkm
      rw [ih]
      by_cases hx : D.pend.getD i false = true ∧ rank D.pend i < m ∧ keep.getD (rank D.pend i) false = true
      · rw [if_pos hx, if_pos ⟨hx.1, by omega, hx.2.2⟩]
      · rw [if_neg hx, if_neg (fun h => ?_)]
        obtain ⟨h1, h2, h3⟩ := h
        rcases Nat.lt_or_ge (rank D.pend i) m with h4 | h4
        · exact hx ⟨h1, h4, h3⟩
        · obtain e : rank D.pend i = m := by omega
          rw [e] at h3; exact hkm h3

/-- What a crash leaves, block by block. -/
theorem crash_at (D : Dev) (k : Nat) (h : D.Ok k) (keep : List Bool) (i : Nat) (hi : i < D.kept.length) :
    (D.crash keep).getD i ⟨#[]⟩ = if D.pend.getD i false = true ∧ keep.getD (rank D.pend i) false = true then D.now.getD i ⟨#[]⟩ else D.kept.getD i ⟨#[]⟩ := by
  unfold Dev.crash
  have := crashTo_at D keep D.pend.length rfl h.plen.symm i (by rw [h.plen]; exact hi) (rank D.pend D.pend.length) (Nat.le_refl _)
  rw [show (pendTo D.pend D.pend.length).length = rank D.pend D.pend.length from rfl, this]
  by_cases hp : D.pend.getD i false = true
  · have := rank_lt D.pend i D.pend.length (by rw [h.plen]; exact hi) hp
    simp only [hp, this, true_and]
  · simp only [hp, false_and, Bool.false_eq_true]
theorem crash_length (D : Dev) (keep : List Bool) : (D.crash keep).length = D.kept.length := crashTo_length _ _ _ _
theorem crash_sized (D : Dev) (k : Nat) (h : D.Ok k) (keep : List Bool) : sized (D.crash keep) :=
  crashTo_sized _ _ _ h.kept h.now h.len (fun n hn => by have := pendTo_mem _ _ _ hn; rw [← h.plen]; exact this.1) _ (Nat.le_refl _)

theorem ext_blocks (a b : List ByteArray) (hl : a.length = b.length) (h : ∀ i, i < a.length → a.getD i ⟨#[]⟩ = b.getD i ⟨#[]⟩) : a = b := by
  apply List.ext_getElem hl
  intro i h1 h2
  have := h i h1
  simpa [List.getD, h1, h2] using this

/-- What is not pending is kept. -/
def Dev.Clean (D : Dev) : Prop := ∀ i, i < D.kept.length → D.pend.getD i false = false → D.now.getD i ⟨#[]⟩ = D.kept.getD i ⟨#[]⟩
theorem crash_none (D : Dev) (k : Nat) (h : D.Ok k) : D.crash [] = D.kept :=
  ext_blocks _ _ (crash_length _ _) fun i hi => by rw [crash_at D k h [] i (by rw [← crash_length D []]; exact hi), if_neg (by simp)]
theorem crash_all (D : Dev) (k : Nat) (h : D.Ok k) (hc : D.Clean) : D.crash (List.replicate (rank D.pend D.pend.length) true) = D.now :=
  ext_blocks _ _ ((crash_length _ _).trans h.len.symm) fun i hi => by
    have hi' : i < D.kept.length := by rw [← crash_length D]; exact hi
    rw [crash_at D k h _ i hi']
    by_cases hp : D.pend.getD i false = true
    · have := rank_lt D.pend i D.pend.length (by rw [h.plen]; exact hi') hp
      rw [if_pos ⟨hp, by simp [List.getD, this]⟩]
    · rw [if_neg (fun h => hp h.1), hc i hi' (by simpa using hp)]

theorem getD_setB (l : List Bool) (i j : Nat) (t : Bool) (h : i < l.length) : (l.set i t).getD j false = if i = j then t else l.getD j false := by
  simp only [List.getD, List.getElem?_set]
  split
  · rename_i e; subst e; simp [h]
  · rfl
theorem Dev.Clean.write {D : Dev} (h : D.Clean) {k : Nat} (ho : D.Ok k) (i : Int) (t : ByteArray) : (D.write i t).Clean := by
  unfold Dev.write
  split
  · rename_i h0
    intro j hj hp
    have hi : ¬ (i < 0 ∨ (D.kept.length : Int) ≤ i) := by
      intro hx
      unfold Dev.writeE Dev.ask at h0
      rw [if_pos hx] at h0
      simp at h0
    have hin : i.toNat < D.kept.length := by omega
    change (D.pend.set i.toNat true).getD j false = false at hp
    show (D.now.set i.toNat t).getD j _ = D.kept.getD j _
    rw [getD_setB _ _ _ _ (by rw [ho.plen]; exact hin)] at hp
    rw [getD_set _ _ _ _ _ (by rw [ho.len]; exact hin)]
    split at hp
    · simp at hp
    · rename_i hne
      rw [if_neg hne]
      exact h j hj hp
  · exact h
theorem Dev.Clean.flush {D : Dev} (h : D.Clean) : D.flush.Clean := by
  unfold Dev.flush
  split
  · exact h
  · intro j _ _; rfl
theorem Dev.Clean.does {D : Dev} (h : D.Clean) {k : Nat} (ho : D.Ok k) (x : ActV) : (D.does x).Clean := by
  unfold Dev.does
  split
  · exact h.write ho _ _
  · split
    · exact h.flush
    · split
      · exact h
      · exact h
theorem Dev.Clean.plays {D : Dev} (h : D.Clean) (ho : D.Ok 0) (l : List ActV) (j : Nat) : (D.plays l j).Clean := by
  induction j with
  | zero => exact h
  | succ j ih => exact ih.does (ho.plays l j) _
theorem zeros_clean (n : Nat) : (zeros n).Clean := fun _ _ _ => rfl

/-- A block of an image. -/
theorem cat_slice (l : List ByteArray) (h : sized l) (i : Nat) (hi : i < l.length) : (txt (cat l)).extract (i * 128) ((i + 1) * 128) = l.getD i ⟨#[]⟩ := by
  have e : l.getD i ⟨#[]⟩ = l[i] := by simp [List.getD, hi]
  rw [e, txt_extract]
  have hsp : l = l.take i ++ (l[i] :: l.drop (i + 1)) := by
    rw [List.getElem_cons_drop, List.take_append_drop]
  have hc : cat l = cat (l.take i) ++ (l[i].data.toList ++ cat (l.drop (i + 1))) := by
    conv => lhs; rw [hsp]
    simp only [cat, List.map_append, List.flatten_append, List.map_cons, List.flatten_cons]
  have h1 : (cat (l.take i)).length = i * 128 := by
    rw [cat_length _ (fun s hs => h s (List.mem_of_mem_take hs)), List.length_take]; congr 1; omega
  have h2 : l[i].data.toList.length = 128 := by rw [Array.length_toList]; exact h _ (List.getElem_mem hi)
  rw [hc, ← List.append_assoc, List.take_left' (by rw [List.length_append, h1, h2]; omega), List.drop_left' h1]
  exact txt_of _

end Go.Proofs.Ytjoopkdednmllaa
