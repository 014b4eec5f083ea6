/- BuffersPins: what is pinned stays. No walk. -/
import Derived.Test.YtlickjaopbcanaaReadsMath
namespace Go.Proofs.Ytlickjaopbcanaa
open Go Go.RowKit Bufs
variable {n at0 most : Nat} {D : Dev} {l : PL} {S : ByteArray} {x : PB}

theorem same_soil (d : Bool) : Same (soil d) := ⟨fun _ => rfl, fun _ => rfl, fun _ => rfl⟩
theorem same_unpin : Same unpin := ⟨fun _ => rfl, fun _ => rfl, fun _ => rfl⟩
structure PinInv (n at0 : Nat) (D : Dev) (l : PL) (S : ByteArray) : Prop where
  lt : at0 < n
  klen : D.kept.length = n
  nlen : D.now.length = n
  get : get l at0 = some ⟨at0, S, true, true, 0, 0⟩
  now : D.now.getD at0 noB = blk 0
  bs : l.Pairwise fun x y => x.b ≠ y.b
  size : S.size = 128
theorem PinInv.pinned (h : PinInv n at0 D l S) (hx : x ∈ l) (hb : x.b = at0) : x = ⟨at0, S, true, true, 0, 0⟩ := by
  obtain ⟨h1, h2⟩ := get_some h.get
  exact pair_eq h.bs x hx _ h1 hb
theorem PinInv.out (h : PinInv n at0 D l S) (hx : x ∈ l) : PinInv n at0 (outD D x) (outL D l x) S := by
  by_cases hc : (x.dirty && !x.pinned) = true
  · have e1 : outD D x = D.write x.b x.data := if_pos hc
    have e2 : outL D l x = turn l x.b (soil (decide (D.writeE x.b x.data ≠ 0))) := if_pos hc
    have hne : x.b ≠ at0 := fun e => by rw [h.pinned hx e] at hc; cases hc
    have hb := outL_bs D l x
    rw [e2] at hb ⊢
    rw [e1]
    refine ⟨h.lt, (Dev.write_len _ _ _).trans h.klen, by rw [write_now]; split <;> simp [h.nlen], ?_, ?_, bs_map hb h.bs, h.size⟩
    · rw [get_turn l x.b at0 (same_soil _), h.get]
      show some (if at0 = x.b then _ else _) = _
      rw [if_neg (fun e => hne e.symm)]
    · rw [write_now]
      split
      · rw [getD_set_ne _ _ hne]; exact h.now
      · exact h.now
  · have e1 : outD D x = D := if_neg hc
    have e2 : outL D l x = l := if_neg hc
    rw [e1, e2]; exact h
theorem PinInv.drop (h : PinInv n at0 D l S) {b : Nat} (hb : b ≠ at0) : PinInv n at0 D (but l b) S :=
  ⟨h.lt, h.klen, h.nlen, by rw [get_but, if_neg (Ne.symm hb)]; exact h.get, h.now, h.bs.filter _, h.size⟩
theorem PinInv.room (h : PinInv n at0 D l S) (most : Nat) : PinInv n at0 (roomOf D l most).2.1 (roomOf D l most).2.2 S := by
  unfold roomOf
  split
  · exact h
  · split
    · exact h
    · rename_i x hf
      have hx := find_first hf
      have hp : x.pinned = false := by have := List.find?_some hf; simpa using this
      have hne : x.b ≠ at0 := fun e => by rw [h.pinned hx e] at hp; cases hp
      split
      · have := (h.out hx).drop hne
        rw [but_outL] at this
        exact this
      · exact h.out hx
theorem PinInv.outB (h : PinInv n at0 D l S) (b : Int) : PinInv n at0 (outB D l b).2.1 (outB D l b).2.2 S := by
  unfold Go.Proofs.Ytlickjaopbcanaa.outB
  rcases bufOf_find l D.kept.length b with ⟨x, h1, hx, _⟩ | ⟨h1, _⟩
  · rw [h1]; exact h.out hx
  · rw [h1]; exact h
theorem PinInv.sync (m : Nat) : ∀ (b : Nat) (D : Dev) (l : PL), PinInv n at0 D l S → PinInv n at0 (syncN m b D l).2.1 (syncN m b D l).2.2 S := by
  induction m with
  | zero => intro b D l h; exact h
  | succ m ih =>
    intro b D l h
    show PinInv n at0 (if (Go.Proofs.Ytlickjaopbcanaa.outB D l b).1 = 0 then syncN m (b + 1) (Go.Proofs.Ytlickjaopbcanaa.outB D l b).2.1 (Go.Proofs.Ytlickjaopbcanaa.outB D l b).2.2 else Go.Proofs.Ytlickjaopbcanaa.outB D l b).2.1 (if (Go.Proofs.Ytlickjaopbcanaa.outB D l b).1 = 0 then syncN m (b + 1) (Go.Proofs.Ytlickjaopbcanaa.outB D l b).2.1 (Go.Proofs.Ytlickjaopbcanaa.outB D l b).2.2 else Go.Proofs.Ytlickjaopbcanaa.outB D l b).2.2 S
    split
    · exact ih _ _ _ (h.outB b)
    · exact h.outB b
theorem bs_last {l : PL} (h : l.Pairwise fun x y => x.b ≠ y.b) (b : Nat) (z : PB) (hz : z.b = b) : (but l b ++ [z]).Pairwise fun x y => x.b ≠ y.b := by
  refine List.pairwise_append.2 ⟨h.filter _, List.pairwise_singleton _ _, fun u hu v hv => ?_⟩
  rw [List.mem_singleton.1 hv, hz]
  exact (but_mem.1 hu).2
/-- Another one comes, or comes again. -/
theorem PinInv.last (h : PinInv n at0 D l S) {b : Nat} (z : PB) (hz : z.b = b) (T : ByteArray) (hT : T.size = 128) (h1 : b = at0 → z = ⟨at0, T, true, true, 0, 0⟩) (h2 : b ≠ at0 → T = S) : PinInv n at0 D (but l b ++ [z]) T := by
  refine ⟨h.lt, h.klen, h.nlen, ?_, h.now, bs_last h.bs b z hz, hT⟩
  subst hz
  rw [get_last]
  by_cases e : at0 = z.b
  · rw [if_pos e, ← h1 e.symm]
  · rw [if_neg e, h.get, h2 (Ne.symm e)]
theorem PinInv.getS (h : PinInv n at0 D l S) (most : Nat) (b : Int) : PinInv n at0 (getS D l most b).2.1 (getS D l most b).2.2 S := by
  unfold Go.Proofs.Ytlickjaopbcanaa.getS
  rw [h.klen]
  by_cases hb : 0 ≤ b ∧ b < n
  · rw [if_pos hb]
    obtain ⟨j, rfl⟩ : ∃ j : Nat, b = (j : Int) := ⟨b.toNat, by omega⟩
    rw [Int.toNat_natCast]
    cases hg : Bufs.get l j with
    | some x =>
      obtain ⟨hx, hxb⟩ := get_some hg
      exact h.last x hxb S h.size (fun e => h.pinned hx (hxb.trans e)) (fun _ => rfl)
    | none =>
      dsimp only
      have hr := h.room most
      have hne : j ≠ at0 := fun e => by rw [e, h.get] at hg; cases hg
      by_cases he : (roomOf D l most).1 = 0
      · rw [if_pos he]
        have hg2 := room_get (most := most) (D := D) hg
        have := hr.last (b := j) ⟨j, (roomOf D l most).2.1.readS j, false, false, 0, 0⟩ rfl S h.size (fun e => absurd e hne) (fun _ => rfl)
        rw [but_absent hg2] at this
        exact this
      · rw [if_neg he]
        exact hr
  · rw [if_neg hb]
    exact h
theorem PinInv.putS (h : PinInv n at0 D l S) (most : Nat) (b : Int) (t : ByteArray) (p : Bool) : PinInv n at0 (putS D l most b t p).2.1 (putS D l most b t p).2.2 (if b = (at0 : Int) ∧ (putS D l most b t p).1 = 0 then t else S) := by
  unfold Go.Proofs.Ytlickjaopbcanaa.putS
  rw [h.klen]
  by_cases hb : 0 ≤ b ∧ b < n
  · rw [if_pos hb]
    by_cases ht : t.size ≠ 128
    · rw [if_pos ht, if_neg (by dsimp only; omega)]
      exact h
    · rw [if_neg ht]
      have ht : t.size = 128 := by simpa using ht
      obtain ⟨j, rfl⟩ : ∃ j : Nat, b = (j : Int) := ⟨b.toNat, by omega⟩
      rw [Int.toNat_natCast]
      by_cases hj : j = at0
      · subst hj
        rw [h.get]
        dsimp only
        rw [if_pos ⟨rfl, rfl⟩]
        exact h.last ⟨j, t, true, p || true, 0, 0⟩ rfl t ht (fun _ => by rw [Bool.or_true]) (fun e => absurd rfl e)
      · have hne : ∀ q : Prop, ¬ ((j : Int) = (at0 : Int) ∧ q) := fun q k => hj (by have := k.1; omega)
        rw [if_neg (hne _)]
        cases hg : Bufs.get l j with
        | some x => exact h.last ⟨j, t, true, p || x.pinned, 0, 0⟩ rfl S h.size (fun e => absurd e hj) (fun _ => rfl)
        | none =>
          dsimp only
          have hr := h.room most
          by_cases he : (roomOf D l most).1 = 0
          · rw [if_pos he]
            have hg2 := room_get (most := most) (D := D) hg
            have := hr.last (b := j) ⟨j, t, true, p, 0, 0⟩ rfl S h.size (fun e => absurd e hj) (fun _ => rfl)
            rw [but_absent hg2] at this
            exact this
          · rw [if_neg he]
            exact hr
  · rw [if_neg hb, if_neg (by dsimp only; omega)]
    exact h
theorem PinInv.dev {D' : Dev} (h : PinInv n at0 D l S) (h1 : D'.kept.length = D.kept.length) (h2 : D'.now = D.now) : PinInv n at0 D' l S :=
  ⟨h.lt, h1.trans h.klen, by rw [h2]; exact h.nlen, h.get, by rw [h2]; exact h.now, h.bs, h.size⟩
theorem writeE_in {b : Int} {t : ByteArray} (h : D.writeE b t = 0) : 0 ≤ b ∧ b < D.kept.length := by
  unfold Dev.writeE Dev.ask at h
  by_cases c : b < 0 ∨ (D.kept.length : Int) ≤ b
  · rw [if_pos c] at h; simp at h
  · omega
theorem PinInv.write (h : PinInv n at0 D l S) (b : Int) (t : ByteArray) (hb : b ≠ (at0 : Int)) : PinInv n at0 (D.write b t) l S := by
  refine ⟨h.lt, (Dev.write_len _ _ _).trans h.klen, ?_, h.get, ?_, h.bs, h.size⟩
  · unfold Dev.write; split
    · simpa [Dev.put, Dev.acted] using h.nlen
    · exact h.nlen
  · by_cases he : D.writeE b t = 0
    · have := writeE_in he
      have e : (D.write b t).now = D.now.set b.toNat t := by unfold Dev.write; rw [if_pos he]; rfl
      rw [e, getD_set_ne _ _ (by omega)]
      exact h.now
    · have e : D.write b t = D := if_neg he
      rw [e]; exact h.now
theorem PinInv.does (h : PinInv n at0 D l S) (most r : Nat) (hr : r < 13) (x : ActC) (hsk : ¬ ((r = 6 ∨ r = 7 ∨ r = 12) ∧ x.b = (at0 : Int))) :
    PinInv n at0 (doesR r D l most x).2.1 (doesR r D l most x).2.2 (if (3 ≤ r ∧ r < 6) ∧ x.b = (at0 : Int) ∧ (doesR r D l most x).1.2 = 0 then x.what else S) := by
  by_cases h3 : r < 3
  · have e : doesR r D l most x = Go.Proofs.Ytlickjaopbcanaa.getS D l most x.b := if_pos h3
    rw [e, if_neg (by omega)]
    exact h.getS most x.b
  by_cases h6 : r < 6
  · have e : doesR r D l most x = ((⟨#[]⟩, (Go.Proofs.Ytlickjaopbcanaa.putS D l most x.b x.what x.pin).1), (Go.Proofs.Ytlickjaopbcanaa.putS D l most x.b x.what x.pin).2.1, (Go.Proofs.Ytlickjaopbcanaa.putS D l most x.b x.what x.pin).2.2) := by
      unfold doesR; rw [if_neg h3, if_pos h6]
    rw [e]
    dsimp only
    have := h.putS most x.b x.what x.pin
    by_cases c : x.b = (at0 : Int) ∧ (Go.Proofs.Ytlickjaopbcanaa.putS D l most x.b x.what x.pin).1 = 0
    · rw [if_pos c] at this
      rw [if_pos ⟨by omega, c⟩]
      exact this
    · rw [if_neg c] at this
      rw [if_neg (fun k => c k.2)]
      exact this
  rw [if_neg (by omega)]
  unfold doesR
  rw [if_neg h3, if_neg h6]
  by_cases q6 : r = 6
  · rw [if_pos q6]
    show PinInv n at0 D (unpinS D l x.b) S
    unfold unpinS atB
    split
    · have he := turn_bs l x.b.toNat (f := unpin) (fun _ => rfl)
      refine ⟨h.lt, h.klen, h.nlen, ?_, h.now, bs_map he h.bs, h.size⟩
      show Bufs.get (turn l x.b.toNat unpin) at0 = _
      rw [get_turn l x.b.toNat at0 same_unpin, h.get]
      show some (if at0 = x.b.toNat then _ else _) = _
      rw [if_neg (by omega)]
    · exact h
  rw [if_neg q6]
  by_cases q7 : r = 7
  · rw [if_pos q7]
    show PinInv n at0 D (forgetS D l x.b) S
    unfold forgetS atB
    split
    · exact h.drop (by omega)
    · exact h
  rw [if_neg q7]
  split
  · exact h.outB _
  · split
    · exact PinInv.sync _ _ _ _ h
    · split
      · exact h.dev rfl rfl
      · split
        · exact h.dev (Dev.flush_len D (by rw [h.nlen, h.klen])) (flush_now D)
        · exact h.write _ _ (by omega)
/-! ### How many there are -/
def manyTo (l : PL) : Nat → Nat
  | 0 => 0
  | m + 1 => manyTo l m + if (get l m).isSome then 1 else 0
theorem many_split (l : PL) (m : Nat) : (l.filter fun x => decide (x.b < m + 1)).length = (l.filter fun x => decide (x.b < m)).length + (l.filter fun x => x.b == m).length := by
  induction l with
  | nil => rfl
  | cons x l ih =>
    rw [List.filter_cons, List.filter_cons, List.filter_cons]
    by_cases h1 : x.b < m
    · have h2 : ¬ x.b = m := by omega
      have h3 : x.b < m + 1 := by omega
      simp [h1, h2, h3, ih]; omega
    · by_cases h2 : x.b = m
      · simp [h2, ih]; omega
      · have h3 : ¬ x.b < m + 1 := by omega
        simp [h1, h2, h3, ih]
theorem many_le (l : PL) (m : Nat) : manyTo l m ≤ (l.filter fun x => decide (x.b < m)).length := by
  induction m with
  | zero => exact Nat.zero_le _
  | succ m ih =>
    rw [many_split]
    show manyTo l m + (if (get l m).isSome then 1 else 0) ≤ _
    cases hg : Bufs.get l m with
    | none => simp; omega
    | some x =>
      obtain ⟨hx, hb⟩ := get_some hg
      have : x ∈ l.filter fun x => x.b == m := List.mem_filter.2 ⟨hx, by simp [hb]⟩
      have := List.length_pos_of_mem this
      simp; omega
theorem many_most (l : PL) (m : Nat) : manyTo l m ≤ l.length := Nat.le_trans (many_le l m) (List.length_filter_le _ _)
theorem has_some (l : PL) (n b : Nat) (h : b < n) : hasOf l n (b : Int) = (get l b).isSome := by
  unfold hasOf
  rw [decide_eq_true (by omega), Bool.true_and, Int.toNat_natCast]
theorem blocks_mem (l : PL) (so : PB → Bool) (n b : Nat) (hb : b < n) : (b : Int) ∈ (blocksOf l so n).map (fun (n : Nat) => (n : Int)) ↔ ((get l b).map so).getD false = true := by
  constructor
  · intro h
    obtain ⟨c, hc, e⟩ := List.mem_map.1 h
    have : c = b := by omega
    subst this
    exact (List.mem_filter.1 hc).2
  · intro h
    exact List.mem_map.2 ⟨b, List.mem_filter.2 ⟨by simpa using hb, h⟩, rfl⟩
theorem PinInv.isPinned (h : PinInv n at0 D l S) : (at0 : Int) ∈ (blocksOf l PB.pinned n).map (fun (n : Nat) => (n : Int)) := by rw [blocks_mem l _ n at0 h.lt, h.get]; rfl
theorem PinInv.isDirty (h : PinInv n at0 D l S) : (at0 : Int) ∈ (blocksOf l PB.dirty n).map (fun (n : Nat) => (n : Int)) := by rw [blocks_mem l _ n at0 h.lt, h.get]; rfl
theorem PinInv.isHere (h : PinInv n at0 D l S) : hasOf l n (at0 : Int) = true := by rw [has_some l n at0 h.lt, h.get]; rfl
theorem PinInv.reads (h : PinInv n at0 D l S) : D.readS (at0 : Int) = blk 0 ∧ D.ask (at0 : Int) = 0 := by
  have := h.lt
  have := h.klen
  constructor
  · unfold Dev.readS
    rw [if_neg (by omega), Int.toNat_natCast]
    exact h.now
  · exact if_neg (by omega)
/-! ### The end -/
theorem PinInv.gets (h : PinInv n at0 D l S) (most : Nat) : (Go.Proofs.Ytlickjaopbcanaa.getS D l most (at0 : Int)).1 = (S, 0) ∧ (Go.Proofs.Ytlickjaopbcanaa.getS D l most (at0 : Int)).2.1 = D := by
  have := h.lt
  have := h.klen
  unfold Go.Proofs.Ytlickjaopbcanaa.getS
  rw [if_pos (by omega), Int.toNat_natCast, h.get]
  exact ⟨rfl, rfl⟩
theorem PinInv.ends (h : PinInv n at0 D l S) (ha : D.armed = false) : (Go.Proofs.Ytlickjaopbcanaa.outB D (unpinS D l (at0 : Int)) (at0 : Int)).1 = 0 ∧
    (Go.Proofs.Ytlickjaopbcanaa.outB D (unpinS D l (at0 : Int)) (at0 : Int)).2.1.readS (at0 : Int) = S ∧ (Go.Proofs.Ytlickjaopbcanaa.outB D (unpinS D l (at0 : Int)) (at0 : Int)).2.1.ask (at0 : Int) = 0 ∧
    ¬ (at0 : Int) ∈ (blocksOf (Go.Proofs.Ytlickjaopbcanaa.outB D (unpinS D l (at0 : Int)) (at0 : Int)).2.2 PB.dirty n).map (fun (n : Nat) => (n : Int)) := by
  have hlt := h.lt
  have hk := h.klen
  have e1 : unpinS D l (at0 : Int) = turn l at0 unpin := by
    unfold unpinS atB
    rw [if_pos (by omega), Int.toNat_natCast]
  have e2 : Bufs.get (turn l at0 unpin) at0 = some ⟨at0, S, true, false, 0, 0⟩ := by
    rw [get_turn l at0 at0 same_unpin, h.get]
    show some (if at0 = at0 then _ else _) = _
    rw [if_pos rfl]
    rfl
  have e3 : bufOf (turn l at0 unpin) D.kept.length (at0 : Int) = some ⟨at0, S, true, false, 0, 0⟩ := by
    unfold bufOf
    rw [if_pos (by omega), Int.toNat_natCast]
    exact e2
  have e4 : D.writeE (at0 : Int) S = 0 := by
    unfold Dev.writeE
    have : D.ask (at0 : Int) = 0 := if_neg (by omega)
    rw [if_neg (by rw [this]; simp), if_neg (by simp [h.size]), if_neg (by simp [Dev.dead, ha])]
  have e5 : Go.Proofs.Ytlickjaopbcanaa.outB D (turn l at0 unpin) (at0 : Int) = (0, D.write (at0 : Int) S, turn (turn l at0 unpin) at0 (soil false)) := by
    unfold Go.Proofs.Ytlickjaopbcanaa.outB
    rw [e3]
    show (outE D ⟨at0, S, true, false, 0, 0⟩, outD D ⟨at0, S, true, false, 0, 0⟩, outL D (turn l at0 unpin) ⟨at0, S, true, false, 0, 0⟩) = _
    have f1 : outE D ⟨at0, S, true, false, 0, 0⟩ = D.writeE (at0 : Int) S := rfl
    have f2 : outD D ⟨at0, S, true, false, 0, 0⟩ = D.write (at0 : Int) S := rfl
    have f3 : outL D (turn l at0 unpin) ⟨at0, S, true, false, 0, 0⟩ = turn (turn l at0 unpin) at0 (soil (decide (D.writeE (at0 : Int) S ≠ 0))) := rfl
    rw [f1, f2, f3, e4]
    rfl
  rw [e1, e5]
  dsimp only
  refine ⟨rfl, ?_, ?_, ?_⟩
  · unfold Dev.readS
    rw [Dev.write_len, if_neg (by omega), Int.toNat_natCast, write_now, if_pos e4]
    exact getD_set_same _ _ _ (by rw [h.nlen]; exact hlt)
  · show (if (at0 : Int) < 0 ∨ ((D.write (at0 : Int) S).kept.length : Int) ≤ (at0 : Int) then (60 : Int) else 0) = 0
    rw [Dev.write_len, if_neg (by omega)]
  · rw [blocks_mem _ _ n at0 hlt, get_turn _ at0 at0 (same_soil false), e2]
    show ¬ (if at0 = at0 then soil false _ else _).dirty = true
    rw [if_pos rfl]
    exact Bool.false_ne_true
theorem PinInv.start (n at0 m : Nat) (h : at0 < n) (hm : 1 ≤ m) : Go.Proofs.Ytlickjaopbcanaa.putS (zeros n) [] m (at0 : Int) (blk 112) true = (0, zeros n, [⟨at0, blk 112, true, true, 0, 0⟩]) ∧ PinInv n at0 (zeros n) [⟨at0, blk 112, true, true, 0, 0⟩] (blk 112) := by
  have hk : (zeros n).kept.length = n := by simp [zeros, Dev.fresh]
  have hn : (zeros n).now = List.replicate n (blk 0) := rfl
  have hr : roomOf (zeros n) [] m = (0, zeros n, []) := if_pos hm
  constructor
  · unfold Go.Proofs.Ytlickjaopbcanaa.putS
    rw [hk, if_pos (by omega), if_neg (by simp [blk_size]), hr, Int.toNat_natCast]
    rfl
  · refine ⟨h, hk, by rw [hn]; simp, ?_, ?_, List.pairwise_singleton _ _, blk_size _⟩
    · simp [Bufs.get]
    · rw [hn]; simp [List.getD, h]

end Go.Proofs.Ytlickjaopbcanaa
