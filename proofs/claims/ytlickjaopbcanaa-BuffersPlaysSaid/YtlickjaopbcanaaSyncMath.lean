/- BuffersSync: what a Sync leaves. No walk. -/
import Derived.Test.YtlickjaopbcanaaPinsMath
namespace Go.Proofs.Ytlickjaopbcanaa
open Go Go.RowKit Bufs
variable {n most : Nat} {D : Dev} {l : PL} {want : List ByteArray} {x : PB}

/-! ### What keeps, whatever is done but to write to the device -/
def CleanInv (n : Nat) (D : Dev) (l : PL) : Prop := ∃ want, ReadInv n D l want
theorem ReadInv.forget (h : ReadInv n D l want) (b : Nat) : ReadInv n D (but l b) (want.set b (D.now.getD b noB)) := by
  refine ⟨h.klen, h.len, h.bs.filter _, fun z hz => h.lt z (but_mem.1 hz).1, by simp [h.wl], fun z hz => ?_, fun c hc hg => ?_⟩
  · obtain ⟨h1, h2⟩ := but_mem.1 hz
    rw [getD_set_ne _ _ (Ne.symm h2)]
    exact h.has z h1
  · rw [get_but] at hg
    by_cases e : c = b
    · subst e
      rw [getD_set_same _ _ _ (by rw [h.wl]; exact hc)]
    · rw [if_neg e] at hg
      rw [getD_set_ne _ _ (Ne.symm e)]
      exact h.no c hc hg
theorem CleanInv.does (h : CleanInv n D l) (most r : Nat) (x : ActC) (h12 : r < 12) : CleanInv n (doesR r D l most x).2.1 (doesR r D l most x).2.2 := by
  obtain ⟨want, h⟩ := h
  by_cases h7 : r = 7
  · subst h7
    show CleanInv n D (forgetS D l x.b)
    unfold forgetS atB
    split
    · exact ⟨_, h.forget _⟩
    · exact ⟨_, h⟩
  obtain ⟨m1, m2, m3⟩ := h.does (by rw [h.len, h.klen]) most r x h7 h12
  by_cases h3 : r < 3
  · exact ⟨_, (m1 h3).1⟩
  by_cases h6 : r < 6
  · obtain ⟨ma, mb⟩ := m2 (by omega) h6
    by_cases he : (doesR r D l most x).1.2 = 0
    · exact ⟨_, (ma he).2.2⟩
    · exact ⟨_, mb he⟩
  · exact ⟨_, m3 (by omega)⟩

/-! ### Sync -/
def dp (l : PL) (b : Nat) : Bool := ((get l b).map fun x => x.dirty && !x.pinned).getD false
def cntFrom (l : PL) (b m : Nat) : Nat := ((List.range' b m).filter (dp l)).length
def wash (b m : Nat) (x : PB) : PB := if (b ≤ x.b ∧ x.b < b + m) ∧ (x.dirty && !x.pinned) = true then soil false x else x
theorem range_lt {b m c : Nat} (h : c ∈ List.range' b m) : b ≤ c := by
  have := List.mem_range'.1 h
  obtain ⟨i, _, e⟩ := this
  omega
structure Washed (l : PL) (D : Dev) (b m : Nat) : Prop where
  ok : (syncN m b D l).1 = 0
  acts : (syncN m b D l).2.1.acts = D.acts + cntFrom l b m
  armed : (syncN m b D l).2.1.armed = false
  eq : (syncN m b D l).2.2 = l.map (wash b m)
theorem wash_zero (b : Nat) (l : PL) : l.map (wash b 0) = l := by
  conv => rhs; rw [← List.map_id l]
  apply List.map_congr_left
  intro x _
  unfold wash
  rw [if_neg (by omega)]
  rfl
theorem wash_step (l : PL) (b m : Nat) : (turn l b (fun x => if (x.dirty && !x.pinned) = true then soil false x else x)).map (wash (b + 1) m) = l.map (wash b (m + 1)) := by
  unfold turn
  rw [List.map_map]
  apply List.map_congr_left
  intro x _
  show wash (b + 1) m (if x.b = b then (if (x.dirty && !x.pinned) = true then soil false x else x) else x) = wash b (m + 1) x
  by_cases h1 : x.b = b
  · rw [if_pos h1]
    by_cases h2 : (x.dirty && !x.pinned) = true
    · rw [if_pos h2]
      unfold wash
      rw [if_neg (show ¬ ((b + 1 ≤ (soil false x).b ∧ (soil false x).b < b + 1 + m) ∧ ((soil false x).dirty && !(soil false x).pinned) = true) from fun k => by have := k.1.1; have e : (soil false x).b = x.b := rfl; omega), if_pos ⟨by omega, h2⟩]
    · rw [if_neg h2]
      unfold wash
      rw [if_neg (fun k => h2 k.2), if_neg (fun k => h2 k.2)]
  · rw [if_neg h1]
    unfold wash
    by_cases h2 : (b ≤ x.b ∧ x.b < b + (m + 1)) ∧ (x.dirty && !x.pinned) = true
    · rw [if_pos h2, if_pos ⟨by omega, h2.2⟩]
    · rw [if_neg h2, if_neg (fun k => h2 ⟨by omega, k.2⟩)]
theorem turn_id (l : PL) (b : Nat) (f : PB → PB) (h : ∀ x ∈ l, x.b = b → f x = x) : turn l b f = l := by
  unfold turn
  conv => rhs; rw [← List.map_id l]
  apply List.map_congr_left
  intro x hx
  show (if x.b = b then f x else x) = x
  split
  · rename_i e; exact h x hx e
  · rfl
theorem turn_congr (l : PL) (b : Nat) (f g : PB → PB) (h : ∀ x ∈ l, x.b = b → f x = g x) : turn l b f = turn l b g := by
  unfold turn
  apply List.map_congr_left
  intro x hx
  show (if x.b = b then f x else x) = (if x.b = b then g x else x)
  split
  · rename_i e; exact h x hx e
  · rfl
theorem writeE_ok {b : Nat} {t : ByteArray} (hb : b < D.kept.length) (ht : t.size = 128) (ha : D.armed = false) : D.writeE (b : Int) t = 0 := by
  unfold Dev.writeE
  have : D.ask (b : Int) = 0 := if_neg (by omega)
  rw [if_neg (by rw [this]; simp), if_neg (by simp [ht]), if_neg (by simp [Dev.dead, ha])]
theorem write_ok_at {b : Nat} {t : ByteArray} (hb : b < D.kept.length) (ht : t.size = 128) (ha : D.armed = false) : (D.write (b : Int) t).acts = D.acts + 1 ∧ (D.write (b : Int) t).armed = false := by
  have h := writeE_ok hb ht ha
  unfold Dev.write
  rw [if_pos h]
  exact ⟨rfl, ha⟩
/-- One block of a Sync. -/
theorem wash_one (hB : Buffers D.kept.length most l) (ha : D.armed = false) (b : Nat) (hb : b < D.kept.length) :
    outB D l (b : Int) = (0, if dp l b then D.write (b : Int) (((get l b).map PB.data).getD noB) else D, turn l b (fun x => if (x.dirty && !x.pinned) = true then soil false x else x)) := by
  have e0 : bufOf l D.kept.length (b : Int) = get l b := by
    unfold bufOf
    rw [if_pos (by omega), Int.toNat_natCast]
  unfold outB
  rw [e0]
  cases hg : Bufs.get l b with
  | none =>
    have e1 : dp l b = false := by unfold dp; rw [hg]; rfl
    rw [e1, turn_none hg]
    rfl
  | some x =>
    obtain ⟨hx, hxb⟩ := get_some hg
    have e1 : dp l b = (x.dirty && !x.pinned) := by unfold dp; rw [hg]; rfl
    rw [e1]
    by_cases hc : (x.dirty && !x.pinned) = true
    · have e2 : outE D x = D.writeE x.b x.data := if_pos hc
      have e3 : outD D x = D.write x.b x.data := if_pos hc
      have e4 : outL D l x = turn l x.b (soil (decide (D.writeE x.b x.data ≠ 0))) := if_pos hc
      have e5 : D.writeE (x.b : Int) x.data = 0 := writeE_ok (by rw [hxb]; exact hb) (hB.data x hx) ha
      show (outE D x, outD D x, outL D l x) = _
      rw [e2, e3, e4, e5, hc]
      subst hxb
      show ((0 : Int), _, turn l x.b (soil false)) = ((0 : Int), _, _)
      rw [turn_congr l x.b (soil false) (fun x => if (x.dirty && !x.pinned) = true then soil false x else x) (fun y hy e => by
        obtain rfl : y = x := pair_eq hB.bs y hy x hx e
        rw [if_pos hc])]
      rfl
    · have e2 : outE D x = 0 := if_neg hc
      have e3 : outD D x = D := if_neg hc
      have e4 : outL D l x = l := if_neg hc
      show (outE D x, outD D x, outL D l x) = _
      rw [e2, e3, e4]
      rw [if_neg hc, turn_id l b _ (fun y hy e => by
        obtain rfl : y = x := pair_eq hB.bs y hy x hx (e.trans hxb.symm)
        rw [if_neg hc])]
theorem Buffers.turned (hB : Buffers n most l) (b : Nat) : Buffers n most (turn l b (fun x => if (x.dirty && !x.pinned) = true then soil false x else x)) := by
  have hb : ∀ x : PB, (if (x.dirty && !x.pinned) = true then soil false x else x).b = x.b := fun x => by split <;> rfl
  have he := turn_bs l b hb
  refine ⟨bs_map he hB.bs, lt_map he hB.lt, by rw [turn_len]; exact hB.len, ?_, ?_⟩
  · intro y hy
    obtain ⟨x, hx, rfl⟩ := List.mem_map.1 hy
    by_cases e1 : x.b = b
    · rw [if_pos e1]
      dsimp only
      split
      · exact hB.data x hx
      · exact hB.data x hx
    · rw [if_neg e1]; exact hB.data x hx
  · intro y hy
    obtain ⟨x, hx, rfl⟩ := List.mem_map.1 hy
    by_cases e1 : x.b = b
    · rw [if_pos e1]
      dsimp only
      split
      · have := hB.zero x hx
        show ({ soil false x with used := 0, id := 0 } : PB) = soil false x
        rw [← this]
        rfl
      · exact hB.zero x hx
    · rw [if_neg e1]; exact hB.zero x hx
theorem dp_washed (l : PL) {b c : Nat} (h : c ≠ b) : dp (turn l b (fun x => if (x.dirty && !x.pinned) = true then soil false x else x)) c = dp l c := by
  unfold dp
  rw [get_turn l b c ⟨fun x => by split <;> rfl, fun x => by split <;> rfl, fun x => by split <;> rfl⟩]
  cases hg : Bufs.get l c with
  | none => rfl
  | some x =>
    have : x.b = c := (get_some hg).2
    show ((if x.b = b then _ else x).dirty && !(if x.b = b then _ else x).pinned) = _
    rw [if_neg (by omega)]
    rfl
theorem washed (m : Nat) : ∀ (b : Nat) (D : Dev) (l : PL), Buffers D.kept.length most l → D.armed = false → b + m ≤ D.kept.length → Washed l D b m := by
  induction m with
  | zero => intro b D l _ ha _; exact ⟨rfl, by simp [syncN, cntFrom], ha, (wash_zero b l).symm⟩
  | succ m ih =>
    intro b D l hB ha hb
    have h1 := wash_one hB ha b (by omega)
    have hs : syncN (m + 1) b D l = syncN m (b + 1) (outB D l b).2.1 (outB D l b).2.2 := by
      show (if (outB D l b).1 = 0 then _ else _) = _
      rw [if_pos (by rw [h1])]
    have hlen : (outB D l b).2.1.kept.length = D.kept.length := outB_len D l b
    have harm : (outB D l b).2.1.armed = false ∧ (outB D l b).2.1.acts = D.acts + (if dp l b then 1 else 0) := by
      rw [h1]
      dsimp only
      cases hd : dp l b with
      | false => exact ⟨ha, by simp⟩
      | true =>
        have hsz : (((Bufs.get l b).map PB.data).getD noB).size = 128 := by
          cases hg : Bufs.get l b with
          | none => unfold dp at hd; rw [hg] at hd; cases hd
          | some x => exact hB.data x (get_some hg).1
        have := write_ok_at (b := b) (by omega) hsz ha
        exact ⟨this.2, this.1⟩
    have h3 := ih (b + 1) (outB D l b).2.1 (outB D l b).2.2 (by rw [hlen, h1]; exact hB.turned b) harm.1 (by rw [hlen]; omega)
    have hcnt : cntFrom l b (m + 1) = (if dp l b then 1 else 0) + cntFrom (outB D l b).2.2 (b + 1) m := by
      rw [h1]
      dsimp only
      unfold cntFrom
      rw [List.range'_succ, List.filter_cons]
      have : (List.range' (b + 1) m).filter (dp (turn l b (fun x => if (x.dirty && !x.pinned) = true then soil false x else x))) = (List.range' (b + 1) m).filter (dp l) := by
        apply List.filter_congr
        intro c hc
        exact dp_washed l (by have := range_lt hc; omega)
      rw [this]
      split
      · simp; omega
      · simp
    refine ⟨by rw [hs]; exact h3.ok, ?_, by rw [hs]; exact h3.armed, ?_⟩
    · rw [hs, h3.acts, harm.2, hcnt]
      split <;> omega
    · rw [hs, h3.eq, h1]
      exact wash_step l b m

/-! ### The counts -/
theorem cnt_blocks (l : PL) (n : Nat) : ((blocksOf l PB.dirty n).filter fun b => decide (b ∉ blocksOf l PB.pinned n)).length = cntFrom l 0 n := by
  unfold cntFrom
  rw [← List.range_eq_range']
  unfold blocksOf
  rw [List.filter_filter]
  congr 1
  apply List.filter_congr
  intro b hb
  have hbn : b < n := by simpa using hb
  have hm : (b ∈ (List.range n).filter fun b => ((get l b).map PB.pinned).getD false) ↔ ((get l b).map PB.pinned).getD false = true := by
    rw [List.mem_filter]; exact ⟨fun h => h.2, fun h => ⟨hb, h⟩⟩
  unfold dp
  cases hg : Bufs.get l b with
  | none => exact Bool.and_false _
  | some x =>
    rw [hg] at hm
    have hm : (b ∈ (List.range n).filter fun b => ((get l b).map PB.pinned).getD false) ↔ x.pinned = true := hm
    show (decide (b ∉ _) && x.dirty) = (x.dirty && !x.pinned)
    cases hp : x.pinned with
    | true =>
      have e : ¬ ¬ (b ∈ (List.range n).filter fun b => ((Bufs.get l b).map PB.pinned).getD false) := fun k => k (hm.2 hp)
      rw [decide_eq_false e]; simp
    | false =>
      have e : ¬ (b ∈ (List.range n).filter fun b => ((Bufs.get l b).map PB.pinned).getD false) := fun k => by rw [hm.1 k] at hp; cases hp
      rw [decide_eq_true e]; simp
def cntN (dl pl : List Nat) : Nat → Nat
  | 0 => 0
  | j + 1 => cntN dl pl j + if decide ((dl.getD j 0 : Int) ∈ pl.map fun (n : Nat) => (n : Int)) then 0 else 1
theorem int_mem (pl : List Nat) (b : Nat) : ((b : Int) ∈ pl.map fun (n : Nat) => (n : Int)) ↔ b ∈ pl := by
  constructor
  · intro h
    obtain ⟨c, hc, e⟩ := List.mem_map.1 h
    have : c = b := by omega
    rw [← this]; exact hc
  · intro h; exact List.mem_map.2 ⟨b, h, rfl⟩
theorem cntN_take (dl pl : List Nat) (j : Nat) (hj : j ≤ dl.length) : cntN dl pl j = ((dl.take j).filter fun b => decide (b ∉ pl)).length := by
  induction j with
  | zero => rfl
  | succ j ih =>
    have e : dl.getD j 0 = dl[j] := by simp [List.getD, show j < dl.length by omega]
    show cntN dl pl j + (if decide ((dl.getD j 0 : Int) ∈ pl.map fun (n : Nat) => (n : Int)) then 0 else 1) = _
    rw [ih (by omega), List.take_succ_eq_append_getElem (by omega), List.filter_append, List.length_append, e]
    congr 1
    by_cases hm : dl[j] ∈ pl
    · rw [if_pos (by rw [decide_eq_true_eq, int_mem]; exact hm)]
      simp [hm]
    · rw [if_neg (by rw [decide_eq_true_eq, int_mem]; exact hm)]
      simp [hm]
theorem cntN_all (l : PL) (n : Nat) : cntN (blocksOf l PB.dirty n) (blocksOf l PB.pinned n) (blocksOf l PB.dirty n).length = cntFrom l 0 n := by
  rw [cntN_take _ _ _ (Nat.le_refl _), List.take_length, cnt_blocks]
theorem cntN_le (dl pl : List Nat) (j : Nat) : cntN dl pl j ≤ j := by
  induction j with
  | zero => exact Nat.le_refl 0
  | succ j ih =>
    show cntN dl pl j + (if _ then 0 else 1) ≤ _
    split <;> omega

/-! ### Behind the Sync -/
theorem wash_all (hl : ∀ x ∈ l, x.b < n) : l.map (wash 0 n) = l.map fun x => if (x.dirty && !x.pinned) = true then soil false x else x := by
  apply List.map_congr_left
  intro x hx
  have := hl x hx
  unfold wash
  by_cases h : (x.dirty && !x.pinned) = true
  · rw [if_pos ⟨by omega, h⟩, if_pos h]
  · rw [if_neg (fun k => h k.2), if_neg h]
theorem get_map (l : PL) (f : PB → PB) (hf : ∀ x, (f x).b = x.b) (b : Nat) : get (l.map f) b = (get l b).map f := by
  unfold Bufs.get
  rw [List.find?_map]
  congr 1
  apply congrArg (fun p => List.find? p l)
  funext x
  show ((f x).b == b) = (x.b == b)
  rw [hf]
theorem get_washed (hl : ∀ x ∈ l, x.b < n) (b : Nat) : get (l.map (wash 0 n)) b = (get l b).map fun x => if (x.dirty && !x.pinned) = true then soil false x else x := by
  rw [wash_all hl]
  exact get_map l _ (fun x => by split <;> rfl) b
/-- What is dirty still is pinned. -/
theorem washed_dirty (hl : ∀ x ∈ l, x.b < n) {b : Nat} (h : b ∈ blocksOf (l.map (wash 0 n)) PB.dirty n) : b ∈ blocksOf l PB.pinned n := by
  obtain ⟨h1, h2⟩ := List.mem_filter.1 h
  refine List.mem_filter.2 ⟨h1, ?_⟩
  rw [get_washed hl b] at h2
  cases hg : Bufs.get l b with
  | none => rw [hg] at h2; cases h2
  | some x =>
    rw [hg] at h2
    show x.pinned = true
    have h2 : (if (x.dirty && !x.pinned) = true then soil false x else x).dirty = true := h2
    by_cases hc : (x.dirty && !x.pinned) = true
    · rw [if_pos hc] at h2; cases h2
    · rw [if_neg hc] at h2
      rw [h2] at hc
      simpa using hc
/-- The pinned ones are those that were. -/
theorem washed_pinned (hl : ∀ x ∈ l, x.b < n) (b : Nat) : ((get (l.map (wash 0 n)) b).map PB.pinned).getD false = ((get l b).map PB.pinned).getD false := by
  rw [get_washed hl b]
  cases hg : Bufs.get l b with
  | none => rfl
  | some x =>
    show (if (x.dirty && !x.pinned) = true then soil false x else x).pinned = x.pinned
    split <;> rfl
/-- A buffer that is there is got: nothing but the order changes. -/
theorem get_again {b : Nat} (hb : b < D.kept.length) (hg : get l b = some x) : getS D l most (b : Int) = ((x.data, 0), D, but l b ++ [x]) ∧ ∀ c, get (but l b ++ [x]) c = get l c := by
  constructor
  · unfold getS
    rw [if_pos (by omega), Int.toNat_natCast, hg]
  · intro c
    have hxb := (get_some hg).2
    subst hxb
    rw [get_last]
    split
    · rename_i e; rw [e, hg]
    · rfl
theorem forget_get (D : Dev) (l : PL) (b : Int) (c : Nat) (hc : c < D.kept.length) : get (forgetS D l b) c = if (c : Int) = b then none else get l c := by
  unfold forgetS atB
  split
  · rename_i h
    show get (but l b.toNat) c = _
    rw [get_but]
    by_cases e : (c : Int) = b
    · rw [if_pos (by omega), if_pos e]
    · rw [if_neg (by omega), if_neg e]
  · rename_i h
    rw [if_neg (by omega)]
theorem forget_has (D : Dev) (l : PL) (b : Int) : hasOf (forgetS D l b) D.kept.length b = false := by
  unfold hasOf
  by_cases h : 0 ≤ b ∧ b < D.kept.length
  · rw [forget_get D l b b.toNat (by omega), if_pos (by omega)]
    simp
  · rw [decide_eq_false h]; rfl
theorem forget_not (D : Dev) (l : PL) (b : Int) (so : PB → Bool) : ¬ b ∈ (blocksOf (forgetS D l b) so D.kept.length).map fun (n : Nat) => (n : Int) := by
  intro h
  obtain ⟨c, hc, e⟩ := List.mem_map.1 h
  obtain ⟨h1, h2⟩ := List.mem_filter.1 hc
  rw [forget_get D l b c (by simpa using h1), if_pos e] at h2
  cases h2
theorem forget_pinned (D : Dev) (l m : PL) (b : Int) (h : ∀ c, ((get l c).map PB.pinned).getD false = ((get m c).map PB.pinned).getD false) :
    ((blocksOf m PB.pinned D.kept.length).map fun (n : Nat) => (n : Int)).filter (fun x => x != b) = (blocksOf (forgetS D l b) PB.pinned D.kept.length).map fun (n : Nat) => (n : Int) := by
  rw [List.filter_map]
  congr 1
  unfold blocksOf
  rw [List.filter_filter]
  apply List.filter_congr
  intro c hc
  rw [forget_get D l b c (by simpa using hc), ← h c]
  show (((c : Int) != b) && _) = _
  by_cases e : (c : Int) = b
  · rw [if_pos e]; simp [e]
  · rw [if_neg e, bne_iff_ne.2 e, Bool.true_and]

end Go.Proofs.Ytlickjaopbcanaa
