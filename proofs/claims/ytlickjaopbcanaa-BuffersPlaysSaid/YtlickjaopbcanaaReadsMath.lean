/- BuffersReads: what Get tells is what was put. No walk. -/
import Derived.Test.YtlickjaopbcanaaDoes
namespace Go.Proofs.Ytlickjaopbcanaa
open Go Go.RowKit Bufs
variable {n most : Nat} {D : Dev} {l : PL} {want : List ByteArray} {x : PB}

abbrev noB : ByteArray := ⟨#[]⟩
structure ReadInv (n : Nat) (D : Dev) (l : PL) (want : List ByteArray) : Prop where
  klen : D.kept.length = n
  len : D.now.length = n
  bs : l.Pairwise fun x y => x.b ≠ y.b
  lt : ∀ x ∈ l, x.b < n
  wl : want.length = n
  has : ∀ x ∈ l, want.getD x.b noB = x.data ∧ (x.dirty = false → D.now.getD x.b noB = x.data)
  no : ∀ b, b < n → get l b = none → D.now.getD b noB = want.getD b noB
theorem getD_set_same (l : List ByteArray) (i : Nat) (t : ByteArray) (h : i < l.length) : (l.set i t).getD i noB = t := by simp [List.getD, h]
theorem getD_set_ne (l : List ByteArray) {i j : Nat} (t : ByteArray) (h : i ≠ j) : (l.set i t).getD j noB = l.getD j noB := by simp [List.getD, List.getElem?_set_ne h]
theorem write_now (D : Dev) (b : Nat) (t : ByteArray) : (D.write b t).now = if D.writeE b t = 0 then D.now.set b t else D.now := by
  unfold Dev.write
  split
  · rfl
  · rfl
theorem turn_bs (l : PL) (c : Nat) {f : PB → PB} (hf : ∀ x, (f x).b = x.b) : (turn l c f).map PB.b = l.map PB.b := by
  unfold turn
  rw [List.map_map]
  apply List.map_congr_left
  intro x _
  show (if x.b = c then f x else x).b = x.b
  split
  · exact hf x
  · rfl
theorem bs_map {l m : PL} (h : m.map PB.b = l.map PB.b) (hl : l.Pairwise fun x y => x.b ≠ y.b) : m.Pairwise fun x y => x.b ≠ y.b := by
  have h2 : (l.map PB.b).Pairwise (· ≠ ·) := by rw [List.pairwise_map]; exact hl
  rw [← h, List.pairwise_map] at h2
  exact h2
theorem lt_map {l m : PL} {n : Nat} (h : m.map PB.b = l.map PB.b) (hl : ∀ x ∈ l, x.b < n) : ∀ x ∈ m, x.b < n := by
  intro x hx
  have : x.b ∈ m.map PB.b := List.mem_map.2 ⟨x, hx, rfl⟩
  rw [h] at this
  obtain ⟨y, hy, e⟩ := List.mem_map.1 this
  rw [← e]; exact hl y hy
theorem get_mem_iff {l : PL} {b : Nat} : get l b = none ↔ b ∉ l.map PB.b := by
  constructor
  · intro h hm
    obtain ⟨x, hx, e⟩ := List.mem_map.1 hm
    exact get_none h x hx e
  · intro h
    cases hg : get l b with
    | none => rfl
    | some x => exact absurd (List.mem_map.2 ⟨x, (get_some hg).1, (get_some hg).2⟩) h
theorem soil_b (d : Bool) : ∀ x : PB, (soil d x).b = x.b := fun _ => rfl
theorem outL_bs (D : Dev) (l : PL) (x : PB) : (outL D l x).map PB.b = l.map PB.b := by
  unfold outL
  split
  · exact turn_bs l x.b (soil_b _)
  · rfl
theorem ReadInv.out (h : ReadInv n D l want) (hx : x ∈ l) : ReadInv n (outD D x) (outL D l x) want := by
  by_cases hc : (x.dirty && !x.pinned) = true
  · have e1 : outD D x = D.write x.b x.data := if_pos hc
    have e2 : outL D l x = turn l x.b (soil (decide (D.writeE x.b x.data ≠ 0))) := if_pos hc
    have hb := outL_bs D l x
    have hxn := h.lt x hx
    rw [e2] at hb ⊢
    rw [e1]
    refine ⟨(Dev.write_len _ _ _).trans h.klen, by rw [write_now]; split <;> simp [h.len], bs_map hb h.bs, lt_map hb h.lt, h.wl, fun z hz => ?_, fun b hbn hg => ?_⟩
    · obtain ⟨u, hu, rfl⟩ := List.mem_map.1 hz
      by_cases hub : u.b = x.b
      · obtain rfl : u = x := pair_eq h.bs u hu x hx hub
        rw [if_pos rfl]
        refine ⟨(h.has u hu).1, fun hd => ?_⟩
        have hd : decide (D.writeE u.b u.data ≠ 0) = false := hd
        have hd0 : D.writeE u.b u.data = 0 := by simpa using hd
        rw [write_now, if_pos hd0]
        exact getD_set_same _ _ _ (by rw [h.len]; exact hxn)
      · rw [if_neg hub]
        refine ⟨(h.has u hu).1, fun hd => ?_⟩
        rw [write_now]
        split
        · rw [getD_set_ne _ _ (fun e => hub e.symm)]; exact (h.has u hu).2 hd
        · exact (h.has u hu).2 hd
    · have hg2 : get l b = none := by rw [get_mem_iff] at hg ⊢; rwa [hb] at hg
      have hne : x.b ≠ b := fun e => get_none hg2 x hx e
      rw [write_now]
      split
      · rw [getD_set_ne _ _ hne]; exact h.no b hbn hg2
      · exact h.no b hbn hg2
  · have e1 : outD D x = D := if_neg hc
    have e2 : outL D l x = l := if_neg hc
    rw [e1, e2]; exact h
theorem ReadInv.drop (h : ReadInv n D l want) (hx : x ∈ l) (hd : x.dirty = false) : ReadInv n D (but l x.b) want := by
  refine ⟨h.klen, h.len, h.bs.filter _, fun z hz => h.lt z (but_mem.1 hz).1, h.wl, fun z hz => h.has z (but_mem.1 hz).1, fun b hb hg => ?_⟩
  rw [get_but] at hg
  by_cases e : b = x.b
  · subst e
    have := h.has x hx
    rw [this.1, this.2 hd]
  · rw [if_neg e] at hg
    exact h.no b hb hg
theorem out_clean (D : Dev) (l : PL) (x : PB) (hx : x ∈ l) (hp : x.pinned = false) (he : outE D x = 0) : ∃ z ∈ outL D l x, z.b = x.b ∧ z.dirty = false := by
  by_cases hc : (x.dirty && !x.pinned) = true
  · have e2 : outL D l x = turn l x.b (soil (decide (D.writeE x.b x.data ≠ 0))) := if_pos hc
    have e3 : outE D x = D.writeE x.b x.data := if_pos hc
    rw [e3] at he
    rw [e2]
    refine ⟨soil (decide (D.writeE x.b x.data ≠ 0)) x, List.mem_map.2 ⟨x, hx, if_pos rfl⟩, rfl, ?_⟩
    show decide (D.writeE x.b x.data ≠ 0) = false
    simp [he]
  · have e2 : outL D l x = l := if_neg hc
    rw [e2]
    refine ⟨x, hx, rfl, ?_⟩
    cases hd : x.dirty with
    | false => rfl
    | true => exact absurd (by rw [hd, hp]; rfl) hc
theorem but_outL (D : Dev) (l : PL) (x : PB) : but (outL D l x) x.b = but l x.b := by
  unfold outL
  split
  · exact but_turn l x.b ⟨fun _ => rfl, fun _ => rfl, fun _ => rfl⟩
  · rfl
theorem ReadInv.room (h : ReadInv n D l want) (most : Nat) : ReadInv n (roomOf D l most).2.1 (roomOf D l most).2.2 want := by
  unfold roomOf
  split
  · exact h
  · split
    · exact h
    · rename_i x hf
      have hx := find_first hf
      have hp : x.pinned = false := by have := List.find?_some hf; simpa using this
      split
      · rename_i he
        obtain ⟨z, hz, hzb, hzd⟩ := out_clean D l x hx hp he
        have := (h.out hx).drop hz hzd
        rw [hzb, but_outL] at this
        exact this
      · exact h.out hx
theorem ReadInv.outB (h : ReadInv n D l want) (b : Int) : ReadInv n (outB D l b).2.1 (outB D l b).2.2 want := by
  unfold Go.Proofs.Ytlickjaopbcanaa.outB
  rcases bufOf_find l D.kept.length b with ⟨x, h1, hx, _⟩ | ⟨h1, _⟩
  · rw [h1]; exact h.out hx
  · rw [h1]; exact h
theorem ReadInv.sync (m : Nat) : ∀ (b : Nat) (D : Dev) (l : PL), ReadInv n D l want → ReadInv n (syncN m b D l).2.1 (syncN m b D l).2.2 want := by
  induction m with
  | zero => intro b D l h; exact h
  | succ m ih =>
    intro b D l h
    show ReadInv n (if (Go.Proofs.Ytlickjaopbcanaa.outB D l b).1 = 0 then syncN m (b + 1) (Go.Proofs.Ytlickjaopbcanaa.outB D l b).2.1 (Go.Proofs.Ytlickjaopbcanaa.outB D l b).2.2 else Go.Proofs.Ytlickjaopbcanaa.outB D l b).2.1 (if (Go.Proofs.Ytlickjaopbcanaa.outB D l b).1 = 0 then syncN m (b + 1) (Go.Proofs.Ytlickjaopbcanaa.outB D l b).2.1 (Go.Proofs.Ytlickjaopbcanaa.outB D l b).2.2 else Go.Proofs.Ytlickjaopbcanaa.outB D l b).2.2 want
    split
    · exact ih _ _ _ (h.outB b)
    · exact h.outB b
/-- One comes, or comes again. -/
theorem ReadInv.last (h : ReadInv n D l want) {b : Nat} (hb : b < n) (z : PB) (hzb : z.b = b) (want' : List ByteArray) (hw : want'.length = n) (hz : want'.getD b noB = z.data ∧ (z.dirty = false → D.now.getD b noB = z.data)) (hne : ∀ c, c ≠ b → want'.getD c noB = want.getD c noB) : ReadInv n D (but l b ++ [z]) want' := by
  refine ⟨h.klen, h.len, ?_, ?_, hw, ?_, fun c hc hg => ?_⟩
  · refine List.pairwise_append.2 ⟨h.bs.filter _, List.pairwise_singleton _ _, fun u hu v hv => ?_⟩
    rw [List.mem_singleton.1 hv, hzb]
    exact (but_mem.1 hu).2
  · intro u hu
    rcases List.mem_append.1 hu with h1 | h1
    · exact h.lt u (but_mem.1 h1).1
    · rw [List.mem_singleton.1 h1, hzb]; exact hb
  · intro u hu
    rcases List.mem_append.1 hu with h1 | h1
    · obtain ⟨h2, h3⟩ := but_mem.1 h1
      rw [hne _ h3]
      exact h.has u h2
    · rw [List.mem_singleton.1 h1, hzb]; exact hz
  · subst hzb
    rw [get_last] at hg
    by_cases e : c = z.b
    · rw [if_pos e] at hg; cases hg
    · rw [if_neg e] at hg
      rw [hne c e]; exact h.no c hc hg
theorem but_absent {l : PL} {b : Nat} (h : get l b = none) : but l b = l := but_none (get_none h)
theorem room_get {b : Nat} (h : get l b = none) : get (roomOf D l most).2.2 b = none := by
  unfold roomOf
  split
  · exact h
  · split
    · exact h
    · rename_i x hf
      split
      · show get (but l x.b) b = none
        rw [get_but]; split
        · rfl
        · exact h
      · show get (outL D l x) b = none
        rw [get_mem_iff] at h ⊢
        rwa [outL_bs]
theorem ReadInv.get (h : ReadInv n D l want) (most : Nat) (b : Int) : ReadInv n (getS D l most b).2.1 (getS D l most b).2.2 want ∧ ((getS D l most b).1.2 = 0 → 0 ≤ b ∧ b < n ∧ (getS D l most b).1.1 = want.getD b.toNat noB) := by
  unfold getS
  rw [h.klen]
  by_cases hb : 0 ≤ b ∧ b < n
  · rw [if_pos hb]
    obtain ⟨j, rfl⟩ : ∃ j : Nat, b = (j : Int) := ⟨b.toNat, by omega⟩
    have hj : j < n := by omega
    rw [Int.toNat_natCast]
    cases hg : Bufs.get l j with
    | some x =>
      obtain ⟨hx, hxb⟩ := get_some hg
      have hh := h.has x hx
      rw [hxb] at hh
      exact ⟨h.last hj x hxb want h.wl hh (fun _ _ => rfl), fun _ => ⟨hb.1, hb.2, hh.1.symm⟩⟩
    | none =>
      dsimp only
      have hr := h.room most
      by_cases he : (roomOf D l most).1 = 0
      · rw [if_pos he]
        have hg2 := room_get (most := most) (D := D) hg
        have hno := hr.no j hj hg2
        have hrs : (roomOf D l most).2.1.readS j = (roomOf D l most).2.1.now.getD j noB := by
          unfold Dev.readS
          rw [if_neg (by rw [hr.klen]; omega), Int.toNat_natCast]
        have := hr.last hj ⟨j, (roomOf D l most).2.1.readS j, false, false, 0, 0⟩ rfl want h.wl ⟨by rw [hrs]; exact hno.symm, fun _ => hrs.symm⟩ (fun _ _ => rfl)
        rw [but_absent hg2] at this
        exact ⟨this, fun _ => ⟨hb.1, hb.2, by rw [hrs]; exact hno⟩⟩
      · rw [if_neg he]
        exact ⟨hr, fun e => absurd e he⟩
  · rw [if_neg hb]
    exact ⟨h, fun e => by simp at e⟩
theorem ReadInv.put (h : ReadInv n D l want) (most : Nat) (b : Int) (t : ByteArray) (p : Bool) : ((putS D l most b t p).1 = 0 → 0 ≤ b ∧ b < n ∧ ReadInv n (putS D l most b t p).2.1 (putS D l most b t p).2.2 (want.set b.toNat t)) ∧ ((putS D l most b t p).1 ≠ 0 → ReadInv n (putS D l most b t p).2.1 (putS D l most b t p).2.2 want) := by
  unfold putS
  rw [h.klen]
  by_cases hb : 0 ≤ b ∧ b < n
  · rw [if_pos hb]
    by_cases ht : t.size ≠ 128
    · rw [if_pos ht]
      exact ⟨fun e => by simp at e, fun _ => h⟩
    · rw [if_neg ht]
      obtain ⟨j, rfl⟩ : ∃ j : Nat, b = (j : Int) := ⟨b.toNat, by omega⟩
      have hj : j < n := by omega
      rw [Int.toNat_natCast]
      have hs := getD_set_same want j t (by rw [h.wl]; exact hj)
      cases hg : Bufs.get l j with
      | some x =>
        exact ⟨fun _ => ⟨hb.1, hb.2, h.last hj _ rfl (want.set j t) (by simp [h.wl]) ⟨hs, fun e => by cases e⟩ (fun c hc => getD_set_ne _ _ (Ne.symm hc))⟩, fun e => absurd rfl e⟩
      | none =>
        dsimp only
        have hr := h.room most
        by_cases he : (roomOf D l most).1 = 0
        · rw [if_pos he]
          have hg2 := room_get (most := most) (D := D) hg
          have := hr.last hj ⟨j, t, true, p, 0, 0⟩ rfl (want.set j t) (by simp [h.wl]) ⟨hs, fun e => by cases e⟩ (fun c hc => getD_set_ne _ _ (Ne.symm hc))
          rw [but_absent hg2] at this
          exact ⟨fun _ => ⟨hb.1, hb.2, this⟩, fun e => absurd rfl e⟩
        · rw [if_neg he]
          exact ⟨fun e => absurd e he, fun _ => hr⟩
  · rw [if_neg hb]
    exact ⟨fun e => by simp at e, fun _ => h⟩
theorem ReadInv.turn (h : ReadInv n D l want) (b : Nat) {f : PB → PB} (hb : ∀ x, (f x).b = x.b) (hd : ∀ x, (f x).data = x.data) (hk : ∀ x, (f x).dirty = x.dirty) : ReadInv n D (turn l b f) want := by
  have he := turn_bs l b hb
  refine ⟨h.klen, h.len, bs_map he h.bs, lt_map he h.lt, h.wl, fun z hz => ?_, fun c hc hg => ?_⟩
  · obtain ⟨u, hu, rfl⟩ := List.mem_map.1 hz
    split
    · rw [hb, hd, hk]; exact h.has u hu
    · exact h.has u hu
  · rw [get_mem_iff, he, ← get_mem_iff] at hg
    exact h.no c hc hg
theorem ReadInv.dev {D' : Dev} (h : ReadInv n D l want) (h1 : D'.kept.length = D.kept.length) (h2 : D'.now = D.now) : ReadInv n D' l want :=
  ⟨h1.trans h.klen, by rw [h2]; exact h.len, h.bs, h.lt, h.wl, by rw [h2]; exact h.has, by rw [h2]; exact h.no⟩
theorem flush_now (D : Dev) : D.flush.now = D.now := by unfold Dev.flush; split <;> rfl
/-- What an act does, that neither forgets nor writes to the device. -/
theorem ReadInv.does (h : ReadInv n D l want) (hok : D.now.length = D.kept.length) (most r : Nat) (x : ActC) (h7 : r ≠ 7) (h12 : r < 12) :
    (r < 3 → ReadInv n (doesR r D l most x).2.1 (doesR r D l most x).2.2 want ∧ ((doesR r D l most x).1.2 = 0 → 0 ≤ x.b ∧ x.b < n ∧ (doesR r D l most x).1.1 = want.getD x.b.toNat noB)) ∧
    (3 ≤ r → r < 6 → ((doesR r D l most x).1.2 = 0 → 0 ≤ x.b ∧ x.b < n ∧ ReadInv n (doesR r D l most x).2.1 (doesR r D l most x).2.2 (want.set x.b.toNat x.what)) ∧ ((doesR r D l most x).1.2 ≠ 0 → ReadInv n (doesR r D l most x).2.1 (doesR r D l most x).2.2 want)) ∧
    (6 ≤ r → ReadInv n (doesR r D l most x).2.1 (doesR r D l most x).2.2 want) := by
  refine ⟨fun h3 => ?_, fun h3 h6 => ?_, fun h6 => ?_⟩
  · have e : doesR r D l most x = getS D l most x.b := if_pos h3
    rw [e]
    exact h.get most x.b
  · have e : doesR r D l most x = ((⟨#[]⟩, (putS D l most x.b x.what x.pin).1), (putS D l most x.b x.what x.pin).2.1, (putS D l most x.b x.what x.pin).2.2) := by
      unfold doesR; rw [if_neg (by omega), if_pos h6]
    rw [e]
    exact h.put most x.b x.what x.pin
  · unfold doesR
    rw [if_neg (by omega), if_neg (by omega)]
    split
    · show ReadInv n D (unpinS D l x.b) want
      unfold unpinS atB
      split
      · exact h.turn _ (fun _ => rfl) (fun _ => rfl) (fun _ => rfl)
      · exact h
    · skip
      split
      · exact h.outB _
      · split
        · exact ReadInv.sync _ _ _ _ h
        · split
          · exact h.dev rfl rfl
          · split
            · exact h.dev (Dev.flush_len D hok) (flush_now D)
            · omega

end Go.Proofs.Ytlickjaopbcanaa
