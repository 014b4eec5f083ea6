/- Binary heaps in lists: up, down, and what they keep. No program. A cache's buffers, the least recently used one first, and the queue of those that are not pinned. No program. What becomes of a cache's queue as buffers go, come, are pinned, are used. No program. -/

namespace Go.Proofs.Ytlickjaopbcanaa.Heap

/-- A queue's elements: whose they are, and their keys. -/
abbrev KL := List (Nat × Int)
def key (K : KL) (i : Nat) : Int := (K.getD i (0, 0)).2
def par (i : Nat) : Nat := (i - 1) / 2
def swapL (K : KL) (i j : Nat) : KL := (K.set i (K.getD j (0, 0))).set j (K.getD i (0, 0))
theorem swap_len (K : KL) (i j : Nat) : (swapL K i j).length = K.length := by simp [swapL]
theorem swap_at (K : KL) (i j k : Nat) (hi : i < K.length) (hj : j < K.length) : (swapL K i j).getD k (0, 0) = if k = j then K.getD i (0, 0) else if k = i then K.getD j (0, 0) else K.getD k (0, 0) := by
  unfold swapL
  simp only [List.getD, List.getElem?_set, List.length_set]
  by_cases h1 : j = k
  · subst h1; simp [hj]
  · by_cases h2 : i = k
    · subst h2; simp [h1, hi, Ne.symm h1]
    · simp [h1, h2, Ne.symm h1, Ne.symm h2]
theorem swap_key (K : KL) (i j k : Nat) (hi : i < K.length) (hj : j < K.length) : key (swapL K i j) k = if k = j then key K i else if k = i then key K j else key K k := by
  unfold key
  rw [swap_at K i j k hi hj]
  split
  · rfl
  · split <;> rfl
theorem swap_perm (K : KL) (i j : Nat) (hi : i < K.length) (hj : j < K.length) : (swapL K i j).Perm K := by
  rw [List.perm_iff_count]
  intro a
  unfold swapL
  have e1 : K.getD i (0, 0) = K[i] := by simp [List.getD, hi]
  have e2 : K.getD j (0, 0) = K[j] := by simp [List.getD, hj]
  rw [e1, e2]
  rw [List.count_set (by simpa using hj), List.count_set hi, List.getElem_set]
  have c1 : K[i] = a → 0 < K.count a := fun h => List.count_pos_iff.2 (h ▸ List.getElem_mem hi)
  have c2 : K[j] = a → 0 < K.count a := fun h => List.count_pos_iff.2 (h ▸ List.getElem_mem hj)
  by_cases hij : i = j
  · subst hij
    simp only [if_true]
    by_cases h1 : K[i] = a
    · have := c1 h1; simp [h1]; omega
    · simp [h1]
  · rw [if_neg hij]
    by_cases h1 : K[i] = a
    · by_cases h2 : K[j] = a
      · have := c1 h1; simp [h1, h2]; omega
      · have := c1 h1; simp [h1, h2]; omega
    · by_cases h2 : K[j] = a
      · have := c2 h2; simp [h1, h2]
      · simp [h1, h2]

/-- The first n of them are a heap. -/
def Heap (K : KL) (n : Nat) : Prop := ∀ i, 0 < i → i < n → key K (par i) ≤ key K i
/-- All but the one at j and its parent. -/
def UpInv (K : KL) (n j : Nat) : Prop := (∀ i, 0 < i → i < n → i ≠ j → key K (par i) ≤ key K i) ∧ (∀ i, 0 < i → i < n → par i = j → 0 < j → key K (par j) ≤ key K i)
/-- All but the one at i, its parent, and its children. -/
def GapInv (K : KL) (n i : Nat) : Prop := (∀ c, 0 < c → c < n → c ≠ i → par c ≠ i → key K (par c) ≤ key K c) ∧ (∀ c, 0 < c → c < n → par c = i → 0 < i → key K (par i) ≤ key K c)
theorem par_lt {i : Nat} (h : 0 < i) : par i < i := by unfold par; omega
theorem par_kids (c i : Nat) (h : 0 < c) : par c = i ↔ c = 2 * i + 1 ∨ c = 2 * i + 2 := by unfold par; omega

theorem up_done {K : KL} {n j : Nat} (h : UpInv K n j) (hd : j = 0 ∨ key K (par j) ≤ key K j) : Heap K n := by
  intro i h0 hn
  by_cases e : i = j
  · subst e
    rcases hd with hd | hd
    · omega
    · exact hd
  · exact h.1 i h0 hn e
theorem up_step {K : KL} {n j : Nat} (h : UpInv K n j) (hj : j < n) (hn : n ≤ K.length) (h0 : 0 < j) (hlt : key K j < key K (par j)) : UpInv (swapL K (par j) j) n (par j) := by
  have hp := par_lt h0
  have sk : ∀ k, key (swapL K (par j) j) k = if k = j then key K (par j) else if k = par j then key K j else key K k := fun k => swap_key K (par j) j k (by omega) (by omega)
  refine ⟨fun i i0 hi ne => ?_, fun i i0 hi hpi hpp => ?_⟩
  · rw [sk, sk]
    by_cases e1 : i = j
    · subst e1
      rw [if_neg (by omega), if_pos rfl, if_pos rfl]
      omega
    · rw [if_neg e1, if_neg ne]
      by_cases e2 : par i = j
      · rw [if_pos e2]
        exact h.2 i i0 hi e2 h0
      · rw [if_neg e2]
        by_cases e3 : par i = par j
        · rw [if_pos e3]
          have := h.1 i i0 hi e1
          rw [e3] at this
          omega
        · rw [if_neg e3]
          exact h.1 i i0 hi e1
  · have h1 := par_lt hpp
    have e0 : key (swapL K (par j) j) (par (par j)) = key K (par (par j)) := by rw [sk, if_neg (by omega), if_neg (by omega)]
    have h2 := h.1 (par j) hpp (by omega) (by omega)
    rw [e0, sk]
    by_cases e1 : i = j
    · rw [if_pos e1]; exact h2
    · have e2 : i ≠ par j := by have := par_lt i0; omega
      rw [if_neg e1, if_neg e2]
      have := h.1 i i0 hi e1
      rw [hpi] at this
      omega

/-- As down goes: the gap is at i; ahead of its first step its parent is not asked. -/
structure DownInv (K : KL) (n i0 i : Nat) : Prop where
  rest : ∀ c, 0 < c → c < n → c ≠ i0 → par c ≠ i → key K (par c) ≤ key K c
  kids : ∀ c, 0 < c → c < n → par c = i → 0 < i → key K (par i) ≤ key K c
  first : i = i0 ∨ (0 < i0 → key K (par i0) ≤ key K i0)
theorem down_start {K : KL} {n i : Nat} (h : GapInv K n i) : DownInv K n i i :=
  ⟨fun c c0 hc ne hp => h.1 c c0 hc ne hp, h.2, .inl rfl⟩
theorem down_done {K : KL} {n i0 i : Nat} (h : DownInv K n i0 i) (hd : ∀ c, 0 < c → c < n → par c = i → key K i ≤ key K c) (hne : i ≠ i0) : Heap K n := by
  intro c c0 hc
  by_cases e : par c = i
  · rw [e]; exact hd c c0 hc e
  · by_cases e1 : c = i0
    · rcases h.first with h1 | h1
      · exact absurd h1 hne
      · rw [e1]; exact h1 (by omega)
    · exact h.rest c c0 hc e1 e
theorem down_none {K : KL} {n i : Nat} (h : DownInv K n i i) (hd : ∀ c, 0 < c → c < n → par c = i → key K i ≤ key K c) : UpInv K n i := by
  refine ⟨fun c c0 hc ne => ?_, fun c c0 hc hp h0 => h.kids c c0 hc hp h0⟩
  by_cases e : par c = i
  · rw [e]; exact hd c c0 hc e
  · exact h.rest c c0 hc ne e
/-- One step down: j is the child with the lesser key. -/
theorem down_step {K : KL} {n i0 i j : Nat} (h : DownInv K n i0 i) (hi0 : i0 ≤ i) (hn : n ≤ K.length) (hj : 0 < j) (hjn : j < n) (hp : par j = i) (hmin : ∀ c, 0 < c → c < n → par c = i → key K j ≤ key K c) (hlt : key K j < key K i) : DownInv (swapL K i j) n i0 j := by
  have hij : i < j := by have := par_lt hj; omega
  have sk : ∀ k, key (swapL K i j) k = if k = j then key K i else if k = i then key K j else key K k := fun k => swap_key K i j k (by omega) (by omega)
  refine ⟨fun c c0 hc ne hpc => ?_, fun c c0 hc hpc _ => ?_, .inr (fun h0 => ?_)⟩
  · rw [sk, sk]
    have h1 : par c < c := par_lt c0
    by_cases e1 : c = j
    · subst e1
      rw [if_neg (by omega), if_pos hp, if_pos rfl]
      omega
    · rw [if_neg hpc, if_neg e1]
      by_cases e2 : par c = i
      · rw [if_pos e2, if_neg (by omega)]
        exact hmin c c0 hc e2
      · rw [if_neg e2]
        by_cases e3 : c = i
        · rw [if_pos e3]
          rw [e3] at c0 e2 ⊢
          exact h.kids j hj hjn hp c0
        · rw [if_neg e3]
          exact h.rest c c0 hc ne e2
  · rw [sk, sk, hp, if_neg (by omega), if_pos rfl]
    have h1 : par c < c := par_lt c0
    rw [if_neg (by omega), if_neg (by omega)]
    have := h.rest c c0 hc (by omega) (by omega)
    rwa [hpc] at this
  · rw [sk, sk]
    have h1 : par i0 < i0 := par_lt h0
    rw [if_neg (by omega), if_neg (by omega), if_neg (by omega)]
    by_cases e : i0 = i
    · rw [if_pos e]
      subst e
      exact h.kids j hj hjn hp h0
    · rw [if_neg e]
      rcases h.first with h2 | h2
      · exact absurd h2.symm e
      · exact h2 h0

theorem heap_gap {K : KL} {n i : Nat} (h : Heap K n) : GapInv K n i :=
  ⟨fun c c0 hc _ _ => h c c0 hc, fun c c0 hc hp h0 => by
    have h1 := h c c0 hc
    have h2 : i < n := by have := par_lt c0; omega
    have h3 := h i h0 h2
    rw [hp] at h1
    omega⟩
/-- Another element stands at i. -/
theorem gap_set {K : KL} {n i : Nat} (h : Heap K n) (x : Nat × Int) (_hn : n ≤ K.length) : GapInv (K.set i x) n i := by
  have hk : ∀ k, k ≠ i → key (K.set i x) k = key K k := fun k hk => by unfold key; simp [List.getD, Ne.symm hk]
  refine ⟨fun c c0 hc ne hp => by rw [hk c ne, hk _ hp]; exact h c c0 hc, fun c c0 hc hp h0 => ?_⟩
  have h1 := par_lt h0
  have h2 := par_lt c0
  rw [hk c (by omega), hk _ (by omega)]
  exact (heap_gap h).2 c c0 hc hp h0
theorem heap_less {K : KL} {n m : Nat} (h : Heap K n) (hm : m ≤ n) : Heap K m := fun i h0 hi => h i h0 (by omega)
theorem heap_take {K : KL} {n : Nat} (h : Heap K n) : Heap (K.take n) n := by
  intro i h0 hi
  have hk : ∀ k, k < n → key (K.take n) k = key K k := fun k hk => by unfold key; simp [List.getD, hk]
  rw [hk i hi, hk _ (by have := par_lt h0; omega)]
  exact h i h0 hi
/-- One more behind a heap. -/
theorem up_push {K : KL} (h : Heap K K.length) (x : Nat × Int) : UpInv (K ++ [x]) (K.length + 1) K.length := by
  have hk : ∀ k, k < K.length → key (K ++ [x]) k = key K k := fun k hk => by unfold key; simp [List.getD, List.getElem?_append_left hk]
  refine ⟨fun i h0 hi ne => ?_, fun i h0 hi hp _ => by have := par_lt h0; omega⟩
  have := par_lt h0
  rw [hk i (by omega), hk _ (by omega)]
  exact h i h0 (by omega)
/-- The first one is the least. -/
theorem heap_top {K : KL} (h : Heap K K.length) : ∀ i, i < K.length → key K 0 ≤ key K i := by
  intro i
  induction i using Nat.strongRecOn with
  | ind i ih =>
    intro hi
    by_cases h0 : i = 0
    · subst h0; exact Int.le_refl _
    · have h1 := par_lt (show 0 < i by omega)
      have := ih (par i) h1 (by omega)
      have := h i (by omega) hi
      omega

end Go.Proofs.Ytlickjaopbcanaa.Heap

namespace Go.Proofs.Ytlickjaopbcanaa.Bufs

/-- A buffer: of which block, what it holds, whether it is dirty, pinned; when it was used; where it lies. -/
structure PB where
  b : Nat
  data : ByteArray
  dirty : Bool
  pinned : Bool
  used : Int
  id : Nat
abbrev PL := List PB
def free (L : PL) : PL := L.filter fun x => !x.pinned
def qs (L : PL) : Heap.KL := (free L).map fun x => (x.id, x.used)
def but (L : PL) (b : Nat) : PL := L.filter fun x => x.b != b
def get (L : PL) (b : Nat) : Option PB := L.find? fun x => x.b == b

structure Inv (n most : Nat) (clock : Int) (L : PL) : Prop where
  asc : L.Pairwise fun x y => x.used < y.used
  top : ∀ x ∈ L, x.used ≤ clock
  low : ∀ x ∈ L, 0 ≤ x.used
  bs : L.Pairwise fun x y => x.b ≠ y.b
  ids : L.Pairwise fun x y => x.id ≠ y.id
  lt : ∀ x ∈ L, x.b < n
  len : L.length ≤ most

theorem get_some {L : PL} {b : Nat} {x : PB} (h : get L b = some x) : x ∈ L ∧ x.b = b := by
  refine ⟨List.mem_of_find?_eq_some h, ?_⟩
  have := List.find?_some h
  simpa using this
theorem get_none {L : PL} {b : Nat} (h : get L b = none) : ∀ x ∈ L, x.b ≠ b := by
  intro x hx e
  have := List.find?_eq_none.1 h x hx
  simp [e] at this
theorem pair_eq {α : Type} {β : Type} {f : α → β} : ∀ {L : List α}, L.Pairwise (fun x y => f x ≠ f y) → ∀ x ∈ L, ∀ y ∈ L, f x = f y → x = y
  | [], _, x, hx, _, _, _ => by cases hx
  | z :: L, h, x, hx, y, hy, e => by
    obtain ⟨h1, h2⟩ := List.pairwise_cons.1 h
    rcases List.mem_cons.1 hx with ex | hx'
    · rcases List.mem_cons.1 hy with ey | hy'
      · rw [ex, ey]
      · rw [ex] at e; exact absurd e (h1 y hy')
    · rcases List.mem_cons.1 hy with ey | hy'
      · rw [ey] at e; exact absurd e.symm (h1 x hx')
      · exact pair_eq h2 x hx' y hy' e
theorem get_of {n most : Nat} {clock : Int} {L : PL} (h : Inv n most clock L) {x : PB} (hx : x ∈ L) : get L x.b = some x := by
  cases hg : get L x.b with
  | none => exact absurd rfl (get_none hg x hx)
  | some y =>
    obtain ⟨hy, e⟩ := get_some hg
    rw [pair_eq h.bs y hy x hx e]
theorem but_mem {L : PL} {b : Nat} {x : PB} : x ∈ but L b ↔ x ∈ L ∧ x.b ≠ b := by simp [but]
theorem but_none {L : PL} {b : Nat} (h : ∀ x ∈ L, x.b ≠ b) : but L b = L := by
  unfold but
  rw [List.filter_eq_self]
  intro x hx
  simp [h x hx]
/-- The one goes: the others are as they were, and one less. -/
theorem but_perm {n most : Nat} {clock : Int} {L : PL} (h : Inv n most clock L) {x : PB} (hx : x ∈ L) : L.Perm (x :: but L x.b) := by
  have hb := h.bs
  clear h
  induction L with
  | nil => cases hx
  | cons z L ih =>
    obtain ⟨h1, h2⟩ := List.pairwise_cons.1 hb
    rcases List.mem_cons.1 hx with e | hx
    · subst e
      have : but (x :: L) x.b = L := by
        have e2 := but_none (L := L) (b := x.b) (fun y hy => (h1 y hy).symm)
        unfold but at e2 ⊢
        rw [List.filter_cons, e2]
        simp
      rw [this]
    · have hne : z.b ≠ x.b := h1 x hx
      have : but (z :: L) x.b = z :: but L x.b := by
        unfold but
        rw [List.filter_cons]
        simp [hne]
      rw [this]
      exact ((ih hx h2).cons z).trans (List.Perm.swap _ _ _)
theorem but_len {n most : Nat} {clock : Int} {L : PL} (h : Inv n most clock L) {x : PB} (hx : x ∈ L) : L.length = (but L x.b).length + 1 := by
  have := (but_perm h hx).length_eq
  simpa using this
theorem but_inv {n most : Nat} {clock : Int} {L : PL} (h : Inv n most clock L) (b : Nat) : Inv n most clock (but L b) :=
  ⟨h.asc.filter _, fun x hx => h.top x (but_mem.1 hx).1, fun x hx => h.low x (but_mem.1 hx).1, h.bs.filter _, h.ids.filter _, fun x hx => h.lt x (but_mem.1 hx).1, Nat.le_trans (List.length_filter_le _ _) h.len⟩
/-- One comes, or comes again, at the end. -/
theorem end_inv {n most : Nat} {clock : Int} {L : PL} (h : Inv n most clock L) (x : PB) (hb : ∀ y ∈ L, y.b ≠ x.b) (hi : ∀ y ∈ L, y.id ≠ x.id) (hu : clock < x.used) (h0 : 0 ≤ x.used) (hn : x.b < n) (hl : L.length < most) : Inv n most x.used (L ++ [x]) := by
  refine ⟨?_, ?_, ?_, ?_, ?_, ?_, by simp; omega⟩
  · refine List.pairwise_append.2 ⟨h.asc, List.pairwise_singleton _ _, fun y hy z hz => ?_⟩
    obtain rfl := List.mem_singleton.1 hz
    have := h.top y hy; omega
  · intro y hy
    rcases List.mem_append.1 hy with hy | hy
    · have := h.top y hy; omega
    · obtain rfl := List.mem_singleton.1 hy; exact Int.le_refl _
  · intro y hy
    rcases List.mem_append.1 hy with hy | hy
    · exact h.low y hy
    · obtain rfl := List.mem_singleton.1 hy; exact h0
  · refine List.pairwise_append.2 ⟨h.bs, List.pairwise_singleton _ _, fun y hy z hz => ?_⟩
    obtain rfl := List.mem_singleton.1 hz; exact hb y hy
  · refine List.pairwise_append.2 ⟨h.ids, List.pairwise_singleton _ _, fun y hy z hz => ?_⟩
    obtain rfl := List.mem_singleton.1 hz; exact hi y hy
  · intro y hy
    rcases List.mem_append.1 hy with hy | hy
    · exact h.lt y hy
    · obtain rfl := List.mem_singleton.1 hy; exact hn
/-- One is turned in its place: nothing but what it holds, whether it is dirty, pinned. -/
def turn (L : PL) (b : Nat) (f : PB → PB) : PL := L.map fun x => if x.b = b then f x else x
structure Same (f : PB → PB) : Prop where
  b : ∀ x, (f x).b = x.b
  used : ∀ x, (f x).used = x.used
  id : ∀ x, (f x).id = x.id
theorem turn_inv {n most : Nat} {clock : Int} {L : PL} (h : Inv n most clock L) (b : Nat) {f : PB → PB} (hf : Same f) : Inv n most clock (turn L b f) := by
  have e1 : ∀ x : PB, (if x.b = b then f x else x).b = x.b := fun x => by split; exact hf.b x; rfl
  have e2 : ∀ x : PB, (if x.b = b then f x else x).used = x.used := fun x => by split; exact hf.used x; rfl
  have e3 : ∀ x : PB, (if x.b = b then f x else x).id = x.id := fun x => by split; exact hf.id x; rfl
  unfold turn
  refine ⟨?_, ?_, ?_, ?_, ?_, ?_, by simpa using h.len⟩
  · rw [List.pairwise_map]; simpa only [e2] using h.asc
  · intro y hy; obtain ⟨x, hx, rfl⟩ := List.mem_map.1 hy; rw [e2]; exact h.top x hx
  · intro y hy; obtain ⟨x, hx, rfl⟩ := List.mem_map.1 hy; rw [e2]; exact h.low x hx
  · rw [List.pairwise_map]; simpa only [e1] using h.bs
  · rw [List.pairwise_map]; simpa only [e3] using h.ids
  · intro y hy; obtain ⟨x, hx, rfl⟩ := List.mem_map.1 hy; rw [e1]; exact h.lt x hx

/-! ### The queue -/
structure QRel (K : Heap.KL) (L : PL) : Prop where
  perm : K.Perm (qs L)
  heap : Heap.Heap K K.length
theorem q_mem {K : Heap.KL} {L : PL} (h : QRel K L) {i : Nat} (hi : i < K.length) : ∃ x ∈ L, x.pinned = false ∧ K.getD i (0, 0) = (x.id, x.used) := by
  have hm : K.getD i (0, 0) ∈ K := by simp [List.getD, hi]
  have := h.perm.mem_iff.1 hm
  unfold qs free at this
  obtain ⟨x, hx, e⟩ := List.mem_map.1 this
  obtain ⟨h1, h2⟩ := List.mem_filter.1 hx
  exact ⟨x, h1, by simpa using h2, e.symm⟩
theorem q_has {K : Heap.KL} {L : PL} (h : QRel K L) {x : PB} (hx : x ∈ L) (hp : x.pinned = false) : ∃ i, i < K.length ∧ K.getD i (0, 0) = (x.id, x.used) := by
  have : (x.id, x.used) ∈ qs L := by
    unfold qs free
    exact List.mem_map.2 ⟨x, List.mem_filter.2 ⟨hx, by simp [hp]⟩, rfl⟩
  obtain ⟨i, hi, e⟩ := List.getElem_of_mem (h.perm.mem_iff.2 this)
  exact ⟨i, hi, by simp [List.getD, hi, e]⟩
/-- The one on top is the first that is not pinned. -/
theorem q_top {n most : Nat} {clock : Int} {K : Heap.KL} {L : PL} (hI : Inv n most clock L) (h : QRel K L) (hk : 0 < K.length) : ∃ x, L.find? (fun x => !x.pinned) = some x ∧ K.getD 0 (0, 0) = (x.id, x.used) := by
  obtain ⟨x, hx, hp, e⟩ := q_mem h hk
  cases hf : L.find? (fun x => !x.pinned) with
  | none =>
    have := List.find?_eq_none.1 hf x hx
    simp [hp] at this
  | some y =>
    refine ⟨y, rfl, ?_⟩
    have hy := List.mem_of_find?_eq_some hf
    have hyp : y.pinned = false := by have := List.find?_some hf; simpa using this
    obtain ⟨j, hj, ej⟩ := q_has h hy hyp
    have h1 := Heap.heap_top h.heap j hj
    unfold Heap.key at h1
    rw [e, ej] at h1
    dsimp only at h1
    have h2 : x.used = y.used := by
      have h3 : y.used ≤ x.used := by
        obtain ⟨as, bs, e2, hne⟩ := List.find?_eq_some_iff_append.1 hf |>.2
        have hx2 := hx
        rw [e2] at hx2
        rcases List.mem_append.1 hx2 with h4 | h4
        · have := hne x h4
          simp [hp] at this
        · rcases List.mem_cons.1 h4 with rfl | h4
          · exact Int.le_refl _
          · have h5 := hI.asc
            rw [e2] at h5
            have := (List.pairwise_cons.1 (List.pairwise_append.1 h5).2.1).1 x h4
            omega
      omega
    have h3 : x = y := by
      have h4 : L.Pairwise (fun x y => x.used ≠ y.used) := hI.asc.imp (fun h => by omega)
      exact pair_eq h4 x hx y hy h2
    rw [e, h3]
theorem q_none {K : Heap.KL} {L : PL} (h : QRel K L) (hk : K.length = 0) : L.find? (fun x => !x.pinned) = none := by
  rw [List.find?_eq_none]
  intro x hx
  simp only [Bool.not_eq_true', Bool.not_eq_false]
  cases hp : x.pinned
  · obtain ⟨i, hi, _⟩ := q_has h hx hp
    omega
  · rfl

end Go.Proofs.Ytlickjaopbcanaa.Bufs

namespace Go.Proofs.Ytlickjaopbcanaa

namespace Heap
theorem key_set_ne (K : KL) (i k : Nat) (x : Nat × Int) (h : k ≠ i) : key (K.set i x) k = key K k := by unfold key; simp [List.getD, Ne.symm h]
/-- The last one has come to i's place: the others are a heap, but for the gap. -/
theorem gap_swap {K : KL} {n i : Nat} (h : Heap K (n + 1)) (hn : n + 1 ≤ K.length) (hi : i < n) : GapInv (swapL K i n) n i := by
  have hk : ∀ k, k < n → k ≠ i → key (swapL K i n) k = key K k := fun k hk hne => by
    rw [swap_key K i n k (by omega) (by omega), if_neg (by omega), if_neg hne]
  refine ⟨fun c c0 hc ne hp => ?_, fun c c0 hc hp h0 => ?_⟩
  · have := par_lt c0
    rw [hk c hc ne, hk _ (by omega) hp]
    exact h c c0 (by omega)
  · have h1 := par_lt h0
    have h2 := par_lt c0
    rw [hk c hc (by omega), hk _ (by omega) (by omega)]
    exact (heap_gap h).2 c c0 (by omega) hp h0
theorem gap_swapG {K : KL} {n i : Nat} (h : GapInv K (n + 1) i) (hn : n + 1 ≤ K.length) (hi : i < n) : GapInv (swapL K i n) n i := by
  have hk : ∀ k, k < n → k ≠ i → key (swapL K i n) k = key K k := fun k hk hne => by
    rw [swap_key K i n k (by omega) (by omega), if_neg (by omega), if_neg hne]
  refine ⟨fun c c0 hc ne hp => ?_, fun c c0 hc hp h0 => ?_⟩
  · have := par_lt c0
    rw [hk c hc ne, hk _ (by omega) hp]
    exact h.1 c c0 (by omega) ne hp
  · have h1 := par_lt h0
    have h2 := par_lt c0
    rw [hk c hc (by omega), hk _ (by omega) (by omega)]
    exact h.2 c c0 (by omega) hp h0
theorem gap_last {K : KL} {n : Nat} (h : GapInv K (n + 1) n) : Heap K n := fun c c0 hc => by
  have := par_lt c0
  exact h.1 c c0 (by omega) (by omega) (by omega)
theorem swap_last (K : KL) (i n : Nat) (hn : n + 1 = K.length) (hi : i < n) : (swapL K i n).getD n (0, 0) = K.getD i (0, 0) := by
  rw [swap_at K i n n (by omega) (by omega), if_pos rfl]
theorem take_snoc (K : KL) (n : Nat) (hn : n + 1 = K.length) : K = K.take n ++ [K.getD n (0, 0)] := by
  have e : K.getD n (0, 0) = K[n] := by simp [List.getD, show n < K.length by omega]
  rw [e, ← List.take_succ_eq_append_getElem, List.take_of_length_le (by omega)]
theorem set_perm (K : KL) (i : Nat) (x : Nat × Int) (hi : i < K.length) : (K.getD i (0, 0) :: K.set i x).Perm (x :: K) := by
  rw [List.perm_iff_count]
  intro a
  have e1 : K.getD i (0, 0) = K[i] := by simp [List.getD, hi]
  rw [e1, List.count_cons, List.count_cons, List.count_set hi]
  have c1 : K[i] = a → 0 < K.count a := fun h => List.count_pos_iff.2 (h ▸ List.getElem_mem hi)
  by_cases h1 : K[i] = a
  · have := c1 h1
    by_cases h2 : x = a <;> simp [h1, h2] <;> omega
  · by_cases h2 : x = a <;> simp [h1, h2]
end Heap

namespace Bufs
theorem qs_perm {L M : PL} (h : L.Perm M) : (qs L).Perm (qs M) := by
  unfold qs free
  exact (h.filter _).map _
theorem qs_cons (x : PB) (L : PL) : qs (x :: L) = if x.pinned then qs L else (x.id, x.used) :: qs L := by
  unfold qs free
  rw [List.filter_cons]
  cases x.pinned <;> rfl
variable {n most : Nat} {clock : Int} {K : Heap.KL} {L : PL} {x : PB}
/-- Without one that is in the queue. -/
theorem q_out (hI : Inv n most clock L) (h : QRel K L) (hx : x ∈ L) (hp : x.pinned = false) {K' : Heap.KL} (hk : K.Perm ((x.id, x.used) :: K')) (hh : Heap.Heap K' K'.length) : QRel K' (but L x.b) := by
  refine ⟨?_, hh⟩
  have h1 := qs_perm (but_perm hI hx)
  rw [qs_cons, hp, if_neg (by decide)] at h1
  exact (hk.symm.trans (h.perm.trans h1)).cons_inv
/-- Without one that is not. -/
theorem q_out_pinned (hI : Inv n most clock L) (h : QRel K L) (hx : x ∈ L) (hp : x.pinned = true) : QRel K (but L x.b) := by
  refine ⟨?_, h.heap⟩
  have h1 := qs_perm (but_perm hI hx)
  rw [qs_cons, hp, if_pos rfl] at h1
  exact h.perm.trans h1
theorem turn_perm (hI : Inv n most clock L) (hx : x ∈ L) (f : PB → PB) : (turn L x.b f).Perm (f x :: but L x.b) := by
  have h1 := (but_perm hI hx).map (fun y : PB => if y.b = x.b then f y else y)
  rw [List.map_cons, if_pos rfl] at h1
  have e : (but L x.b).map (fun y : PB => if y.b = x.b then f y else y) = but L x.b := by
    rw [List.map_congr_left (g := id) (fun y hy => by rw [if_neg (but_mem.1 hy).2]; rfl), List.map_id]
  rw [e] at h1
  exact h1
/-- One comes into the queue, that was pinned. -/
theorem q_in (hI : Inv n most clock L) (h : QRel K L) (hx : x ∈ L) (hp : x.pinned = true) {f : PB → PB} (hf : Same f) (hfp : (f x).pinned = false) {K' : Heap.KL} (hk : K'.Perm (K ++ [(x.id, x.used)])) (hh : Heap.Heap K' K'.length) : QRel K' (turn L x.b f) := by
  refine ⟨?_, hh⟩
  have h1 := qs_perm (turn_perm hI hx f)
  rw [qs_cons, hfp, if_neg (by decide), hf.id, hf.used] at h1
  have h2 := (q_out_pinned hI h hx hp).perm
  exact hk.trans ((List.perm_append_comm.trans (h2.cons _)).trans h1.symm)
/-- One goes out of it, and stays: it is pinned. -/
theorem q_pin (hI : Inv n most clock L) (h : QRel K L) (hx : x ∈ L) (hp : x.pinned = false) {f : PB → PB} (hfp : (f x).pinned = true) {K' : Heap.KL} (hk : K.Perm ((x.id, x.used) :: K')) (hh : Heap.Heap K' K'.length) : QRel K' (turn L x.b f) := by
  refine ⟨?_, hh⟩
  have h1 := qs_perm (turn_perm hI hx f)
  rw [qs_cons, hfp, if_pos rfl] at h1
  exact (q_out hI h hx hp hk hh).perm.trans h1.symm
/-- What is turned leaves the queue as it is. -/
theorem q_turn (hI : Inv n most clock L) (h : QRel K L) (hx : x ∈ L) {f : PB → PB} (hf : Same f) (hfp : (f x).pinned = x.pinned) : QRel K (turn L x.b f) := by
  refine ⟨?_, h.heap⟩
  have h1 := qs_perm (turn_perm hI hx f)
  have h2 := qs_perm (but_perm hI hx)
  rw [qs_cons, hfp, hf.id, hf.used] at h1
  rw [qs_cons] at h2
  exact h.perm.trans (h2.trans h1.symm)
/-- One is used anew: it goes to the end. -/
theorem q_used (hI : Inv n most clock L) (h : QRel K L) (hx : x ∈ L) (hp : x.pinned = false) (y : PB) (hyp : y.pinned = false) (hyi : y.id = x.id) {i : Nat} (hi : i < K.length) (hki : K.getD i (0, 0) = (x.id, x.used)) {K' : Heap.KL} (hk : K'.Perm (K.set i (x.id, y.used))) (hh : Heap.Heap K' K'.length) : QRel K' (but L x.b ++ [y]) := by
  refine ⟨?_, hh⟩
  have h1 := Heap.set_perm K i (x.id, y.used) hi
  rw [hki] at h1
  have h2 := qs_perm (but_perm hI hx)
  rw [qs_cons, hp, if_neg (by decide)] at h2
  have h3 : (K.set i (x.id, y.used)).Perm ((x.id, y.used) :: qs (but L x.b)) := by
    have h4 : ((x.id, x.used) :: K.set i (x.id, y.used)).Perm ((x.id, y.used) :: (x.id, x.used) :: qs (but L x.b)) := h1.trans ((h.perm.trans h2).cons _)
    exact (h4.trans (List.Perm.swap _ _ _)).cons_inv
  have h5 := qs_perm (List.perm_append_comm (l₁ := but L x.b) (l₂ := [y]))
  rw [List.singleton_append, qs_cons, hyp, if_neg (by decide), hyi] at h5
  exact hk.trans (h3.trans h5.symm)
/-- One that is pinned is used anew. -/
theorem q_used_pinned (hI : Inv n most clock L) (h : QRel K L) (hx : x ∈ L) (hp : x.pinned = true) (y : PB) (hyp : y.pinned = true) : QRel K (but L x.b ++ [y]) := by
  refine ⟨?_, h.heap⟩
  have h5 := qs_perm (List.perm_append_comm (l₁ := but L x.b) (l₂ := [y]))
  rw [List.singleton_append, qs_cons, hyp, if_pos rfl] at h5
  exact (q_out_pinned hI h hx hp).perm.trans h5.symm
/-- A new one comes. -/
theorem q_new (h : QRel K L) (y : PB) (hyp : y.pinned = false) {K' : Heap.KL} (hk : K'.Perm (K ++ [(y.id, y.used)])) (hh : Heap.Heap K' K'.length) : QRel K' (L ++ [y]) := by
  refine ⟨?_, hh⟩
  have h5 := qs_perm (List.perm_append_comm (l₁ := L) (l₂ := [y]))
  rw [List.singleton_append, qs_cons, hyp, if_neg (by decide)] at h5
  exact hk.trans ((List.perm_append_comm.trans (h.perm.cons _)).trans h5.symm)
theorem q_new_pinned (h : QRel K L) (y : PB) (hyp : y.pinned = true) : QRel K (L ++ [y]) := by
  refine ⟨?_, h.heap⟩
  have h5 := qs_perm (List.perm_append_comm (l₁ := L) (l₂ := [y]))
  rw [List.singleton_append, qs_cons, hyp, if_pos rfl] at h5
  exact h.perm.trans h5.symm
end Bufs

end Go.Proofs.Ytlickjaopbcanaa
