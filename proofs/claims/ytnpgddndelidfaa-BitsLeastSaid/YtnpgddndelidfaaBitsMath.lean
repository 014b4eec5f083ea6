/- Bitmaps: bits of bytes, runs of zeros. Plain Lean. -/
namespace Go.Proofs.Ytnpgddndelidfaa

def bitOf (b : UInt8) (m : Nat) : Bool := b.toNat.testBit m
def has (l : List UInt8) (i : Nat) : Bool := bitOf (l.getD (i / 8) 0) (i % 8)
def hasI (l : List UInt8) (i : Int) : Bool := decide (0 ≤ i) && has l i.toNat

theorem has_out (l : List UInt8) (i : Nat) (h : l.length * 8 ≤ i) : has l i = false := by
  unfold has bitOf
  have : l.getD (i / 8) 0 = 0 := by
    have : l.length ≤ i / 8 := by omega
    simp [List.getD, List.getElem?_eq_none this]
  rw [this]; simp

def setBit (b : UInt8) (m : Nat) (on : Bool) : UInt8 := if on then b ||| (1 <<< UInt8.ofNat m) else b &&& ~~~ (1 <<< UInt8.ofNat m)

theorem one_shl (m : Nat) (h : m < 8) : ((1 : UInt8) <<< UInt8.ofNat m).toNat = 2 ^ m := by
  have e : ∀ m : Fin 8, ((1 : UInt8) <<< UInt8.ofNat m.val).toNat = 2 ^ m.val := by decide
  exact e ⟨m, h⟩
theorem not_shl (m : Nat) (h : m < 8) : (~~~ ((1 : UInt8) <<< UInt8.ofNat m)).toNat = 255 - 2 ^ m := by
  have e : ∀ m : Fin 8, (~~~ ((1 : UInt8) <<< UInt8.ofNat m.val)).toNat = 255 - 2 ^ m.val := by decide
  exact e ⟨m, h⟩
theorem mask_bit (m k : Nat) (h : m < 8) (hk : k < 8) : (255 - 2 ^ m).testBit k = decide (m ≠ k) := by
  have e : ∀ m k : Fin 8, (255 - 2 ^ m.val).testBit k.val = decide (m.val ≠ k.val) := by decide
  exact e ⟨m, h⟩ ⟨k, hk⟩

theorem bitOf_setBit (b : UInt8) (m k : Nat) (on : Bool) (h : m < 8) (hk : k < 8) : bitOf (setBit b m on) k = if m = k then on else bitOf b k := by
  unfold bitOf setBit
  cases on
  · simp only [Bool.false_eq_true, if_false, UInt8.toNat_and, not_shl m h, Nat.testBit_and, mask_bit m k h hk]
    by_cases e : m = k <;> simp [e]
  · simp only [if_true, UInt8.toNat_or, one_shl m h, Nat.testBit_or, Nat.testBit_two_pow]
    by_cases e : m = k <;> simp [e]

theorem byte_ext {a b : UInt8} (h : ∀ k, k < 8 → bitOf a k = bitOf b k) : a = b := by
  apply UInt8.toNat_inj.1
  apply Nat.eq_of_testBit_eq
  intro i
  by_cases hi : i < 8
  · exact h i hi
  · have f : ∀ x : UInt8, x.toNat.testBit i = false := fun x => Nat.testBit_lt_two_pow (Nat.lt_of_lt_of_le x.toNat_lt (by
      have : 2 ^ 8 ≤ 2 ^ i := Nat.pow_le_pow_right (by decide) (by omega)
      omega))
    rw [f, f]

theorem setBit_same (b : UInt8) (m : Nat) (h : m < 8) : setBit b m (bitOf b m) = b :=
  byte_ext fun k hk => by rw [bitOf_setBit b m k _ h hk]; by_cases e : m = k <;> simp [e]
theorem setBit_setBit (b : UInt8) (m : Nat) (x y : Bool) (h : m < 8) : setBit (setBit b m x) m y = setBit b m y :=
  byte_ext fun k hk => by rw [bitOf_setBit _ m k _ h hk, bitOf_setBit b m k _ h hk, bitOf_setBit b m k _ h hk]; by_cases e : m = k <;> simp [e]

def put (l : List UInt8) (i : Nat) (on : Bool) : List UInt8 := l.set (i / 8) (setBit (l.getD (i / 8) 0) (i % 8) on)
theorem put_length (l : List UInt8) (i : Nat) (on : Bool) : (put l i on).length = l.length := by simp [put]
theorem put_getD (l : List UInt8) (i q : Nat) (on : Bool) (h : i / 8 < l.length) : (put l i on).getD q 0 = if i / 8 = q then setBit (l.getD (i / 8) 0) (i % 8) on else l.getD q 0 := by
  unfold put
  by_cases e : i / 8 = q
  · subst e; simp [List.getD, h]
  · simp [List.getD, List.getElem?_set_ne e, e]
theorem has_put (l : List UInt8) (i j : Nat) (on : Bool) (h : i < l.length * 8) : has (put l i on) j = if i = j then on else has l j := by
  unfold has
  rw [put_getD l i (j / 8) on (by omega)]
  by_cases e : i / 8 = j / 8
  · rw [if_pos e, bitOf_setBit _ _ _ _ (by omega) (by omega)]
    by_cases e2 : i = j
    · subst e2; simp
    · have : i % 8 ≠ j % 8 := by omega
      rw [if_neg this, if_neg e2, e]
  · rw [if_neg e, if_neg (by intro h; subst h; exact e rfl)]
theorem put_same (l : List UInt8) (i : Nat) (h : i < l.length * 8) : put l i (has l i) = l := by
  unfold put has
  rw [setBit_same _ _ (by omega)]
  have hq : i / 8 < l.length := by omega
  simp [List.getD, hq]
theorem put_put (l : List UInt8) (i : Nat) (x y : Bool) (h : i < l.length * 8) : put (put l i x) i y = put l i y := by
  unfold put
  have hq : i / 8 < l.length := by omega
  rw [List.set_set]
  congr 1
  have : (l.set (i / 8) (setBit (l.getD (i / 8) 0) (i % 8) x)).getD (i / 8) 0 = setBit (l.getD (i / 8) 0) (i % 8) x := by simp [List.getD, hq]
  rw [this, setBit_setBit _ _ _ _ (by omega)]

def withI (l : List UInt8) (i : Int) (on : Bool) : List UInt8 := if 0 ≤ i ∧ i < (l.length : Int) * 8 then put l i.toNat on else l
theorem withI_in (l : List UInt8) (i : Nat) (on : Bool) (h : i < l.length * 8) : withI l i on = put l i on := by
  unfold withI; rw [if_pos ⟨by omega, by omega⟩]; rfl
theorem withI_out (l : List UInt8) (i : Int) (on : Bool) (h : i < 0 ∨ (l.length : Int) * 8 ≤ i) : withI l i on = l := by
  unfold withI; rw [if_neg (by omega)]
theorem withI_length (l : List UInt8) (i : Int) (on : Bool) : (withI l i on).length = l.length := by
  unfold withI; split
  · rw [put_length]
  · rfl

/-- How many the first n are. -/
def firstN (l : List UInt8) (n : Int) : Nat := min n.toNat (l.length * 8)
theorem firstN_le (l : List UInt8) (n : Int) : firstN l n ≤ l.length * 8 := Nat.min_le_right _ _

/-! ### Counting -/
def countTo (l : List UInt8) : Nat → Nat
  | 0 => 0
  | k + 1 => countTo l k + if has l k then 1 else 0
theorem countTo_le (l : List UInt8) (k : Nat) : countTo l k ≤ k := by
  induction k with
  | zero => exact Nat.le_refl _
  | succ k ih => simp only [countTo]; split <;> omega
/-- The ones among the lowest r bits of a byte. -/
def pop (b : UInt8) : Nat → Nat
  | 0 => 0
  | r + 1 => pop b r + if bitOf b r then 1 else 0
theorem countTo_byte (l : List UInt8) (q r : Nat) (h : r ≤ 8) : countTo l (8 * q + r) = countTo l (8 * q) + pop (l.getD q 0) r := by
  induction r with
  | zero => rfl
  | succ r ih =>
    rw [← Nat.add_assoc]
    simp only [countTo, pop]
    rw [ih (by omega), Nat.add_assoc]
    congr 2
    unfold has
    rw [show (8 * q + r) / 8 = q by omega, show (8 * q + r) % 8 = r by omega]
theorem pop_le (b : UInt8) (r : Nat) : pop b r ≤ r := by
  induction r with
  | zero => exact Nat.le_refl _
  | succ r ih => simp only [pop]; split <;> omega

/-! ### The runs of zeros -/
/-- One zero more: it goes on with the last run, or begins one. -/
def grow : List (Nat × Nat) → Nat → List (Nat × Nat)
  | [], i => [(i, 1)]
  | [(s, n)], i => if s + n = i then [(s, n + 1)] else [(s, n), (i, 1)]
  | x :: y :: r, i => x :: grow (y :: r) i
def runsTo (l : List UInt8) : Nat → List (Nat × Nat)
  | 0 => []
  | k + 1 => if has l k then runsTo l k else grow (runsTo l k) k
/-- Where the last run ends. -/
def lastEnd : List (Nat × Nat) → Nat
  | [] => 0
  | [(s, n)] => s + n
  | _ :: y :: r => lastEnd (y :: r)

theorem grow_snoc (p : List (Nat × Nat)) (s n i : Nat) : grow (p ++ [(s, n)]) i = if s + n = i then p ++ [(s, n + 1)] else p ++ [(s, n), (i, 1)] := by
  induction p with
  | nil => simp [grow]
  | cons x p ih =>
    cases p with
    | nil => simp [grow]; split <;> rfl
    | cons y p =>
      have e1 : grow (x :: y :: p ++ [(s, n)]) i = x :: grow (y :: p ++ [(s, n)]) i := by
        simp [grow]
      rw [e1, ih]
      split <;> rfl
theorem lastEnd_snoc (p : List (Nat × Nat)) (s n : Nat) : lastEnd (p ++ [(s, n)]) = s + n := by
  induction p with
  | nil => rfl
  | cons x p ih => cases p with
    | nil => rfl
    | cons y p => simpa [lastEnd] using ih
theorem list_snoc {α : Type} (l : List α) : l = [] ∨ ∃ p x, l = p ++ [x] := by
  rcases List.eq_nil_or_concat l with h | ⟨p, x, h⟩
  · exact .inl h
  · exact .inr ⟨p, x, by simpa using h⟩
theorem grow_new (l : List (Nat × Nat)) (i : Nat) (h : lastEnd l < i ∨ l = []) : grow l i = l ++ [(i, 1)] := by
  rcases list_snoc l with rfl | ⟨p, ⟨s, n⟩, rfl⟩
  · rfl
  · rw [grow_snoc]
    rcases h with h | h
    · rw [lastEnd_snoc] at h
      rw [if_neg (by omega)]; simp
    · simp at h
theorem runsTo_end (l : List UInt8) (k : Nat) : lastEnd (runsTo l k) ≤ k := by
  induction k with
  | zero => exact Nat.le_refl _
  | succ k ih =>
    simp only [runsTo]
    split
    · omega
    · rcases list_snoc (runsTo l k) with h | ⟨p, ⟨s, n⟩, h⟩
      · rw [h]; simp [grow, lastEnd]
      · rw [h] at ih ⊢
        rw [lastEnd_snoc] at ih
        rw [grow_snoc]
        split
        · rw [lastEnd_snoc]; omega
        · have : p ++ [(s, n), (k, 1)] = (p ++ [(s, n)]) ++ [(k, 1)] := by simp
          rw [this, lastEnd_snoc]; omega

/-- No run is open at k: a run that begins there is a new one. -/
def Closed (l : List UInt8) (k : Nat) : Prop := lastEnd (runsTo l k) < k ∨ runsTo l k = []
theorem closed_zero (l : List UInt8) : Closed l 0 := .inr rfl
theorem closed_one (l : List UInt8) (k : Nat) (h : has l k = true) : Closed l (k + 1) := by
  have := runsTo_end l k
  left
  simp only [runsTo, h, if_true]
  omega
theorem runsTo_one (l : List UInt8) (k : Nat) (h : has l k = true) : runsTo l (k + 1) = runsTo l k := by simp [runsTo, h]

/-- Behind a stretch of zeros that begins at i, where no run is open. -/
theorem runsTo_stretch (l : List UInt8) (i : Nat) (hc : Closed l i) : ∀ n, (∀ j, i ≤ j → j < i + n → has l j = false) → 0 < n → runsTo l (i + n) = runsTo l i ++ [(i, n)] := by
  intro n
  induction n with
  | zero => intro _ h; omega
  | succ n ih =>
    intro hz _
    have h0 : has l (i + n) = false := hz (i + n) (by omega) (by omega)
    rw [← Nat.add_assoc]
    simp only [runsTo, h0, Bool.false_eq_true, if_false]
    by_cases hn : n = 0
    · subst hn
      exact grow_new _ _ hc
    · rw [ih (fun j h1 h2 => hz j h1 (by omega)) (by omega), grow_snoc, if_pos rfl]

end Go.Proofs.Ytnpgddndelidfaa
