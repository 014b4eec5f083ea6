/- The sums: bits that are turned in a text. Plain Lean. -/
import Derived.Test.YtiglcpfimljpjaaSumsMath
namespace Go.Proofs.Ytiglcpfimljpjaa

/-- A text with one bit turned. -/
def flip (l : List UInt8) (p : Nat) : List UInt8 := l.set (p / 8) (l.getD (p / 8) 0 ^^^ (1 <<< (UInt8.ofNat (p % 8))))

theorem iter_twoPow (j : Nat) (h : j < 32) : iter bstep j (BitVec.twoPow 32 j) = 1#32 := by
  induction j with
  | zero => rfl
  | succ j ih =>
    show iter bstep j (bstep (BitVec.twoPow 32 (j + 1))) = _
    rw [bstep_twoPow j h, ih (by omega)]

theorem one_bit (j : Nat) (h : j < 8) : ((1 : UInt8) <<< (UInt8.ofNat j)).toBitVec.setWidth 32 = BitVec.twoPow 32 j := by
  have : ∀ j : Fin 8, ((1 : UInt8) <<< (UInt8.ofNat j.val)).toBitVec.setWidth 32 = BitVec.twoPow 32 j.val := by decide
  exact this ⟨j, h⟩

theorem byteStep_one (j : Nat) (h : j < 8) : byteStep 0#32 (1 <<< (UInt8.ofNat j)) = iter bstep (8 - j) 1#32 := by
  unfold byteStep
  rw [one_bit j h]
  have e : 8 = j + (8 - j) := by omega
  rw [BitVec.zero_xor]
  conv => lhs; rw [e]
  rw [iter_add, iter_twoPow j (by omega)]

theorem iter_z8 (n : Nat) : ∀ r, iter z8 n r = iter bstep (n * 8) r := fun r => (iter_mul bstep n 8 r).symm

theorem crc_add (l : List UInt8) (y z : W32) : crc (y ^^^ z) l = crc y l ^^^ iter z8 l.length z := by
  rw [crc_split l (y ^^^ z), crc_split l y, z8_linear.iter]
  simp only [BitVec.xor_assoc]; congr 1; rw [BitVec.xor_comm]

theorem crc_flip (r : W32) (l : List UInt8) (p : Nat) (h : p < l.length * 8) : crc r (flip l p) = crc r l ^^^ iter bstep (l.length * 8 - p) 1#32 := by
  have hq : p / 8 < l.length := by omega
  have e0 : l = l.take (p / 8) ++ l.getD (p / 8) 0 :: l.drop (p / 8 + 1) := by
    have hg : l.getD (p / 8) 0 = l[p / 8] := by simp [List.getD, hq]
    rw [hg, ← List.drop_eq_getElem_cons hq, List.take_append_drop]
  have hl : (l.take (p / 8)).length = p / 8 := by simp; omega
  have e1 : flip l p = l.take (p / 8) ++ (l.getD (p / 8) 0 ^^^ (1 <<< (UInt8.ofNat (p % 8)))) :: l.drop (p / 8 + 1) := by
    unfold flip
    generalize l.getD (p / 8) 0 ^^^ (1 <<< (UInt8.ofNat (p % 8))) = x
    rw [List.set_eq_take_append_cons_drop, if_pos hq]
  rw [e1]
  conv => rhs; rw [e0]
  generalize hx : l.getD (p / 8) 0 = x
  generalize hpre : l.take (p / 8) = pre at *
  generalize hpost : l.drop (p / 8 + 1) = post at *
  have hpl : post.length = l.length - (p / 8 + 1) := by rw [← hpost]; simp
  have hlen : (pre ++ x :: post).length = l.length := by simp [hl, hpl]; omega
  rw [crc_append, crc_append]
  show crc (byteStep (crc r pre) (x ^^^ _)) post = crc (byteStep (crc r pre) x) post ^^^ _
  have e2 : byteStep (crc r pre) (x ^^^ (1 <<< (UInt8.ofNat (p % 8)))) = byteStep (crc r pre) x ^^^ byteStep 0#32 (1 <<< (UInt8.ofNat (p % 8))) := by
    have := byteStep_xor (crc r pre) 0#32 x (1 <<< (UInt8.ofNat (p % 8)))
    rwa [BitVec.xor_zero] at this
  rw [e2, crc_add, byteStep_one (p % 8) (by omega), iter_z8, ← iter_add, hlen, hpl]
  congr 2
  omega

/-- The lowest n bits of a number. -/
def low (t : W32) (n : Nat) : W32 := timesTo idm t n
theorem low_zero (t : W32) : low t 0 = 0#32 := rfl
theorem low_all (t : W32) : low t 32 = t := times_idm t
theorem low_succ (t : W32) (n : Nat) (h : n < 32) : low t (n + 1) = low t n ^^^ (if t.getLsbD n then BitVec.twoPow 32 n else 0#32) := by
  unfold low; rw [timesTo, getD_map_range n h]

/-- One bit more of a burst that begins so many bits ahead of the text's end. -/
theorem burst_step (t : W32) (m i : Nat) (hm : 32 ≤ m) (hi : i < 32) (h : t.getLsbD i = true) : iter bstep m (low t (i + 1)) = iter bstep m (low t i) ^^^ iter bstep (m - i) 1#32 := by
  rw [low_succ t i hi, h, if_pos rfl, (bstep_linear.iter m)]
  congr 1
  have e : m = i + (m - i) := by omega
  conv => lhs; rw [e]
  rw [iter_add, iter_twoPow i hi]

theorem bstep_zero (r : W32) (h : bstep r = 0#32) : r = 0#32 := by
  unfold bstep at h
  rw [neg_bit] at h
  have hr : r = 0#32 ∨ r ≠ 0#32 := Decidable.em _
  cases h0 : r.getLsbD 0
  · rw [h0] at h
    simp at h
    apply BitVec.eq_of_getLsbD_eq
    intro i hi
    cases i with
    | zero => simpa using h0
    | succ i =>
      have := congrArg (fun x : W32 => x.getLsbD i) h
      simp at this
      rw [Nat.add_comm] at this
      simpa using this
  · rw [h0] at h
    simp at h
    have := congrArg (fun x : W32 => x.getLsbD 31) h
    simp at this

theorem iter_zero (n : Nat) : ∀ r, iter bstep n r = 0#32 → r = 0#32 := by
  induction n with
  | zero => intro r h; exact h
  | succ n ih => intro r h; exact bstep_zero r (ih _ h)

theorem iter_of_zero (n : Nat) : iter bstep n 0#32 = 0#32 := (bstep_linear.iter n).zero

theorem burst_sum (l b : List UInt8) (t : W32) (m : Nat) (h : crc (~~~ 0#32) b = crc (~~~ 0#32) l ^^^ iter bstep m t) : (more 0#32 b == more 0#32 l) = (t == 0#32) := by
  unfold more
  rw [h]
  by_cases ht : t = 0#32
  · subst ht; rw [iter_of_zero]; simp
  · have hne : iter bstep m t ≠ 0#32 := fun e => ht (iter_zero m t e)
    generalize iter bstep m t = d at hne
    generalize crc (~~~ 0#32) l = c
    have h1 : ~~~ (c ^^^ d) ≠ ~~~ c := by
      intro e
      apply hne
      have e2 : c ^^^ d = c := by
        have := congrArg (fun x => ~~~ x) e
        simpa using this
      have := congrArg (fun x => c ^^^ x) e2
      simpa [xor_back] using this
    rw [beq_eq_false_iff_ne.2 h1, beq_eq_false_iff_ne.2 ht]

theorem flip_length (l : List UInt8) (p : Nat) : (flip l p).length = l.length := by simp [flip]

end Go.Proofs.Ytiglcpfimljpjaa
