/- Devices: Crash. -/
import Derived.Test.YtjoopkdednmllaaDevKept
namespace Go.Proofs.Ytjoopkdednmllaa
open Go Go.RowKit
variable {B b : Nat} {w : World} {y : Lay} {D : Dev}

/-- A slice of Booleans in memory, whichever. -/
def BoolsAt (w : World) (ad : Option Addr) (l : List Bool) : Prop := ∀ i, i < l.length → ∃ g off, ad = some ⟨g, off, none⟩ ∧ w.cell? ⟨g, off + i, none⟩ = some (.bool (l.getD i false))
theorem BoolsAt.below {w' : World} {ad : Option Addr} {l : List Bool} (h : BoolsAt w ad l) (hb : Below w.heap.size w w') : BoolsAt w' ad l := by
  intro i hi
  obtain ⟨g, off, e, hc⟩ := h i hi
  exact ⟨g, off, e, (hb.cell (p := ⟨g, off + i, none⟩) (World.block_lt_of_cell? w _ hc)).trans hc⟩

/-- The blocks behind so many of the pending ones. -/
def crashTo (D : Dev) (P : List Nat) (keep : List Bool) : Nat → List ByteArray
  | 0 => D.kept
  | i + 1 => if keep.getD i false then (crashTo D P keep i).set (P.getD i 0) (D.now.getD (P.getD i 0) ⟨#[]⟩) else crashTo D P keep i
theorem crashTo_length (D : Dev) (P : List Nat) (keep : List Bool) (i : Nat) : (crashTo D P keep i).length = D.kept.length := by
  induction i with
  | zero => rfl
  | succ i ih =>
    show (if keep.getD i false = true then (crashTo D P keep i).set (P.getD i 0) (D.now.getD (P.getD i 0) ⟨#[]⟩) else crashTo D P keep i).length = _
    split
    · rw [List.length_set]; exact ih
    · exact ih
theorem pendTo_lt (l : List Bool) (k : Nat) : ∀ n ∈ pendTo l k, n < k := by
  induction k with
  | zero => intro n hn; simp [pendTo] at hn
  | succ k ih =>
    intro n hn
    change n ∈ (if l.getD k false = true then pendTo l k ++ [k] else pendTo l k) at hn
    split at hn
    · rcases List.mem_append.1 hn with h | h
      · have := ih n h; omega
      · simp at h; omega
    · have := ih n hn; omega
theorem crashTo_sized (D : Dev) (P : List Nat) (keep : List Bool) (h1 : sized D.kept) (h2 : sized D.now) (hl : D.now.length = D.kept.length) (hP : ∀ n ∈ P, n < D.kept.length) : ∀ i, i ≤ P.length → sized (crashTo D P keep i) := by
  intro i
  induction i with
  | zero => intro _; exact h1
  | succ i ih =>
    intro hi
    show sized (if keep.getD i false = true then (crashTo D P keep i).set (P.getD i 0) (D.now.getD (P.getD i 0) ⟨#[]⟩) else crashTo D P keep i)
    split
    · intro s hs
      rcases List.mem_or_eq_of_mem_set hs with h | h
      · exact ih (by omega) s h
      · subst h
        have hp : P.getD i 0 < D.now.length := by
          rw [hl]; exact hP _ (by simp [List.getD, show i < P.length by omega])
        generalize P.getD i 0 = q at hp
        have e : D.now.getD q ⟨#[]⟩ = D.now[q] := by simp [List.getD, hp]
        rw [e]
        exact h2 _ (List.getElem_mem hp)
    · exact ih (by omega)

end Go.Proofs.Ytjoopkdednmllaa
