/- Rows of exts in memory. -/
import Derived.Test.YtgpjldmndibalaaExtsMath
import Derived.Test.YtgpjldmndibalaaExtsFacts
import Derived.Test.YtgpjldmndibalaaRunsDelete
import Derived.Deep.CutRange
import Derived.Deep.Onto
import Derived.Deep.RegionHeld3
namespace Go.Proofs.Ytgpjldmndibalaa
set_option linter.unusedVariables false
open Go Go.RowKit

abbrev EL := Exts.EL
def ecells (l : EL) : List Value := l.flatMap fun x => [.int .i64 x.1, .int .i64 x.2.1, .int .i64 x.2.2]
theorem ecells_length (l : EL) : (ecells l).length = l.length * 3 := by
  induction l with
  | nil => rfl
  | cons x l ih =>
    have e : ecells (x :: l) = [.int .i64 x.1, .int .i64 x.2.1, .int .i64 x.2.2] ++ ecells l := by simp [ecells]
    rw [e, List.length_append, ih]
    simp only [List.length_cons, List.length_nil]
    omega
theorem ecells_append (a b : EL) : ecells (a ++ b) = ecells a ++ ecells b := by simp [ecells]
theorem ecells_one (l : EL) : ∀ u ∈ ecells l, u.oneCell' = true := by
  intro u hu
  simp only [ecells, List.mem_flatMap] at hu
  obtain ⟨x, _, hx⟩ := hu
  simp at hx
  rcases hx with rfl | rfl | rfl <;> rfl
theorem ecells_at : ∀ (l : EL) (i : Nat), i < l.length → (ecells l)[i * 3]? = some (.int .i64 (l.getD i (0, 0, 0)).1) ∧ (ecells l)[i * 3 + 1]? = some (.int .i64 (l.getD i (0, 0, 0)).2.1) ∧ (ecells l)[i * 3 + 2]? = some (.int .i64 (l.getD i (0, 0, 0)).2.2)
  | [], i, h => by simp at h
  | x :: l, 0, _ => ⟨rfl, rfl, rfl⟩
  | x :: l, i + 1, h => by
    have e : ecells (x :: l) = .int .i64 x.1 :: .int .i64 x.2.1 :: .int .i64 x.2.2 :: ecells l := by simp [ecells]
    obtain ⟨h1, h2, h3⟩ := ecells_at l i (by simpa using h)
    rw [e, show (i + 1) * 3 = i * 3 + 1 + 1 + 1 by omega]
    simp only [List.getElem?_cons_succ, List.getD_cons_succ]
    exact ⟨h1, h2, h3⟩

/-- The value v leads to the exts l. -/
def ExtsAt (w : World) (v : Value) (l : EL) : Prop :=
  (v = .slice none 0 0 ∧ l = []) ∨ ∃ b off cap, v = .slice (some ⟨b, off, none⟩) l.length cap ∧ ∀ j u, (ecells l)[j]? = some u → w.cell? ⟨b, off + j, none⟩ = some u
theorem ExtsAt.below {w w' : World} {v : Value} {l : EL} {B : Nat} (h : ExtsAt w v l) (hb : Below w.heap.size w w') : ExtsAt w' v l := by
  rcases h with h | ⟨b, off, cap, rfl, hc⟩
  · exact .inl h
  · exact .inr ⟨b, off, cap, rfl, fun j u hu => (hb.cell (p := ⟨b, off + j, none⟩) (World.block_lt_of_cell? w _ (hc j u hu))).trans (hc j u hu)⟩
/-- The exts lie there, cell by cell. -/
theorem ExtsAt.cells {w : World} {ad : Option Addr} {n cap : Nat} {l : EL} (h : ExtsAt w (.slice ad n cap) l) (i : Nat) (hi : i < l.length) : n = l.length ∧ ∃ g off, ad = some ⟨g, off, none⟩ ∧
    w.cell? ⟨g, off + i * 3, none⟩ = some (.int .i64 (l.getD i (0, 0, 0)).1) ∧ w.cell? ⟨g, off + i * 3 + 1, none⟩ = some (.int .i64 (l.getD i (0, 0, 0)).2.1) ∧ w.cell? ⟨g, off + i * 3 + 2, none⟩ = some (.int .i64 (l.getD i (0, 0, 0)).2.2) := by
  rcases h with ⟨h, rfl⟩ | ⟨b, off, c, h, hc⟩
  · simp at hi
  · cases h
    obtain ⟨y0, y1, y2⟩ := ecells_at l i hi
    refine ⟨rfl, b, off, rfl, hc (i * 3) _ y0, ?_, ?_⟩
    · have := hc (i * 3 + 1) _ y1
      rwa [← Nat.add_assoc] at this
    · have := hc (i * 3 + 2) _ y2
      rwa [← Nat.add_assoc] at this
/-- A new row of the call's own. -/
def OwnExts (B : Nat) (w : World) (v : Value) (l : EL) : Prop := w.ownsRow B 37 3 v l.length (ecells l)
theorem OwnExts.at {B : Nat} {w : World} {v : Value} {l : EL} (h : OwnExts B w v l) : ExtsAt w v l := by
  rcases h.2 with ⟨rfl, hn⟩ | ⟨g, cap, cur, rfl, hg, hh, h1, h2, h3, h4⟩
  · exact .inl ⟨rfl, List.eq_nil_of_length_eq_zero hn⟩
  · refine .inr ⟨g, 0, cap, rfl, fun j u hu => ?_⟩
    have hj : j < l.length * 3 := by
      have := (List.getElem?_eq_some_iff.1 hu).1
      rwa [ecells_length] at this
    rw [Nat.zero_add]
    have e : (cur.toList.take (l.length * 3))[j]? = some u := by rw [h4]; exact hu
    rw [List.getElem?_take, if_pos hj, Array.getElem?_toList] at e
    simp [World.cell?, hh, e]
theorem OwnExts.below {B : Nat} {w w' : World} {v : Value} {l : EL} (h : OwnExts B w v l) (hb : Below w.heap.size w w') : OwnExts B w' v l :=
  ⟨h.1, h.2.imp id (fun ⟨g, cap, cur, hv, hg, hh, r⟩ => ⟨g, cap, cur, hv, hg, by rw [hb.block g (lt_of_block hh)]; exact hh, r⟩)⟩
def SmallE (x : Exts.E) : Prop := (-9223372036854775808 ≤ x.1 ∧ x.1 ≤ 9223372036854775807) ∧ (-9223372036854775808 ≤ x.2.1 ∧ x.2.1 ≤ 9223372036854775807) ∧ (-9223372036854775808 ≤ x.2.2 ∧ x.2.2 ≤ 9223372036854775807)
def SmallsE (l : EL) : Prop := ∀ x ∈ l, SmallE x
theorem SmallsE.at {l : EL} (h : SmallsE l) (i : Nat) (hi : i < l.length) : SmallE (l.getD i (0, 0, 0)) := by
  have e : l.getD i (0, 0, 0) = l[i] := by simp [List.getD, hi]
  rw [e]; exact h _ (List.getElem_mem hi)
theorem SmallsE.row {l : EL} (h : Exts.Row l) : SmallsE l := fun x hx => by
  have := h.may x hx
  unfold Exts.may at this
  unfold SmallE; omega

theorem eend_any (x : Exts.E) (h : -9223372036854775808 ≤ Exts.fin x ∧ Exts.fin x ≤ 9223372036854775807) (w : World) : Calls Try.prog 38 #[.agg #[.int .i64 x.1, .int .i64 x.2.1, .int .i64 x.2.2]] w fun e w' => e = .returned (.int .i64 (Exts.fin x)) ∧ Below w.heap.size w w' := by
  have hb : Below w.heap.size w (w.alloc (.cells #[.int .i64 x.1, .int .i64 x.2.1, .int .i64 x.2.2] 37)) := (Below.refl _ _).alloc (Nat.le_refl _) _
  obtain ⟨a, b, c⟩ := x
  unfold Exts.fin at *
  dsimp only at *
  go_enter Try.func38, Try.ntmps38
  go_wp2_with fail
  go_ret
  exact ⟨rfl, hb⟩

end Go.Proofs.Ytgpjldmndibalaa
