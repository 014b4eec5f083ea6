/- Rows of one's own: their cells, and what a store into one does. -/
import Derived.Test.YtgjmeeiejcbjfaaGreatF22
set_option linter.unusedSimpArgs false
set_option linter.unusedVariables false
namespace Go.Proofs.YtgjmeeiejcbjfaaGreat
open Go Go.RowKit
theorem ownsRow_set {w : World} {base size n g cap : Nat} {e : TypeId} {xs : List Value} (h : w.ownsRow base e size (.slice (some ⟨g, 0, none⟩) n cap) n xs) (k : Nat) (hk : k < n * size) (u : Value) :
  (w.setCell ⟨g, k, none⟩ u).ownsRow base e size (.slice (some ⟨g, 0, none⟩) n cap) n (xs.set k u) := by
 obtain ⟨h1, h2⟩ := h
 refine ⟨by simpa using h1, ?_⟩
 rcases h2 with ⟨hv, _⟩ | ⟨g', cap', cur, hv, hb, hg, hc1, hc2, hsz, htk⟩
 ·cases hv
 ·cases hv
  refine .inr ⟨g, cap, cur.set! k u, rfl, hb, ?_, hc1, hc2, by simpa using hsz, ?_⟩
  ·have hlt := lt_of_block hg
   have h' : w.heap[g] = .cells cur e (0, 0) := by simpa [Array.getElem?_eq_getElem hlt] using hg
   show (w.heap.modify g _)[g]? = _
   rw [Array.getElem?_eq_getElem (by simpa using hlt), Array.getElem_modify_self, h']
   simp
  ·rw [← htk]
   simp [List.take_set]
variable {wz : World}
theorem own_form {B sz n c : Nat} {T : TypeId} {a : Option Addr} {xs : List Value} (h : wz.ownsRow B T sz (.slice a n c) n xs) (hn : 0 < n) : ∃ g, a = some ⟨g, 0, none⟩ ∧ B ≤ g ∧ ∃ cs, wz.heap[g]? = some (.cells cs T (0, 0)) := by
 rcases h.2 with ⟨_, h0⟩ | ⟨g, cap, cur, hv, hg, hh, _⟩
 ·omega
 ·cases hv
  exact ⟨g, rfl, hg, cur, hh⟩
theorem own_setAt {B sz n g k : Nat} {T : TypeId} {a : Value} {xs : List Value} (u : Value) (h : wz.ownsRow B T sz a n xs) (hg : g < B) : (wz.setCell ⟨g, k, none⟩ u).ownsRow B T sz a n xs :=
 ⟨h.1, h.2.imp id (fun ⟨g', cap, cur, hv, hg', hh, r⟩ => ⟨g', cap, cur, hv, hg', by rw [Below.heap_setCell _ _ _ _ (by dsimp only; omega)]; exact hh, r⟩)⟩
end Go.Proofs.YtgjmeeiejcbjfaaGreat
