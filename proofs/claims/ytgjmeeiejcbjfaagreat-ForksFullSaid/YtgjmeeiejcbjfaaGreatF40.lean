/- Forks: what is told, and a world's own, as what tells fresh blocks. -/
import Derived.Test.YtgjmeeiejcbjfaaGreatF23
set_option linter.unusedSimpArgs false
set_option linter.unusedVariables false
namespace Go.Proofs.YtgjmeeiejcbjfaaGreat
open Go Go.RowKit
def IntsBel (K0 O : Nat) (w : World) (v : Value) (l : IL) : Prop :=
 (v = .slice none 0 0 ∧ l = []) ∨ ∃ b off cap, v = .slice (some ⟨b, off, none⟩) l.length cap ∧ ∀ j u, (icells l)[j]? = some u → b < K0 ∧ b ≠ O ∧ w.cell? ⟨b, off + j, none⟩ = some u
theorem IntsBel.at {K0 O : Nat} {w : World} {v : Value} {l : IL} (h : IntsBel K0 O w v l) : IntsAt w v l := by
 rcases h with h | ⟨b, off, cap, h1, h2⟩
 ·exact .inl h
 ·exact .inr ⟨b, off, cap, h1, fun j u hu => (h2 j u hu).2.2⟩
theorem IntsBel.below {K0 O : Nat} {w w' : World} {v : Value} {l : IL} (h : IntsBel K0 O w v l) (hb : Below K0 w w') : IntsBel K0 O w' v l := by
 rcases h with h | ⟨b, off, cap, h1, h2⟩
 ·exact .inl h
 ·exact .inr ⟨b, off, cap, h1, fun j u hu => ⟨(h2 j u hu).1, (h2 j u hu).2.1, (hb.cell (p := ⟨b, off + j, none⟩) (h2 j u hu).1).trans (h2 j u hu).2.2⟩⟩
theorem IntsBel.only {K0 O : Nat} {w w' : World} {v : Value} {l : IL} (h : IntsBel K0 O w v l) (hb : OnlyM O w w') : IntsBel K0 O w' v l := by
 rcases h with h | ⟨b, off, cap, h1, h2⟩
 ·exact .inl h
 ·exact .inr ⟨b, off, cap, h1, fun j u hu => ⟨(h2 j u hu).1, (h2 j u hu).2.1, (World.cell?_of_block (hb.block b (World.block_lt_of_cell? _ _ (h2 j u hu).2.2) (h2 j u hu).2.1)).trans (h2 j u hu).2.2⟩⟩
theorem IntsAt.bel {K0 O B : Nat} {w w' : World} {v : Value} {l : IL} (h : IntsAt w v l) (hb : Below B w w') (hB : w.heap.size ≤ B) (hO : w.heap.size ≤ O) (hK : w.heap.size ≤ K0) : IntsBel K0 O w' v l := by
 rcases h with h | ⟨b, off, cap, h1, h2⟩
 ·exact .inl h
 ·refine .inr ⟨b, off, cap, h1, fun j u hu => ?_⟩
  have hc := h2 j u hu
  have hlt : b < w.heap.size := World.block_lt_of_cell? _ _ hc
  exact ⟨by omega, by omega, (hb.cell (p := ⟨b, off + j, none⟩) (by show b < B; omega)).trans hc⟩
def nextB (us : List Bool) : Option Nat := ((List.range 4096).drop 2048).find? fun b => !(us.getD b true)
end Go.Proofs.YtgjmeeiejcbjfaaGreat
