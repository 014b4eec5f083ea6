/- Two lists of ints that are equal: what SameInts answers, told by Below. -/
import Derived.Test.YtgjmeeiejcbjfaaGreatF32
set_option linter.unusedSimpArgs false
set_option linter.unusedVariables false
namespace Go.Proofs.YtgjmeeiejcbjfaaGreat
open Go Go.RowKit
theorem isame_bel (w : World) (v1 v2 : Value) (l : IL) (h1 : IntsAt w v1 l) (h2 : IntsAt w v2 l) (hn : l.length ≤ 9223372036854775807) :
  Calls Tryz.prog 23 #[v1, v2] w fun e w' => e = .returned (.bool true) ∧ Below w.heap.size w w' := by
 refine (isame_b w v1 v2 l l h1 h2 hn hn true (by simp)).mono ?_
 rintro e w' ⟨h, n, rfl⟩
 exact ⟨h, below_dr (Below.refl _ _)⟩
end Go.Proofs.YtgjmeeiejcbjfaaGreat
