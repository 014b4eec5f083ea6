/- ForksWalk: the walk. (Printed by wip/gen/fwalklaw.py.) -/
import Derived.Test.YtgjmeeiejcbjfaaGreatM45
import Derived.Test.YtgjmeeiejcbjfaaGreatM39
import Derived.Test.YtgjmeeiejcbjfaaGreatM47
import Derived.Test.YtgjmeeiejcbjfaaGreatM42
import Derived.Test.YtgjmeeiejcbjfaaGreatM41
set_option linter.unusedSimpArgs false
set_option linter.unusedVariables false
namespace Go.Proofs.YtgjmeeiejcbjfaaGreat
open Go Go.RowKit
theorem esame_bel (w : World) (v1 v2 : Value) (l : EL) (h1 : ExtsAt w v1 l) (h2 : ExtsAt w v2 l) (hn : l.length ≤ 9223372036854775807) :
  Calls Tryz.prog 22 #[v1, v2] w fun e w' => e = .returned (.bool true) ∧ Below w.heap.size w w' := esame_b w v1 v2 l l h1 h2 hn hn true (by simp)
theorem Row.texts {w : World} {D : Nat} {L : List ByteArray} (h : Row w D 9 (L.map .string)) (hL : L.length = 4096) : TextsAt w.heap.size D w L :=
 ⟨fun b s hs => h.cellAt b (by rw [List.getElem?_map, hs]; rfl), hL, h.lt⟩
end Go.Proofs.YtgjmeeiejcbjfaaGreat
