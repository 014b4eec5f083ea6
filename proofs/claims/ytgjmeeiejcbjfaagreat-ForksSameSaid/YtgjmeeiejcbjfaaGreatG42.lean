/- ForksSame: the walk, of what it is handed. -/
import Derived.Test.YtgjmeeiejcbjfaaGreatG39
import Derived.Test.YtgjmeeiejcbjfaaGreatG41
namespace Go.Proofs.YtgjmeeiejcbjfaaGreat
set_option linter.unusedVariables false
open Go Go.RowKit

/-- ForksSame, of what it is handed. -/
theorem ForksSame_walk (depth : Int) (ar : Option Addr) (cr : Nat) (root : EL) (ad : Option Addr) (cap : Nat) (cl : CL) (bad a b : Int) (al : Option Addr) (kl : Nat) (l : EL) (af : Option Addr) (kf : Nat) (fr : IL) {w : World} (hT : TreeIn w depth (.slice ar root.length cr) root) (hD : DiskIn w (.slice ad cl.length cap) cl bad) (hA : AskIn w a b (.slice al l.length kl) l (.slice af fr.length kf) fr) :
    Calls Tryz.prog 6 #[.agg #[.int .i64 depth, .slice ar root.length cr], .agg #[.slice ad cl.length cap, .int .i64 bad], .agg #[.int .i64 a, .int .i64 b, .slice al l.length kl, .slice af fr.length kf]] w fun e w' => e = .returned (.bool true) ∧ Below w.heap.size w w' :=
  same_walk w depth ar cr root ad cap cl bad a b al kl l af kf fr hT.depth hD.bad hA.a hA.b hT.root.at_ hT.root.small hD.chgs.at_ hD.chgs.small hA.l.at_ hA.l.small hA.fr.at_ hD.chgs.len hT.root.len hA.l.len hA.fr.len

end Go.Proofs.YtgjmeeiejcbjfaaGreat
