/- The journal: of a device that is none. -/
import Derived.Test.YtnpdhidliaahbaaGreatP23
set_option maxRecDepth 100000
set_option maxHeartbeats 32000000
set_option linter.unusedSimpArgs false
set_option linter.unusedVariables false
namespace Go.Proofs.YtnpdhidliaahbaaGreat
open Go Go.RowKit
end Go.Proofs.YtnpdhidliaahbaaGreat
