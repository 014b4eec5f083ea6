/-
  No cell of these rows narrows 'for every input' (looked for: loops, veiled, ifaces, maps, wideKeys, modest, calm, conditions, laid).
  DERIVED. THE GIVEN ROWS OF THIS SEAT. 8 by the template 'for every input the law returns true; each argument reads behind the call as it read before'; 0 by the template 'total and deterministic' (their statements: YtkpnimekhekpmaaTotals.lean).
  GIVEN WITH THE SEED: the statements are not yours to turn. If you find one false, say at which input.
  Laid BY PROGRAM, IN A SANDBOX (cutbox-rows.mjs): the forced cells as the released guide's own fill.sh prints them over the translation ae45d059442d8a4d… (all of the seat's roots in one cut). By AI agents, Wed Nov 11 2026. No macro, syntax, notation, axiom, sorry.
-/
import Derived.Test.YtkpnimekhekpmaaChecked
import GoSem.Claim
import GoSem.ClaimJoined
import GoSem.ClaimMapViews
import Derived.JoinedTies
import Derived.KernelRfl
namespace Go.Proofs.Ytkpnimekhekpmaa
/- THE CELL 'sum', in the pinned program and in every row, IS THE sha256 OF THE DUMP (.gsa) THAT YtkpnimekhekpmaaProg.lean LOADS. Nothing in Lean hashes anything: it is a label: what it is worth is what the hold of that sum in a sandbox is worth. -/
noncomputable def Try.pinned : Pinned := { name := "ytkpnimekhekpmaa", sum := "ae45d059442d8a4d8fb384ab64e934f011564d2d7b9215fc0509110f82cf51b1", checked := Try.checked }
namespace Rows
def none {H : Type} : Left H := { results := [], args := [] }

/-- 'glissadelaw04.RunsRest': WHATEVER THE INPUT: true; the input reads as it did. -/
def runsRestSpec : ChangeSpec := { name := "runsRest", fn := fun _ => fun
  | [d1, d2] => { results := [.lit (.bool true)], args := [d1, d2] }
  | _ => none }
def runsRestRow : OpenClaim := { program := "ytkpnimekhekpmaa", sum := "ae45d059442d8a4d8fb384ab64e934f011564d2d7b9215fc0509110f82cf51b1", func := "glissade/glissadelaw04.RunsRest", spec := "runsRest", unfollowed := true, recurses := true, apart := false }
def RunsRestSaid : Prop := runsRestRow.holds Try.pinned (OpenSpec.ofChange runsRestSpec)

/-- ITS FALSE NEIGHBOUR: 'it returns false'. Refute it at one input. -/
def runsRestWrong : ChangeSpec := { name := "runsRest", fn := fun _ => fun
  | [d1, d2] => { results := [.lit (.bool false)], args := [d1, d2] }
  | _ => none }
def RunsRestWrongFalsely : Prop := runsRestRow.holds Try.pinned (OpenSpec.ofChange runsRestWrong)

/-- 'glissadelaw04.RunsTurned': WHATEVER THE INPUT: true; the input reads as it did. -/
def runsTurnedSpec : ChangeSpec := { name := "runsTurned", fn := fun _ => fun
  | [d1, d2] => { results := [.lit (.bool true)], args := [d1, d2] }
  | _ => none }
def runsTurnedRow : OpenClaim := { program := "ytkpnimekhekpmaa", sum := "ae45d059442d8a4d8fb384ab64e934f011564d2d7b9215fc0509110f82cf51b1", func := "glissade/glissadelaw04.RunsTurned", spec := "runsTurned", unfollowed := true, recurses := true, apart := false }
def RunsTurnedSaid : Prop := runsTurnedRow.holds Try.pinned (OpenSpec.ofChange runsTurnedSpec)

/-- ITS FALSE NEIGHBOUR: 'it returns false'. Refute it at one input. -/
def runsTurnedWrong : ChangeSpec := { name := "runsTurned", fn := fun _ => fun
  | [d1, d2] => { results := [.lit (.bool false)], args := [d1, d2] }
  | _ => none }
def RunsTurnedWrongFalsely : Prop := runsTurnedRow.holds Try.pinned (OpenSpec.ofChange runsTurnedWrong)

/-- 'glissadelaw04.RunsChecks': WHATEVER THE INPUT: true; the input reads as it did. -/
def runsChecksSpec : ChangeSpec := { name := "runsChecks", fn := fun _ => fun
  | [d1, d2] => { results := [.lit (.bool true)], args := [d1, d2] }
  | _ => none }
def runsChecksRow : OpenClaim := { program := "ytkpnimekhekpmaa", sum := "ae45d059442d8a4d8fb384ab64e934f011564d2d7b9215fc0509110f82cf51b1", func := "glissade/glissadelaw04.RunsChecks", spec := "runsChecks", unfollowed := true, recurses := true, apart := false }
def RunsChecksSaid : Prop := runsChecksRow.holds Try.pinned (OpenSpec.ofChange runsChecksSpec)

/-- ITS FALSE NEIGHBOUR: 'it returns false'. Refute it at one input. -/
def runsChecksWrong : ChangeSpec := { name := "runsChecks", fn := fun _ => fun
  | [d1, d2] => { results := [.lit (.bool false)], args := [d1, d2] }
  | _ => none }
def RunsChecksWrongFalsely : Prop := runsChecksRow.holds Try.pinned (OpenSpec.ofChange runsChecksWrong)

/-- 'glissadelaw04.RunsNormal': WHATEVER THE INPUT: true; the input reads as it did. -/
def runsNormalSpec : ChangeSpec := { name := "runsNormal", fn := fun _ => fun
  | [d1, d2] => { results := [.lit (.bool true)], args := [d1, d2] }
  | _ => none }
def runsNormalRow : OpenClaim := { program := "ytkpnimekhekpmaa", sum := "ae45d059442d8a4d8fb384ab64e934f011564d2d7b9215fc0509110f82cf51b1", func := "glissade/glissadelaw04.RunsNormal", spec := "runsNormal", unfollowed := true, recurses := true, apart := false }
def RunsNormalSaid : Prop := runsNormalRow.holds Try.pinned (OpenSpec.ofChange runsNormalSpec)

/-- ITS FALSE NEIGHBOUR: 'it returns false'. Refute it at one input. -/
def runsNormalWrong : ChangeSpec := { name := "runsNormal", fn := fun _ => fun
  | [d1, d2] => { results := [.lit (.bool false)], args := [d1, d2] }
  | _ => none }
def RunsNormalWrongFalsely : Prop := runsNormalRow.holds Try.pinned (OpenSpec.ofChange runsNormalWrong)

/-- 'glissadelaw04.RunsPuts': WHATEVER THE INPUT: true; the input reads as it did. -/
def runsPutsSpec : ChangeSpec := { name := "runsPuts", fn := fun _ => fun
  | [d1, d2] => { results := [.lit (.bool true)], args := [d1, d2] }
  | _ => none }
def runsPutsRow : OpenClaim := { program := "ytkpnimekhekpmaa", sum := "ae45d059442d8a4d8fb384ab64e934f011564d2d7b9215fc0509110f82cf51b1", func := "glissade/glissadelaw04.RunsPuts", spec := "runsPuts", unfollowed := true, recurses := true, apart := false }
def RunsPutsSaid : Prop := runsPutsRow.holds Try.pinned (OpenSpec.ofChange runsPutsSpec)

/-- ITS FALSE NEIGHBOUR: 'it returns false'. Refute it at one input. -/
def runsPutsWrong : ChangeSpec := { name := "runsPuts", fn := fun _ => fun
  | [d1, d2] => { results := [.lit (.bool false)], args := [d1, d2] }
  | _ => none }
def RunsPutsWrongFalsely : Prop := runsPutsRow.holds Try.pinned (OpenSpec.ofChange runsPutsWrong)

/-- 'glissadelaw04.RunsLaws': WHATEVER THE INPUT: true; the input reads as it did. -/
def runsLawsSpec : ChangeSpec := { name := "runsLaws", fn := fun _ => fun
  | [d1, d2, d3] => { results := [.lit (.bool true)], args := [d1, d2, d3] }
  | _ => none }
def runsLawsRow : OpenClaim := { program := "ytkpnimekhekpmaa", sum := "ae45d059442d8a4d8fb384ab64e934f011564d2d7b9215fc0509110f82cf51b1", func := "glissade/glissadelaw04.RunsLaws", spec := "runsLaws", unfollowed := true, recurses := true, apart := false }
def RunsLawsSaid : Prop := runsLawsRow.holds Try.pinned (OpenSpec.ofChange runsLawsSpec)

/-- ITS FALSE NEIGHBOUR: 'it returns false'. Refute it at one input. -/
def runsLawsWrong : ChangeSpec := { name := "runsLaws", fn := fun _ => fun
  | [d1, d2, d3] => { results := [.lit (.bool false)], args := [d1, d2, d3] }
  | _ => none }
def RunsLawsWrongFalsely : Prop := runsLawsRow.holds Try.pinned (OpenSpec.ofChange runsLawsWrong)

/-- 'glissadelaw04.RunsCount': WHATEVER THE INPUT: true; the input reads as it did. -/
def runsCountSpec : ChangeSpec := { name := "runsCount", fn := fun _ => fun
  | [d1, d2] => { results := [.lit (.bool true)], args := [d1, d2] }
  | _ => none }
def runsCountRow : OpenClaim := { program := "ytkpnimekhekpmaa", sum := "ae45d059442d8a4d8fb384ab64e934f011564d2d7b9215fc0509110f82cf51b1", func := "glissade/glissadelaw04.RunsCount", spec := "runsCount", unfollowed := true, recurses := true, apart := false }
def RunsCountSaid : Prop := runsCountRow.holds Try.pinned (OpenSpec.ofChange runsCountSpec)

/-- ITS FALSE NEIGHBOUR: 'it returns false'. Refute it at one input. -/
def runsCountWrong : ChangeSpec := { name := "runsCount", fn := fun _ => fun
  | [d1, d2] => { results := [.lit (.bool false)], args := [d1, d2] }
  | _ => none }
def RunsCountWrongFalsely : Prop := runsCountRow.holds Try.pinned (OpenSpec.ofChange runsCountWrong)

/-- 'glissadelaw04.RunsEach': WHATEVER THE INPUT: true; the input reads as it did. -/
def runsEachSpec : ChangeSpec := { name := "runsEach", fn := fun _ => fun
  | [d1, d2, d3] => { results := [.lit (.bool true)], args := [d1, d2, d3] }
  | _ => none }
def runsEachRow : OpenClaim := { program := "ytkpnimekhekpmaa", sum := "ae45d059442d8a4d8fb384ab64e934f011564d2d7b9215fc0509110f82cf51b1", func := "glissade/glissadelaw04.RunsEach", spec := "runsEach", unfollowed := true, recurses := true, apart := false }
def RunsEachSaid : Prop := runsEachRow.holds Try.pinned (OpenSpec.ofChange runsEachSpec)

/-- ITS FALSE NEIGHBOUR: 'it returns false'. Refute it at one input. -/
def runsEachWrong : ChangeSpec := { name := "runsEach", fn := fun _ => fun
  | [d1, d2, d3] => { results := [.lit (.bool false)], args := [d1, d2, d3] }
  | _ => none }
def RunsEachWrongFalsely : Prop := runsEachRow.holds Try.pinned (OpenSpec.ofChange runsEachWrong)

/- THE SECOND FORM. 'bulk': how many values and letters a reading holds, each counted each time it is reached (what is shared counts as often as it is met; a slice's spare places count too). A statement '..UptoSaid' is the law's where the arguments, and the package variables that the reading takes, are together of bulk at most 1048576: NARROWER than '..Said'. Prove '..Said' where nothing that the law and all that it calls make is longer than what came in: it says more and counts as full. Else prove '..UptoSaid'. A law counts once. -/
mutual
def uptoBulk {H : Type} : DataW H → Nat
  | .lit (.string bytes) => bytes.length + 1
  | .lit _ => 1
  | .nil => 1
  | .ptr d => uptoBulk d + 1
  | .slice elems spare => uptoBulkAll elems + uptoBulkAll spare + 1
  | .agg parts => uptoBulkAll parts + 1
  | .iface _ d => uptoBulk d + 1
  | .map entries => uptoBulkEntries entries + 1
  | .held _ => 1
def uptoBulkAll {H : Type} : List (DataW H) → Nat
  | [] => 0
  | d :: r => uptoBulk d + uptoBulkAll r
def uptoBulkEntries {H : Type} : List (Lit × DataW H) → Nat
  | [] => 0
  | x :: r => uptoBulkEntry x + uptoBulkEntries r
def uptoBulkEntry {H : Type} : Lit × DataW H → Nat
  | (.string bytes, d) => bytes.length + uptoBulk d + 1
  | (_, d) => uptoBulk d + 1
 end
def uptoSmall : (H : Type) → List (DataW H) → Bool := fun _ ds => decide (uptoBulkAll ds ≤ 1048576)
def OpenSpec.upto (s : _root_.Go.ChangeSpec) : _root_.Go.OpenSpec := { _root_.Go.OpenSpec.ofChange s with cond := some uptoSmall }

/-- 'glissadelaw04.RunsRest', WHERE WHAT IT READS IS OF BULK AT MOST 1048576: true; the input reads as it did. -/
def runsRestUptoRow : OpenClaim := { program := "ytkpnimekhekpmaa", sum := "ae45d059442d8a4d8fb384ab64e934f011564d2d7b9215fc0509110f82cf51b1", func := "glissade/glissadelaw04.RunsRest", spec := "runsRest", unfollowed := true, recurses := true, apart := false, narrowed := true }
def RunsRestUptoSaid : Prop := runsRestUptoRow.holds Try.pinned (OpenSpec.upto runsRestSpec)

/-- 'glissadelaw04.RunsTurned', WHERE WHAT IT READS IS OF BULK AT MOST 1048576: true; the input reads as it did. -/
def runsTurnedUptoRow : OpenClaim := { program := "ytkpnimekhekpmaa", sum := "ae45d059442d8a4d8fb384ab64e934f011564d2d7b9215fc0509110f82cf51b1", func := "glissade/glissadelaw04.RunsTurned", spec := "runsTurned", unfollowed := true, recurses := true, apart := false, narrowed := true }
def RunsTurnedUptoSaid : Prop := runsTurnedUptoRow.holds Try.pinned (OpenSpec.upto runsTurnedSpec)

/-- 'glissadelaw04.RunsChecks', WHERE WHAT IT READS IS OF BULK AT MOST 1048576: true; the input reads as it did. -/
def runsChecksUptoRow : OpenClaim := { program := "ytkpnimekhekpmaa", sum := "ae45d059442d8a4d8fb384ab64e934f011564d2d7b9215fc0509110f82cf51b1", func := "glissade/glissadelaw04.RunsChecks", spec := "runsChecks", unfollowed := true, recurses := true, apart := false, narrowed := true }
def RunsChecksUptoSaid : Prop := runsChecksUptoRow.holds Try.pinned (OpenSpec.upto runsChecksSpec)

/-- 'glissadelaw04.RunsNormal', WHERE WHAT IT READS IS OF BULK AT MOST 1048576: true; the input reads as it did. -/
def runsNormalUptoRow : OpenClaim := { program := "ytkpnimekhekpmaa", sum := "ae45d059442d8a4d8fb384ab64e934f011564d2d7b9215fc0509110f82cf51b1", func := "glissade/glissadelaw04.RunsNormal", spec := "runsNormal", unfollowed := true, recurses := true, apart := false, narrowed := true }
def RunsNormalUptoSaid : Prop := runsNormalUptoRow.holds Try.pinned (OpenSpec.upto runsNormalSpec)

/-- 'glissadelaw04.RunsPuts', WHERE WHAT IT READS IS OF BULK AT MOST 1048576: true; the input reads as it did. -/
def runsPutsUptoRow : OpenClaim := { program := "ytkpnimekhekpmaa", sum := "ae45d059442d8a4d8fb384ab64e934f011564d2d7b9215fc0509110f82cf51b1", func := "glissade/glissadelaw04.RunsPuts", spec := "runsPuts", unfollowed := true, recurses := true, apart := false, narrowed := true }
def RunsPutsUptoSaid : Prop := runsPutsUptoRow.holds Try.pinned (OpenSpec.upto runsPutsSpec)

/-- 'glissadelaw04.RunsLaws', WHERE WHAT IT READS IS OF BULK AT MOST 1048576: true; the input reads as it did. -/
def runsLawsUptoRow : OpenClaim := { program := "ytkpnimekhekpmaa", sum := "ae45d059442d8a4d8fb384ab64e934f011564d2d7b9215fc0509110f82cf51b1", func := "glissade/glissadelaw04.RunsLaws", spec := "runsLaws", unfollowed := true, recurses := true, apart := false, narrowed := true }
def RunsLawsUptoSaid : Prop := runsLawsUptoRow.holds Try.pinned (OpenSpec.upto runsLawsSpec)

/-- 'glissadelaw04.RunsCount', WHERE WHAT IT READS IS OF BULK AT MOST 1048576: true; the input reads as it did. -/
def runsCountUptoRow : OpenClaim := { program := "ytkpnimekhekpmaa", sum := "ae45d059442d8a4d8fb384ab64e934f011564d2d7b9215fc0509110f82cf51b1", func := "glissade/glissadelaw04.RunsCount", spec := "runsCount", unfollowed := true, recurses := true, apart := false, narrowed := true }
def RunsCountUptoSaid : Prop := runsCountUptoRow.holds Try.pinned (OpenSpec.upto runsCountSpec)

/-- 'glissadelaw04.RunsEach', WHERE WHAT IT READS IS OF BULK AT MOST 1048576: true; the input reads as it did. -/
def runsEachUptoRow : OpenClaim := { program := "ytkpnimekhekpmaa", sum := "ae45d059442d8a4d8fb384ab64e934f011564d2d7b9215fc0509110f82cf51b1", func := "glissade/glissadelaw04.RunsEach", spec := "runsEach", unfollowed := true, recurses := true, apart := false, narrowed := true }
def RunsEachUptoSaid : Prop := runsEachUptoRow.holds Try.pinned (OpenSpec.upto runsEachSpec)

end Rows
end Go.Proofs.Ytkpnimekhekpmaa
