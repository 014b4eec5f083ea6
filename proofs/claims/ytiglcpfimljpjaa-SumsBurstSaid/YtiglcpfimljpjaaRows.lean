/-
  No cell of these rows narrows 'for every input' (looked for: loops, veiled, ifaces, maps, wideKeys, modest, calm, conditions, laid).
  DERIVED. THE GIVEN ROWS OF THIS SEAT. 7 by the template 'for every input the law returns true; each argument reads behind the call as it read before'; 0 by the template 'total and deterministic' (their statements: YtiglcpfimljpjaaTotals.lean).
  GIVEN WITH THE SEED: the statements are not yours to turn. If you find one false, say at which input.
  Laid BY PROGRAM, IN A SANDBOX (cutbox-rows.mjs): the forced cells as the released guide's own fill.sh prints them over the translation e55704623379eebf… (all of the seat's roots in one cut). By AI agents, Wed Nov 11 2026. No macro, syntax, notation, axiom, sorry.
-/
import Derived.Test.YtiglcpfimljpjaaChecked
import GoSem.Claim
import GoSem.ClaimJoined
import GoSem.ClaimMapViews
import Derived.JoinedTies
import Derived.KernelRfl
namespace Go.Proofs.Ytiglcpfimljpjaa
/- THE CELL 'sum', in the pinned program and in every row, IS THE sha256 OF THE DUMP (.gsa) THAT YtiglcpfimljpjaaProg.lean LOADS. Nothing in Lean hashes anything: it is a label: what it is worth is what the hold of that sum in a sandbox is worth. -/
noncomputable def Try.pinned : Pinned := { name := "ytiglcpfimljpjaa", sum := "e55704623379eebfb36252cbdf14d9591fdba189bf70220deb4e2df265d422c7", checked := Try.checked }
namespace Rows
def none {H : Type} : Left H := { results := [], args := [] }

/-- 'glissadelaw02.SumsOf': WHATEVER THE INPUT: true; the input reads as it did. -/
def sumsOfSpec : ChangeSpec := { name := "sumsOf", fn := fun _ => fun
  | [d1, d2] => { results := [.lit (.bool true)], args := [d1, d2] }
  | _ => none }
def sumsOfRow : OpenClaim := { program := "ytiglcpfimljpjaa", sum := "e55704623379eebfb36252cbdf14d9591fdba189bf70220deb4e2df265d422c7", func := "glissade/glissadelaw02.SumsOf", spec := "sumsOf", apart := false }
def SumsOfSaid : Prop := sumsOfRow.holds Try.pinned (OpenSpec.ofChange sumsOfSpec)

/-- ITS FALSE NEIGHBOUR: 'it returns false'. Refute it at one input. -/
def sumsOfWrong : ChangeSpec := { name := "sumsOf", fn := fun _ => fun
  | [d1, d2] => { results := [.lit (.bool false)], args := [d1, d2] }
  | _ => none }
def SumsOfWrongFalsely : Prop := sumsOfRow.holds Try.pinned (OpenSpec.ofChange sumsOfWrong)

/-- 'glissadelaw02.SumsJoins': WHATEVER THE INPUT: true; the input reads as it did. -/
def sumsJoinsSpec : ChangeSpec := { name := "sumsJoins", fn := fun _ => fun
  | [d1, d2, d3] => { results := [.lit (.bool true)], args := [d1, d2, d3] }
  | _ => none }
def sumsJoinsRow : OpenClaim := { program := "ytiglcpfimljpjaa", sum := "e55704623379eebfb36252cbdf14d9591fdba189bf70220deb4e2df265d422c7", func := "glissade/glissadelaw02.SumsJoins", spec := "sumsJoins", apart := false }
def SumsJoinsSaid : Prop := sumsJoinsRow.holds Try.pinned (OpenSpec.ofChange sumsJoinsSpec)

/-- ITS FALSE NEIGHBOUR: 'it returns false'. Refute it at one input. -/
def sumsJoinsWrong : ChangeSpec := { name := "sumsJoins", fn := fun _ => fun
  | [d1, d2, d3] => { results := [.lit (.bool false)], args := [d1, d2, d3] }
  | _ => none }
def SumsJoinsWrongFalsely : Prop := sumsJoinsRow.holds Try.pinned (OpenSpec.ofChange sumsJoinsWrong)

/-- 'glissadelaw02.SumsCut': WHATEVER THE INPUT: true; the input reads as it did. -/
def sumsCutSpec : ChangeSpec := { name := "sumsCut", fn := fun _ => fun
  | [d1, d2] => { results := [.lit (.bool true)], args := [d1, d2] }
  | _ => none }
def sumsCutRow : OpenClaim := { program := "ytiglcpfimljpjaa", sum := "e55704623379eebfb36252cbdf14d9591fdba189bf70220deb4e2df265d422c7", func := "glissade/glissadelaw02.SumsCut", spec := "sumsCut", apart := false }
def SumsCutSaid : Prop := sumsCutRow.holds Try.pinned (OpenSpec.ofChange sumsCutSpec)

/-- ITS FALSE NEIGHBOUR: 'it returns false'. Refute it at one input. -/
def sumsCutWrong : ChangeSpec := { name := "sumsCut", fn := fun _ => fun
  | [d1, d2] => { results := [.lit (.bool false)], args := [d1, d2] }
  | _ => none }
def SumsCutWrongFalsely : Prop := sumsCutRow.holds Try.pinned (OpenSpec.ofChange sumsCutWrong)

/-- 'glissadelaw02.SumsThree': WHATEVER THE INPUT: true; the input reads as it did. -/
def sumsThreeSpec : ChangeSpec := { name := "sumsThree", fn := fun _ => fun
  | [d1, d2, d3] => { results := [.lit (.bool true)], args := [d1, d2, d3] }
  | _ => none }
def sumsThreeRow : OpenClaim := { program := "ytiglcpfimljpjaa", sum := "e55704623379eebfb36252cbdf14d9591fdba189bf70220deb4e2df265d422c7", func := "glissade/glissadelaw02.SumsThree", spec := "sumsThree", apart := false }
def SumsThreeSaid : Prop := sumsThreeRow.holds Try.pinned (OpenSpec.ofChange sumsThreeSpec)

/-- ITS FALSE NEIGHBOUR: 'it returns false'. Refute it at one input. -/
def sumsThreeWrong : ChangeSpec := { name := "sumsThree", fn := fun _ => fun
  | [d1, d2, d3] => { results := [.lit (.bool false)], args := [d1, d2, d3] }
  | _ => none }
def SumsThreeWrongFalsely : Prop := sumsThreeRow.holds Try.pinned (OpenSpec.ofChange sumsThreeWrong)

/-- 'glissadelaw02.SumsXor': WHATEVER THE INPUT: true; the input reads as it did. -/
def sumsXorSpec : ChangeSpec := { name := "sumsXor", fn := fun _ => fun
  | [d] => { results := [.lit (.bool true)], args := [d] }
  | _ => none }
def sumsXorRow : OpenClaim := { program := "ytiglcpfimljpjaa", sum := "e55704623379eebfb36252cbdf14d9591fdba189bf70220deb4e2df265d422c7", func := "glissade/glissadelaw02.SumsXor", spec := "sumsXor", apart := false }
def SumsXorSaid : Prop := sumsXorRow.holds Try.pinned (OpenSpec.ofChange sumsXorSpec)

/-- ITS FALSE NEIGHBOUR: 'it returns false'. Refute it at one input. -/
def sumsXorWrong : ChangeSpec := { name := "sumsXor", fn := fun _ => fun
  | [d] => { results := [.lit (.bool false)], args := [d] }
  | _ => none }
def SumsXorWrongFalsely : Prop := sumsXorRow.holds Try.pinned (OpenSpec.ofChange sumsXorWrong)

/-- 'glissadelaw02.SumsBurst': WHATEVER THE INPUT: true; the input reads as it did. -/
def sumsBurstSpec : ChangeSpec := { name := "sumsBurst", fn := fun _ => fun
  | [d1, d2, d3] => { results := [.lit (.bool true)], args := [d1, d2, d3] }
  | _ => none }
def sumsBurstRow : OpenClaim := { program := "ytiglcpfimljpjaa", sum := "e55704623379eebfb36252cbdf14d9591fdba189bf70220deb4e2df265d422c7", func := "glissade/glissadelaw02.SumsBurst", spec := "sumsBurst", apart := false }
def SumsBurstSaid : Prop := sumsBurstRow.holds Try.pinned (OpenSpec.ofChange sumsBurstSpec)

/-- ITS FALSE NEIGHBOUR: 'it returns false'. Refute it at one input. -/
def sumsBurstWrong : ChangeSpec := { name := "sumsBurst", fn := fun _ => fun
  | [d1, d2, d3] => { results := [.lit (.bool false)], args := [d1, d2, d3] }
  | _ => none }
def SumsBurstWrongFalsely : Prop := sumsBurstRow.holds Try.pinned (OpenSpec.ofChange sumsBurstWrong)

/-- 'glissadelaw02.SumsNothing': WHATEVER THE INPUT: true; the input reads as it did. -/
def sumsNothingSpec : ChangeSpec := { name := "sumsNothing", fn := fun _ => fun
  | [d1, d2, d3] => { results := [.lit (.bool true)], args := [d1, d2, d3] }
  | _ => none }
def sumsNothingRow : OpenClaim := { program := "ytiglcpfimljpjaa", sum := "e55704623379eebfb36252cbdf14d9591fdba189bf70220deb4e2df265d422c7", func := "glissade/glissadelaw02.SumsNothing", spec := "sumsNothing", apart := false }
def SumsNothingSaid : Prop := sumsNothingRow.holds Try.pinned (OpenSpec.ofChange sumsNothingSpec)

/-- ITS FALSE NEIGHBOUR: 'it returns false'. Refute it at one input. -/
def sumsNothingWrong : ChangeSpec := { name := "sumsNothing", fn := fun _ => fun
  | [d1, d2, d3] => { results := [.lit (.bool false)], args := [d1, d2, d3] }
  | _ => none }
def SumsNothingWrongFalsely : Prop := sumsNothingRow.holds Try.pinned (OpenSpec.ofChange sumsNothingWrong)

/- THE SECOND FORM. 'bulk': how many values and letters a reading holds, each counted each time it is reached (what is shared counts as often as it is met; a slice's spare places count too). A statement '..UptoSaid' is the law's where the arguments, and the package variables that the reading takes, are together of bulk at most 1048576: NARROWER than '..Said'. Prove '..Said' where nothing that the law and all that it calls make is longer than what came in: it says more and counts as full. Else prove '..UptoSaid'. A law counts once. -/
mutual
def uptoBulk {H : Type} : DataW H → Nat
  | .lit (.string bytes) => bytes.length + 1
  | .lit _ => 1
  | .nil => 1
  | .ptr d => uptoBulk d + 1
  | .slice elems spare => uptoBulkAll elems + uptoBulkAll spare + 1
  | .agg parts => uptoBulkAll parts + 1
  | .iface _ d => uptoBulk d + 1
  | .map entries => uptoBulkEntries entries + 1
  | .held _ => 1
def uptoBulkAll {H : Type} : List (DataW H) → Nat
  | [] => 0
  | d :: r => uptoBulk d + uptoBulkAll r
def uptoBulkEntries {H : Type} : List (Lit × DataW H) → Nat
  | [] => 0
  | x :: r => uptoBulkEntry x + uptoBulkEntries r
def uptoBulkEntry {H : Type} : Lit × DataW H → Nat
  | (.string bytes, d) => bytes.length + uptoBulk d + 1
  | (_, d) => uptoBulk d + 1
 end
def uptoSmall : (H : Type) → List (DataW H) → Bool := fun _ ds => decide (uptoBulkAll ds ≤ 1048576)
def OpenSpec.upto (s : _root_.Go.ChangeSpec) : _root_.Go.OpenSpec := { _root_.Go.OpenSpec.ofChange s with cond := some uptoSmall }

/-- 'glissadelaw02.SumsOf', WHERE WHAT IT READS IS OF BULK AT MOST 1048576: true; the input reads as it did. -/
def sumsOfUptoRow : OpenClaim := { program := "ytiglcpfimljpjaa", sum := "e55704623379eebfb36252cbdf14d9591fdba189bf70220deb4e2df265d422c7", func := "glissade/glissadelaw02.SumsOf", spec := "sumsOf", apart := false, narrowed := true }
def SumsOfUptoSaid : Prop := sumsOfUptoRow.holds Try.pinned (OpenSpec.upto sumsOfSpec)

/-- 'glissadelaw02.SumsJoins', WHERE WHAT IT READS IS OF BULK AT MOST 1048576: true; the input reads as it did. -/
def sumsJoinsUptoRow : OpenClaim := { program := "ytiglcpfimljpjaa", sum := "e55704623379eebfb36252cbdf14d9591fdba189bf70220deb4e2df265d422c7", func := "glissade/glissadelaw02.SumsJoins", spec := "sumsJoins", apart := false, narrowed := true }
def SumsJoinsUptoSaid : Prop := sumsJoinsUptoRow.holds Try.pinned (OpenSpec.upto sumsJoinsSpec)

/-- 'glissadelaw02.SumsCut', WHERE WHAT IT READS IS OF BULK AT MOST 1048576: true; the input reads as it did. -/
def sumsCutUptoRow : OpenClaim := { program := "ytiglcpfimljpjaa", sum := "e55704623379eebfb36252cbdf14d9591fdba189bf70220deb4e2df265d422c7", func := "glissade/glissadelaw02.SumsCut", spec := "sumsCut", apart := false, narrowed := true }
def SumsCutUptoSaid : Prop := sumsCutUptoRow.holds Try.pinned (OpenSpec.upto sumsCutSpec)

/-- 'glissadelaw02.SumsThree', WHERE WHAT IT READS IS OF BULK AT MOST 1048576: true; the input reads as it did. -/
def sumsThreeUptoRow : OpenClaim := { program := "ytiglcpfimljpjaa", sum := "e55704623379eebfb36252cbdf14d9591fdba189bf70220deb4e2df265d422c7", func := "glissade/glissadelaw02.SumsThree", spec := "sumsThree", apart := false, narrowed := true }
def SumsThreeUptoSaid : Prop := sumsThreeUptoRow.holds Try.pinned (OpenSpec.upto sumsThreeSpec)

/-- 'glissadelaw02.SumsXor', WHERE WHAT IT READS IS OF BULK AT MOST 1048576: true; the input reads as it did. -/
def sumsXorUptoRow : OpenClaim := { program := "ytiglcpfimljpjaa", sum := "e55704623379eebfb36252cbdf14d9591fdba189bf70220deb4e2df265d422c7", func := "glissade/glissadelaw02.SumsXor", spec := "sumsXor", apart := false, narrowed := true }
def SumsXorUptoSaid : Prop := sumsXorUptoRow.holds Try.pinned (OpenSpec.upto sumsXorSpec)

/-- 'glissadelaw02.SumsBurst', WHERE WHAT IT READS IS OF BULK AT MOST 1048576: true; the input reads as it did. -/
def sumsBurstUptoRow : OpenClaim := { program := "ytiglcpfimljpjaa", sum := "e55704623379eebfb36252cbdf14d9591fdba189bf70220deb4e2df265d422c7", func := "glissade/glissadelaw02.SumsBurst", spec := "sumsBurst", apart := false, narrowed := true }
def SumsBurstUptoSaid : Prop := sumsBurstUptoRow.holds Try.pinned (OpenSpec.upto sumsBurstSpec)

/-- 'glissadelaw02.SumsNothing', WHERE WHAT IT READS IS OF BULK AT MOST 1048576: true; the input reads as it did. -/
def sumsNothingUptoRow : OpenClaim := { program := "ytiglcpfimljpjaa", sum := "e55704623379eebfb36252cbdf14d9591fdba189bf70220deb4e2df265d422c7", func := "glissade/glissadelaw02.SumsNothing", spec := "sumsNothing", apart := false, narrowed := true }
def SumsNothingUptoSaid : Prop := sumsNothingUptoRow.holds Try.pinned (OpenSpec.upto sumsNothingSpec)

end Rows
end Go.Proofs.Ytiglcpfimljpjaa
