/-
  No cell of these rows narrows 'for every input' (looked for: loops, veiled, ifaces, maps, wideKeys, modest, calm, conditions, laid).
  DERIVED. THE GIVEN ROWS OF THIS SEAT. 7 by the template 'for every input the law returns true; each argument reads behind the call as it read before'; 0 by the template 'total and deterministic' (their statements: YtnpgddndelidfaaTotals.lean).
  GIVEN WITH THE SEED: the statements are not yours to turn. If you find one false, say at which input.
  Laid BY PROGRAM, IN A SANDBOX (cutbox-rows.mjs): the forced cells as the released guide's own fill.sh prints them over the translation 952cbef78cc4f092… (all of the seat's roots in one cut). By AI agents, Wed Nov 11 2026. No macro, syntax, notation, axiom, sorry.
-/
import Derived.Test.YtnpgddndelidfaaChecked
import GoSem.Claim
import GoSem.ClaimJoined
import GoSem.ClaimMapViews
import Derived.JoinedTies
import Derived.KernelRfl
namespace Go.Proofs.Ytnpgddndelidfaa
/- THE CELL 'sum', in the pinned program and in every row, IS THE sha256 OF THE DUMP (.gsa) THAT YtnpgddndelidfaaProg.lean LOADS. Nothing in Lean hashes anything: it is a label: what it is worth is what the hold of that sum in a sandbox is worth. -/
noncomputable def Try.pinned : Pinned := { name := "ytnpgddndelidfaa", sum := "952cbef78cc4f09273487a09e6d31058b88b22eaa9de6b16f62aa4f4801a861c", checked := Try.checked }
namespace Rows
def none {H : Type} : Left H := { results := [], args := [] }

/-- 'glissadelaw03.BitsHave': WHATEVER THE INPUT: true; the input reads as it did. -/
def bitsHaveSpec : ChangeSpec := { name := "bitsHave", fn := fun _ => fun
  | [d1, d2, d3] => { results := [.lit (.bool true)], args := [d1, d2, d3] }
  | _ => none }
def bitsHaveRow : OpenClaim := { program := "ytnpgddndelidfaa", sum := "952cbef78cc4f09273487a09e6d31058b88b22eaa9de6b16f62aa4f4801a861c", func := "glissade/glissadelaw03.BitsHave", spec := "bitsHave", unfollowed := true, recurses := true, apart := false }
def BitsHaveSaid : Prop := bitsHaveRow.holds Try.pinned (OpenSpec.ofChange bitsHaveSpec)

/-- ITS FALSE NEIGHBOUR: 'it returns false'. Refute it at one input. -/
def bitsHaveWrong : ChangeSpec := { name := "bitsHave", fn := fun _ => fun
  | [d1, d2, d3] => { results := [.lit (.bool false)], args := [d1, d2, d3] }
  | _ => none }
def BitsHaveWrongFalsely : Prop := bitsHaveRow.holds Try.pinned (OpenSpec.ofChange bitsHaveWrong)

/-- 'glissadelaw03.BitsCount': WHATEVER THE INPUT: true; the input reads as it did. -/
def bitsCountSpec : ChangeSpec := { name := "bitsCount", fn := fun _ => fun
  | [d1, d2] => { results := [.lit (.bool true)], args := [d1, d2] }
  | _ => none }
def bitsCountRow : OpenClaim := { program := "ytnpgddndelidfaa", sum := "952cbef78cc4f09273487a09e6d31058b88b22eaa9de6b16f62aa4f4801a861c", func := "glissade/glissadelaw03.BitsCount", spec := "bitsCount", unfollowed := true, recurses := true, apart := false }
def BitsCountSaid : Prop := bitsCountRow.holds Try.pinned (OpenSpec.ofChange bitsCountSpec)

/-- ITS FALSE NEIGHBOUR: 'it returns false'. Refute it at one input. -/
def bitsCountWrong : ChangeSpec := { name := "bitsCount", fn := fun _ => fun
  | [d1, d2] => { results := [.lit (.bool false)], args := [d1, d2] }
  | _ => none }
def BitsCountWrongFalsely : Prop := bitsCountRow.holds Try.pinned (OpenSpec.ofChange bitsCountWrong)

/-- 'glissadelaw03.BitsFit': WHATEVER THE INPUT: true; the input reads as it did. -/
def bitsFitSpec : ChangeSpec := { name := "bitsFit", fn := fun _ => fun
  | [d1, d2, d3] => { results := [.lit (.bool true)], args := [d1, d2, d3] }
  | _ => none }
def bitsFitRow : OpenClaim := { program := "ytnpgddndelidfaa", sum := "952cbef78cc4f09273487a09e6d31058b88b22eaa9de6b16f62aa4f4801a861c", func := "glissade/glissadelaw03.BitsFit", spec := "bitsFit", unfollowed := true, recurses := true, apart := false }
def BitsFitSaid : Prop := bitsFitRow.holds Try.pinned (OpenSpec.ofChange bitsFitSpec)

/-- ITS FALSE NEIGHBOUR: 'it returns false'. Refute it at one input. -/
def bitsFitWrong : ChangeSpec := { name := "bitsFit", fn := fun _ => fun
  | [d1, d2, d3] => { results := [.lit (.bool false)], args := [d1, d2, d3] }
  | _ => none }
def BitsFitWrongFalsely : Prop := bitsFitRow.holds Try.pinned (OpenSpec.ofChange bitsFitWrong)

/-- 'glissadelaw03.BitsBack': WHATEVER THE INPUT: true; the input reads as it did. -/
def bitsBackSpec : ChangeSpec := { name := "bitsBack", fn := fun _ => fun
  | [d1, d2, d3] => { results := [.lit (.bool true)], args := [d1, d2, d3] }
  | _ => none }
def bitsBackRow : OpenClaim := { program := "ytnpgddndelidfaa", sum := "952cbef78cc4f09273487a09e6d31058b88b22eaa9de6b16f62aa4f4801a861c", func := "glissade/glissadelaw03.BitsBack", spec := "bitsBack", unfollowed := true, recurses := true, apart := false }
def BitsBackSaid : Prop := bitsBackRow.holds Try.pinned (OpenSpec.ofChange bitsBackSpec)

/-- ITS FALSE NEIGHBOUR: 'it returns false'. Refute it at one input. -/
def bitsBackWrong : ChangeSpec := { name := "bitsBack", fn := fun _ => fun
  | [d1, d2, d3] => { results := [.lit (.bool false)], args := [d1, d2, d3] }
  | _ => none }
def BitsBackWrongFalsely : Prop := bitsBackRow.holds Try.pinned (OpenSpec.ofChange bitsBackWrong)

/-- 'glissadelaw03.BitsWhole': WHATEVER THE INPUT: true; the input reads as it did. -/
def bitsWholeSpec : ChangeSpec := { name := "bitsWhole", fn := fun _ => fun
  | [d1, d2, d3] => { results := [.lit (.bool true)], args := [d1, d2, d3] }
  | _ => none }
def bitsWholeRow : OpenClaim := { program := "ytnpgddndelidfaa", sum := "952cbef78cc4f09273487a09e6d31058b88b22eaa9de6b16f62aa4f4801a861c", func := "glissade/glissadelaw03.BitsWhole", spec := "bitsWhole", unfollowed := true, recurses := true, apart := false }
def BitsWholeSaid : Prop := bitsWholeRow.holds Try.pinned (OpenSpec.ofChange bitsWholeSpec)

/-- ITS FALSE NEIGHBOUR: 'it returns false'. Refute it at one input. -/
def bitsWholeWrong : ChangeSpec := { name := "bitsWhole", fn := fun _ => fun
  | [d1, d2, d3] => { results := [.lit (.bool false)], args := [d1, d2, d3] }
  | _ => none }
def BitsWholeWrongFalsely : Prop := bitsWholeRow.holds Try.pinned (OpenSpec.ofChange bitsWholeWrong)

/-- 'glissadelaw03.BitsLeast': WHATEVER THE INPUT: true; the input reads as it did. -/
def bitsLeastSpec : ChangeSpec := { name := "bitsLeast", fn := fun _ => fun
  | [d1, d2, d3] => { results := [.lit (.bool true)], args := [d1, d2, d3] }
  | _ => none }
def bitsLeastRow : OpenClaim := { program := "ytnpgddndelidfaa", sum := "952cbef78cc4f09273487a09e6d31058b88b22eaa9de6b16f62aa4f4801a861c", func := "glissade/glissadelaw03.BitsLeast", spec := "bitsLeast", unfollowed := true, recurses := true, apart := false }
def BitsLeastSaid : Prop := bitsLeastRow.holds Try.pinned (OpenSpec.ofChange bitsLeastSpec)

/-- ITS FALSE NEIGHBOUR: 'it returns false'. Refute it at one input. -/
def bitsLeastWrong : ChangeSpec := { name := "bitsLeast", fn := fun _ => fun
  | [d1, d2, d3] => { results := [.lit (.bool false)], args := [d1, d2, d3] }
  | _ => none }
def BitsLeastWrongFalsely : Prop := bitsLeastRow.holds Try.pinned (OpenSpec.ofChange bitsLeastWrong)

/-- 'glissadelaw03.BitsTaken': WHATEVER THE INPUT: true; the input reads as it did. -/
def bitsTakenSpec : ChangeSpec := { name := "bitsTaken", fn := fun _ => fun
  | [d1, d2, d3] => { results := [.lit (.bool true)], args := [d1, d2, d3] }
  | _ => none }
def bitsTakenRow : OpenClaim := { program := "ytnpgddndelidfaa", sum := "952cbef78cc4f09273487a09e6d31058b88b22eaa9de6b16f62aa4f4801a861c", func := "glissade/glissadelaw03.BitsTaken", spec := "bitsTaken", unfollowed := true, recurses := true, apart := false }
def BitsTakenSaid : Prop := bitsTakenRow.holds Try.pinned (OpenSpec.ofChange bitsTakenSpec)

/-- ITS FALSE NEIGHBOUR: 'it returns false'. Refute it at one input. -/
def bitsTakenWrong : ChangeSpec := { name := "bitsTaken", fn := fun _ => fun
  | [d1, d2, d3] => { results := [.lit (.bool false)], args := [d1, d2, d3] }
  | _ => none }
def BitsTakenWrongFalsely : Prop := bitsTakenRow.holds Try.pinned (OpenSpec.ofChange bitsTakenWrong)

/- THE SECOND FORM. 'bulk': how many values and letters a reading holds, each counted each time it is reached (what is shared counts as often as it is met; a slice's spare places count too). A statement '..UptoSaid' is the law's where the arguments, and the package variables that the reading takes, are together of bulk at most 1048576: NARROWER than '..Said'. Prove '..Said' where nothing that the law and all that it calls make is longer than what came in: it says more and counts as full. Else prove '..UptoSaid'. A law counts once. -/
mutual
def uptoBulk {H : Type} : DataW H → Nat
  | .lit (.string bytes) => bytes.length + 1
  | .lit _ => 1
  | .nil => 1
  | .ptr d => uptoBulk d + 1
  | .slice elems spare => uptoBulkAll elems + uptoBulkAll spare + 1
  | .agg parts => uptoBulkAll parts + 1
  | .iface _ d => uptoBulk d + 1
  | .map entries => uptoBulkEntries entries + 1
  | .held _ => 1
def uptoBulkAll {H : Type} : List (DataW H) → Nat
  | [] => 0
  | d :: r => uptoBulk d + uptoBulkAll r
def uptoBulkEntries {H : Type} : List (Lit × DataW H) → Nat
  | [] => 0
  | x :: r => uptoBulkEntry x + uptoBulkEntries r
def uptoBulkEntry {H : Type} : Lit × DataW H → Nat
  | (.string bytes, d) => bytes.length + uptoBulk d + 1
  | (_, d) => uptoBulk d + 1
 end
def uptoSmall : (H : Type) → List (DataW H) → Bool := fun _ ds => decide (uptoBulkAll ds ≤ 1048576)
def OpenSpec.upto (s : _root_.Go.ChangeSpec) : _root_.Go.OpenSpec := { _root_.Go.OpenSpec.ofChange s with cond := some uptoSmall }

/-- 'glissadelaw03.BitsHave', WHERE WHAT IT READS IS OF BULK AT MOST 1048576: true; the input reads as it did. -/
def bitsHaveUptoRow : OpenClaim := { program := "ytnpgddndelidfaa", sum := "952cbef78cc4f09273487a09e6d31058b88b22eaa9de6b16f62aa4f4801a861c", func := "glissade/glissadelaw03.BitsHave", spec := "bitsHave", unfollowed := true, recurses := true, apart := false, narrowed := true }
def BitsHaveUptoSaid : Prop := bitsHaveUptoRow.holds Try.pinned (OpenSpec.upto bitsHaveSpec)

/-- 'glissadelaw03.BitsCount', WHERE WHAT IT READS IS OF BULK AT MOST 1048576: true; the input reads as it did. -/
def bitsCountUptoRow : OpenClaim := { program := "ytnpgddndelidfaa", sum := "952cbef78cc4f09273487a09e6d31058b88b22eaa9de6b16f62aa4f4801a861c", func := "glissade/glissadelaw03.BitsCount", spec := "bitsCount", unfollowed := true, recurses := true, apart := false, narrowed := true }
def BitsCountUptoSaid : Prop := bitsCountUptoRow.holds Try.pinned (OpenSpec.upto bitsCountSpec)

/-- 'glissadelaw03.BitsFit', WHERE WHAT IT READS IS OF BULK AT MOST 1048576: true; the input reads as it did. -/
def bitsFitUptoRow : OpenClaim := { program := "ytnpgddndelidfaa", sum := "952cbef78cc4f09273487a09e6d31058b88b22eaa9de6b16f62aa4f4801a861c", func := "glissade/glissadelaw03.BitsFit", spec := "bitsFit", unfollowed := true, recurses := true, apart := false, narrowed := true }
def BitsFitUptoSaid : Prop := bitsFitUptoRow.holds Try.pinned (OpenSpec.upto bitsFitSpec)

/-- 'glissadelaw03.BitsBack', WHERE WHAT IT READS IS OF BULK AT MOST 1048576: true; the input reads as it did. -/
def bitsBackUptoRow : OpenClaim := { program := "ytnpgddndelidfaa", sum := "952cbef78cc4f09273487a09e6d31058b88b22eaa9de6b16f62aa4f4801a861c", func := "glissade/glissadelaw03.BitsBack", spec := "bitsBack", unfollowed := true, recurses := true, apart := false, narrowed := true }
def BitsBackUptoSaid : Prop := bitsBackUptoRow.holds Try.pinned (OpenSpec.upto bitsBackSpec)

/-- 'glissadelaw03.BitsWhole', WHERE WHAT IT READS IS OF BULK AT MOST 1048576: true; the input reads as it did. -/
def bitsWholeUptoRow : OpenClaim := { program := "ytnpgddndelidfaa", sum := "952cbef78cc4f09273487a09e6d31058b88b22eaa9de6b16f62aa4f4801a861c", func := "glissade/glissadelaw03.BitsWhole", spec := "bitsWhole", unfollowed := true, recurses := true, apart := false, narrowed := true }
def BitsWholeUptoSaid : Prop := bitsWholeUptoRow.holds Try.pinned (OpenSpec.upto bitsWholeSpec)

/-- 'glissadelaw03.BitsLeast', WHERE WHAT IT READS IS OF BULK AT MOST 1048576: true; the input reads as it did. -/
def bitsLeastUptoRow : OpenClaim := { program := "ytnpgddndelidfaa", sum := "952cbef78cc4f09273487a09e6d31058b88b22eaa9de6b16f62aa4f4801a861c", func := "glissade/glissadelaw03.BitsLeast", spec := "bitsLeast", unfollowed := true, recurses := true, apart := false, narrowed := true }
def BitsLeastUptoSaid : Prop := bitsLeastUptoRow.holds Try.pinned (OpenSpec.upto bitsLeastSpec)

/-- 'glissadelaw03.BitsTaken', WHERE WHAT IT READS IS OF BULK AT MOST 1048576: true; the input reads as it did. -/
def bitsTakenUptoRow : OpenClaim := { program := "ytnpgddndelidfaa", sum := "952cbef78cc4f09273487a09e6d31058b88b22eaa9de6b16f62aa4f4801a861c", func := "glissade/glissadelaw03.BitsTaken", spec := "bitsTaken", unfollowed := true, recurses := true, apart := false, narrowed := true }
def BitsTakenUptoSaid : Prop := bitsTakenUptoRow.holds Try.pinned (OpenSpec.upto bitsTakenSpec)

end Rows
end Go.Proofs.Ytnpgddndelidfaa
