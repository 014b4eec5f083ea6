/-
  No cell of these rows narrows 'for every input' (looked for: loops, veiled, ifaces, maps, wideKeys, modest, calm, conditions, laid).
  DERIVED. THE GIVEN ROWS OF THIS SEAT. 6 by the template 'for every input the law returns true; each argument reads behind the call as it read before'; 0 by the template 'total and deterministic' (their statements: YtlickjaopbcanaaTotals.lean).
  GIVEN WITH THE SEED: the statements are not yours to turn. If you find one false, say at which input.
  Laid BY PROGRAM, IN A SANDBOX (cutbox-rows.mjs): the forced cells as the released guide's own fill.sh prints them over the translation bfaf2b7c7b8e91b9… (all of the seat's roots in one cut). By AI agents, Wed Nov 11 2026. No macro, syntax, notation, axiom, sorry.
-/
import Derived.Test.YtlickjaopbcanaaChecked
import GoSem.Claim
import GoSem.ClaimJoined
import GoSem.ClaimMapViews
import Derived.JoinedTies
import Derived.KernelRfl
namespace Go.Proofs.Ytlickjaopbcanaa
/- THE CELL 'sum', in the pinned program and in every row, IS THE sha256 OF THE DUMP (.gsa) THAT YtlickjaopbcanaaProg.lean LOADS. Nothing in Lean hashes anything: it is a label: what it is worth is what the hold of that sum in a sandbox is worth. -/
noncomputable def Try.pinned : Pinned := { name := "ytlickjaopbcanaa", sum := "bfaf2b7c7b8e91b9de8f0a66e564fc7edced51e3699d3996cd78c046e945fcbf", checked := Try.checked }
namespace Rows
def none {H : Type} : Left H := { results := [], args := [] }

/-- 'glissadelaw07.BuffersLast': WHATEVER THE INPUT: true; the input reads as it did. -/
def buffersLastSpec : ChangeSpec := { name := "buffersLast", fn := fun _ => fun
  | [d1, d2] => { results := [.lit (.bool true)], args := [d1, d2] }
  | _ => none }
def buffersLastRow : OpenClaim := { program := "ytlickjaopbcanaa", sum := "bfaf2b7c7b8e91b9de8f0a66e564fc7edced51e3699d3996cd78c046e945fcbf", func := "glissade/glissadelaw07.BuffersLast", spec := "buffersLast", inPlace := ["internal/abi.NoEscape", "internal/bytealg.MakeNoZero"], unfollowed := true, recurses := true, apart := false }
def BuffersLastSaid : Prop := buffersLastRow.holds Try.pinned (OpenSpec.ofChange buffersLastSpec)

/-- ITS FALSE NEIGHBOUR: 'it returns false'. Refute it at one input. -/
def buffersLastWrong : ChangeSpec := { name := "buffersLast", fn := fun _ => fun
  | [d1, d2] => { results := [.lit (.bool false)], args := [d1, d2] }
  | _ => none }
def BuffersLastWrongFalsely : Prop := buffersLastRow.holds Try.pinned (OpenSpec.ofChange buffersLastWrong)

/-- 'glissadelaw07.BuffersNone': WHATEVER THE INPUT: true; the input reads as it did. -/
def buffersNoneSpec : ChangeSpec := { name := "buffersNone", fn := fun _ => fun
  | [d1, d2, d3] => { results := [.lit (.bool true)], args := [d1, d2, d3] }
  | _ => none }
def buffersNoneRow : OpenClaim := { program := "ytlickjaopbcanaa", sum := "bfaf2b7c7b8e91b9de8f0a66e564fc7edced51e3699d3996cd78c046e945fcbf", func := "glissade/glissadelaw07.BuffersNone", spec := "buffersNone", inPlace := ["internal/abi.NoEscape", "internal/bytealg.MakeNoZero"], unfollowed := true, recurses := true, apart := false }
def BuffersNoneSaid : Prop := buffersNoneRow.holds Try.pinned (OpenSpec.ofChange buffersNoneSpec)

/-- ITS FALSE NEIGHBOUR: 'it returns false'. Refute it at one input. -/
def buffersNoneWrong : ChangeSpec := { name := "buffersNone", fn := fun _ => fun
  | [d1, d2, d3] => { results := [.lit (.bool false)], args := [d1, d2, d3] }
  | _ => none }
def BuffersNoneWrongFalsely : Prop := buffersNoneRow.holds Try.pinned (OpenSpec.ofChange buffersNoneWrong)

/-- 'glissadelaw07.BuffersReads': WHATEVER THE INPUT: true; the input reads as it did. -/
def buffersReadsSpec : ChangeSpec := { name := "buffersReads", fn := fun _ => fun
  | [d1, d2] => { results := [.lit (.bool true)], args := [d1, d2] }
  | _ => none }
def buffersReadsRow : OpenClaim := { program := "ytlickjaopbcanaa", sum := "bfaf2b7c7b8e91b9de8f0a66e564fc7edced51e3699d3996cd78c046e945fcbf", func := "glissade/glissadelaw07.BuffersReads", spec := "buffersReads", inPlace := ["internal/abi.NoEscape", "internal/bytealg.MakeNoZero"], unfollowed := true, recurses := true, apart := false }
def BuffersReadsSaid : Prop := buffersReadsRow.holds Try.pinned (OpenSpec.ofChange buffersReadsSpec)

/-- ITS FALSE NEIGHBOUR: 'it returns false'. Refute it at one input. -/
def buffersReadsWrong : ChangeSpec := { name := "buffersReads", fn := fun _ => fun
  | [d1, d2] => { results := [.lit (.bool false)], args := [d1, d2] }
  | _ => none }
def BuffersReadsWrongFalsely : Prop := buffersReadsRow.holds Try.pinned (OpenSpec.ofChange buffersReadsWrong)

/-- 'glissadelaw07.BuffersPins': WHATEVER THE INPUT: true; the input reads as it did. -/
def buffersPinsSpec : ChangeSpec := { name := "buffersPins", fn := fun _ => fun
  | [d1, d2, d3] => { results := [.lit (.bool true)], args := [d1, d2, d3] }
  | _ => none }
def buffersPinsRow : OpenClaim := { program := "ytlickjaopbcanaa", sum := "bfaf2b7c7b8e91b9de8f0a66e564fc7edced51e3699d3996cd78c046e945fcbf", func := "glissade/glissadelaw07.BuffersPins", spec := "buffersPins", inPlace := ["internal/abi.NoEscape", "internal/bytealg.MakeNoZero"], unfollowed := true, recurses := true, apart := false }
def BuffersPinsSaid : Prop := buffersPinsRow.holds Try.pinned (OpenSpec.ofChange buffersPinsSpec)

/-- ITS FALSE NEIGHBOUR: 'it returns false'. Refute it at one input. -/
def buffersPinsWrong : ChangeSpec := { name := "buffersPins", fn := fun _ => fun
  | [d1, d2, d3] => { results := [.lit (.bool false)], args := [d1, d2, d3] }
  | _ => none }
def BuffersPinsWrongFalsely : Prop := buffersPinsRow.holds Try.pinned (OpenSpec.ofChange buffersPinsWrong)

/-- 'glissadelaw07.BuffersSync': WHATEVER THE INPUT: true; the input reads as it did. -/
def buffersSyncSpec : ChangeSpec := { name := "buffersSync", fn := fun _ => fun
  | [d1, d2, d3] => { results := [.lit (.bool true)], args := [d1, d2, d3] }
  | _ => none }
def buffersSyncRow : OpenClaim := { program := "ytlickjaopbcanaa", sum := "bfaf2b7c7b8e91b9de8f0a66e564fc7edced51e3699d3996cd78c046e945fcbf", func := "glissade/glissadelaw07.BuffersSync", spec := "buffersSync", inPlace := ["internal/abi.NoEscape", "internal/bytealg.MakeNoZero"], unfollowed := true, recurses := true, apart := false }
def BuffersSyncSaid : Prop := buffersSyncRow.holds Try.pinned (OpenSpec.ofChange buffersSyncSpec)

/-- ITS FALSE NEIGHBOUR: 'it returns false'. Refute it at one input. -/
def buffersSyncWrong : ChangeSpec := { name := "buffersSync", fn := fun _ => fun
  | [d1, d2, d3] => { results := [.lit (.bool false)], args := [d1, d2, d3] }
  | _ => none }
def BuffersSyncWrongFalsely : Prop := buffersSyncRow.holds Try.pinned (OpenSpec.ofChange buffersSyncWrong)

/-- 'glissadelaw07.BuffersPlays': WHATEVER THE INPUT: true; the input reads as it did. -/
def buffersPlaysSpec : ChangeSpec := { name := "buffersPlays", fn := fun _ => fun
  | [d1, d2] => { results := [.lit (.bool true)], args := [d1, d2] }
  | _ => none }
def buffersPlaysRow : OpenClaim := { program := "ytlickjaopbcanaa", sum := "bfaf2b7c7b8e91b9de8f0a66e564fc7edced51e3699d3996cd78c046e945fcbf", func := "glissade/glissadelaw07.BuffersPlays", spec := "buffersPlays", inPlace := ["internal/abi.NoEscape", "internal/bytealg.MakeNoZero"], unfollowed := true, recurses := true, apart := false }
def BuffersPlaysSaid : Prop := buffersPlaysRow.holds Try.pinned (OpenSpec.ofChange buffersPlaysSpec)

/-- ITS FALSE NEIGHBOUR: 'it returns false'. Refute it at one input. -/
def buffersPlaysWrong : ChangeSpec := { name := "buffersPlays", fn := fun _ => fun
  | [d1, d2] => { results := [.lit (.bool false)], args := [d1, d2] }
  | _ => none }
def BuffersPlaysWrongFalsely : Prop := buffersPlaysRow.holds Try.pinned (OpenSpec.ofChange buffersPlaysWrong)

/- THE SECOND FORM. 'bulk': how many values and letters a reading holds, each counted each time it is reached (what is shared counts as often as it is met; a slice's spare places count too). A statement '..UptoSaid' is the law's where the arguments, and the package variables that the reading takes, are together of bulk at most 1048576: NARROWER than '..Said'. Prove '..Said' where nothing that the law and all that it calls make is longer than what came in: it says more and counts as full. Else prove '..UptoSaid'. A law counts once. -/
mutual
def uptoBulk {H : Type} : DataW H → Nat
  | .lit (.string bytes) => bytes.length + 1
  | .lit _ => 1
  | .nil => 1
  | .ptr d => uptoBulk d + 1
  | .slice elems spare => uptoBulkAll elems + uptoBulkAll spare + 1
  | .agg parts => uptoBulkAll parts + 1
  | .iface _ d => uptoBulk d + 1
  | .map entries => uptoBulkEntries entries + 1
  | .held _ => 1
def uptoBulkAll {H : Type} : List (DataW H) → Nat
  | [] => 0
  | d :: r => uptoBulk d + uptoBulkAll r
def uptoBulkEntries {H : Type} : List (Lit × DataW H) → Nat
  | [] => 0
  | x :: r => uptoBulkEntry x + uptoBulkEntries r
def uptoBulkEntry {H : Type} : Lit × DataW H → Nat
  | (.string bytes, d) => bytes.length + uptoBulk d + 1
  | (_, d) => uptoBulk d + 1
 end
def uptoSmall : (H : Type) → List (DataW H) → Bool := fun _ ds => decide (uptoBulkAll ds ≤ 1048576)
def OpenSpec.upto (s : _root_.Go.ChangeSpec) : _root_.Go.OpenSpec := { _root_.Go.OpenSpec.ofChange s with cond := some uptoSmall }

/-- 'glissadelaw07.BuffersLast', WHERE WHAT IT READS IS OF BULK AT MOST 1048576: true; the input reads as it did. -/
def buffersLastUptoRow : OpenClaim := { program := "ytlickjaopbcanaa", sum := "bfaf2b7c7b8e91b9de8f0a66e564fc7edced51e3699d3996cd78c046e945fcbf", func := "glissade/glissadelaw07.BuffersLast", spec := "buffersLast", inPlace := ["internal/abi.NoEscape", "internal/bytealg.MakeNoZero"], unfollowed := true, recurses := true, apart := false, narrowed := true }
def BuffersLastUptoSaid : Prop := buffersLastUptoRow.holds Try.pinned (OpenSpec.upto buffersLastSpec)

/-- 'glissadelaw07.BuffersNone', WHERE WHAT IT READS IS OF BULK AT MOST 1048576: true; the input reads as it did. -/
def buffersNoneUptoRow : OpenClaim := { program := "ytlickjaopbcanaa", sum := "bfaf2b7c7b8e91b9de8f0a66e564fc7edced51e3699d3996cd78c046e945fcbf", func := "glissade/glissadelaw07.BuffersNone", spec := "buffersNone", inPlace := ["internal/abi.NoEscape", "internal/bytealg.MakeNoZero"], unfollowed := true, recurses := true, apart := false, narrowed := true }
def BuffersNoneUptoSaid : Prop := buffersNoneUptoRow.holds Try.pinned (OpenSpec.upto buffersNoneSpec)

/-- 'glissadelaw07.BuffersReads', WHERE WHAT IT READS IS OF BULK AT MOST 1048576: true; the input reads as it did. -/
def buffersReadsUptoRow : OpenClaim := { program := "ytlickjaopbcanaa", sum := "bfaf2b7c7b8e91b9de8f0a66e564fc7edced51e3699d3996cd78c046e945fcbf", func := "glissade/glissadelaw07.BuffersReads", spec := "buffersReads", inPlace := ["internal/abi.NoEscape", "internal/bytealg.MakeNoZero"], unfollowed := true, recurses := true, apart := false, narrowed := true }
def BuffersReadsUptoSaid : Prop := buffersReadsUptoRow.holds Try.pinned (OpenSpec.upto buffersReadsSpec)

/-- 'glissadelaw07.BuffersPins', WHERE WHAT IT READS IS OF BULK AT MOST 1048576: true; the input reads as it did. -/
def buffersPinsUptoRow : OpenClaim := { program := "ytlickjaopbcanaa", sum := "bfaf2b7c7b8e91b9de8f0a66e564fc7edced51e3699d3996cd78c046e945fcbf", func := "glissade/glissadelaw07.BuffersPins", spec := "buffersPins", inPlace := ["internal/abi.NoEscape", "internal/bytealg.MakeNoZero"], unfollowed := true, recurses := true, apart := false, narrowed := true }
def BuffersPinsUptoSaid : Prop := buffersPinsUptoRow.holds Try.pinned (OpenSpec.upto buffersPinsSpec)

/-- 'glissadelaw07.BuffersSync', WHERE WHAT IT READS IS OF BULK AT MOST 1048576: true; the input reads as it did. -/
def buffersSyncUptoRow : OpenClaim := { program := "ytlickjaopbcanaa", sum := "bfaf2b7c7b8e91b9de8f0a66e564fc7edced51e3699d3996cd78c046e945fcbf", func := "glissade/glissadelaw07.BuffersSync", spec := "buffersSync", inPlace := ["internal/abi.NoEscape", "internal/bytealg.MakeNoZero"], unfollowed := true, recurses := true, apart := false, narrowed := true }
def BuffersSyncUptoSaid : Prop := buffersSyncUptoRow.holds Try.pinned (OpenSpec.upto buffersSyncSpec)

/-- 'glissadelaw07.BuffersPlays', WHERE WHAT IT READS IS OF BULK AT MOST 1048576: true; the input reads as it did. -/
def buffersPlaysUptoRow : OpenClaim := { program := "ytlickjaopbcanaa", sum := "bfaf2b7c7b8e91b9de8f0a66e564fc7edced51e3699d3996cd78c046e945fcbf", func := "glissade/glissadelaw07.BuffersPlays", spec := "buffersPlays", inPlace := ["internal/abi.NoEscape", "internal/bytealg.MakeNoZero"], unfollowed := true, recurses := true, apart := false, narrowed := true }
def BuffersPlaysUptoSaid : Prop := buffersPlaysUptoRow.holds Try.pinned (OpenSpec.upto buffersPlaysSpec)

end Rows
end Go.Proofs.Ytlickjaopbcanaa
