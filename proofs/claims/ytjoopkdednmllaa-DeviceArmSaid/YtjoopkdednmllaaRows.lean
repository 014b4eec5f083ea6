/-
  No cell of these rows narrows 'for every input' (looked for: loops, veiled, ifaces, maps, wideKeys, modest, calm, conditions, laid).
  DERIVED. THE GIVEN ROWS OF THIS SEAT. 7 by the template 'for every input the law returns true; each argument reads behind the call as it read before'; 0 by the template 'total and deterministic' (their statements: YtjoopkdednmllaaTotals.lean).
  GIVEN WITH THE SEED: the statements are not yours to turn. If you find one false, say at which input.
  Laid BY PROGRAM, IN A SANDBOX (cutbox-rows.mjs): the forced cells as the released guide's own fill.sh prints them over the translation f8a6484e966ca6c0… (all of the seat's roots in one cut). By AI agents, Wed Nov 11 2026. No macro, syntax, notation, axiom, sorry.
-/
import Derived.Test.YtjoopkdednmllaaChecked
import GoSem.Claim
import GoSem.ClaimJoined
import GoSem.ClaimMapViews
import Derived.JoinedTies
import Derived.KernelRfl
namespace Go.Proofs.Ytjoopkdednmllaa
/- THE CELL 'sum', in the pinned program and in every row, IS THE sha256 OF THE DUMP (.gsa) THAT YtjoopkdednmllaaProg.lean LOADS. Nothing in Lean hashes anything: it is a label: what it is worth is what the hold of that sum in a sandbox is worth. -/
noncomputable def Try.pinned : Pinned := { name := "ytjoopkdednmllaa", sum := "f8a6484e966ca6c0d7862cd7b0bafaf158413ff1799db01c0b993ca2c90a3b5a", checked := Try.checked }
namespace Rows
def none {H : Type} : Left H := { results := [], args := [] }

/-- 'glissadelaw06.DevicePlays': WHATEVER THE INPUT: true; the input reads as it did. -/
def devicePlaysSpec : ChangeSpec := { name := "devicePlays", fn := fun _ => fun
  | [d1, d2] => { results := [.lit (.bool true)], args := [d1, d2] }
  | _ => none }
def devicePlaysRow : OpenClaim := { program := "ytjoopkdednmllaa", sum := "f8a6484e966ca6c0d7862cd7b0bafaf158413ff1799db01c0b993ca2c90a3b5a", func := "glissade/glissadelaw06.DevicePlays", spec := "devicePlays", inPlace := ["internal/abi.NoEscape", "internal/bytealg.MakeNoZero"], apart := false }
def DevicePlaysSaid : Prop := devicePlaysRow.holds Try.pinned (OpenSpec.ofChange devicePlaysSpec)

/-- ITS FALSE NEIGHBOUR: 'it returns false'. Refute it at one input. -/
def devicePlaysWrong : ChangeSpec := { name := "devicePlays", fn := fun _ => fun
  | [d1, d2] => { results := [.lit (.bool false)], args := [d1, d2] }
  | _ => none }
def DevicePlaysWrongFalsely : Prop := devicePlaysRow.holds Try.pinned (OpenSpec.ofChange devicePlaysWrong)

/-- 'glissadelaw06.DeviceNone': WHATEVER THE INPUT: true; the input reads as it did. -/
def deviceNoneSpec : ChangeSpec := { name := "deviceNone", fn := fun _ => fun
  | [d1, d2, d3] => { results := [.lit (.bool true)], args := [d1, d2, d3] }
  | _ => none }
def deviceNoneRow : OpenClaim := { program := "ytjoopkdednmllaa", sum := "f8a6484e966ca6c0d7862cd7b0bafaf158413ff1799db01c0b993ca2c90a3b5a", func := "glissade/glissadelaw06.DeviceNone", spec := "deviceNone", inPlace := ["internal/abi.NoEscape", "internal/bytealg.MakeNoZero"], apart := false }
def DeviceNoneSaid : Prop := deviceNoneRow.holds Try.pinned (OpenSpec.ofChange deviceNoneSpec)

/-- ITS FALSE NEIGHBOUR: 'it returns false'. Refute it at one input. -/
def deviceNoneWrong : ChangeSpec := { name := "deviceNone", fn := fun _ => fun
  | [d1, d2, d3] => { results := [.lit (.bool false)], args := [d1, d2, d3] }
  | _ => none }
def DeviceNoneWrongFalsely : Prop := deviceNoneRow.holds Try.pinned (OpenSpec.ofChange deviceNoneWrong)

/-- 'glissadelaw06.DeviceCrash': WHATEVER THE INPUT: true; the input reads as it did. -/
def deviceCrashSpec : ChangeSpec := { name := "deviceCrash", fn := fun _ => fun
  | [d1, d2, d3] => { results := [.lit (.bool true)], args := [d1, d2, d3] }
  | _ => none }
def deviceCrashRow : OpenClaim := { program := "ytjoopkdednmllaa", sum := "f8a6484e966ca6c0d7862cd7b0bafaf158413ff1799db01c0b993ca2c90a3b5a", func := "glissade/glissadelaw06.DeviceCrash", spec := "deviceCrash", inPlace := ["internal/abi.NoEscape", "internal/bytealg.MakeNoZero"], apart := false }
def DeviceCrashSaid : Prop := deviceCrashRow.holds Try.pinned (OpenSpec.ofChange deviceCrashSpec)

/-- ITS FALSE NEIGHBOUR: 'it returns false'. Refute it at one input. -/
def deviceCrashWrong : ChangeSpec := { name := "deviceCrash", fn := fun _ => fun
  | [d1, d2, d3] => { results := [.lit (.bool false)], args := [d1, d2, d3] }
  | _ => none }
def DeviceCrashWrongFalsely : Prop := deviceCrashRow.holds Try.pinned (OpenSpec.ofChange deviceCrashWrong)

/-- 'glissadelaw06.DeviceFlush': WHATEVER THE INPUT: true; the input reads as it did. -/
def deviceFlushSpec : ChangeSpec := { name := "deviceFlush", fn := fun _ => fun
  | [d1, d2, d3] => { results := [.lit (.bool true)], args := [d1, d2, d3] }
  | _ => none }
def deviceFlushRow : OpenClaim := { program := "ytjoopkdednmllaa", sum := "f8a6484e966ca6c0d7862cd7b0bafaf158413ff1799db01c0b993ca2c90a3b5a", func := "glissade/glissadelaw06.DeviceFlush", spec := "deviceFlush", inPlace := ["internal/abi.NoEscape", "internal/bytealg.MakeNoZero"], apart := false }
def DeviceFlushSaid : Prop := deviceFlushRow.holds Try.pinned (OpenSpec.ofChange deviceFlushSpec)

/-- ITS FALSE NEIGHBOUR: 'it returns false'. Refute it at one input. -/
def deviceFlushWrong : ChangeSpec := { name := "deviceFlush", fn := fun _ => fun
  | [d1, d2, d3] => { results := [.lit (.bool false)], args := [d1, d2, d3] }
  | _ => none }
def DeviceFlushWrongFalsely : Prop := deviceFlushRow.holds Try.pinned (OpenSpec.ofChange deviceFlushWrong)

/-- 'glissadelaw06.DeviceArm': WHATEVER THE INPUT: true; the input reads as it did. -/
def deviceArmSpec : ChangeSpec := { name := "deviceArm", fn := fun _ => fun
  | [d1, d2, d3] => { results := [.lit (.bool true)], args := [d1, d2, d3] }
  | _ => none }
def deviceArmRow : OpenClaim := { program := "ytjoopkdednmllaa", sum := "f8a6484e966ca6c0d7862cd7b0bafaf158413ff1799db01c0b993ca2c90a3b5a", func := "glissade/glissadelaw06.DeviceArm", spec := "deviceArm", inPlace := ["internal/abi.NoEscape", "internal/bytealg.MakeNoZero"], apart := false }
def DeviceArmSaid : Prop := deviceArmRow.holds Try.pinned (OpenSpec.ofChange deviceArmSpec)

/-- ITS FALSE NEIGHBOUR: 'it returns false'. Refute it at one input. -/
def deviceArmWrong : ChangeSpec := { name := "deviceArm", fn := fun _ => fun
  | [d1, d2, d3] => { results := [.lit (.bool false)], args := [d1, d2, d3] }
  | _ => none }
def DeviceArmWrongFalsely : Prop := deviceArmRow.holds Try.pinned (OpenSpec.ofChange deviceArmWrong)

/-- 'glissadelaw06.DeviceOpens': WHATEVER THE INPUT: true; the input reads as it did. -/
def deviceOpensSpec : ChangeSpec := { name := "deviceOpens", fn := fun _ => fun
  | [d1, d2] => { results := [.lit (.bool true)], args := [d1, d2] }
  | _ => none }
def deviceOpensRow : OpenClaim := { program := "ytjoopkdednmllaa", sum := "f8a6484e966ca6c0d7862cd7b0bafaf158413ff1799db01c0b993ca2c90a3b5a", func := "glissade/glissadelaw06.DeviceOpens", spec := "deviceOpens", inPlace := ["internal/abi.NoEscape", "internal/bytealg.MakeNoZero"], apart := false }
def DeviceOpensSaid : Prop := deviceOpensRow.holds Try.pinned (OpenSpec.ofChange deviceOpensSpec)

/-- ITS FALSE NEIGHBOUR: 'it returns false'. Refute it at one input. -/
def deviceOpensWrong : ChangeSpec := { name := "deviceOpens", fn := fun _ => fun
  | [d1, d2] => { results := [.lit (.bool false)], args := [d1, d2] }
  | _ => none }
def DeviceOpensWrongFalsely : Prop := deviceOpensRow.holds Try.pinned (OpenSpec.ofChange deviceOpensWrong)

/-- 'glissadelaw06.DeviceTwo': WHATEVER THE INPUT: true; the input reads as it did. -/
def deviceTwoSpec : ChangeSpec := { name := "deviceTwo", fn := fun _ => fun
  | [d1, d2, d3] => { results := [.lit (.bool true)], args := [d1, d2, d3] }
  | _ => none }
def deviceTwoRow : OpenClaim := { program := "ytjoopkdednmllaa", sum := "f8a6484e966ca6c0d7862cd7b0bafaf158413ff1799db01c0b993ca2c90a3b5a", func := "glissade/glissadelaw06.DeviceTwo", spec := "deviceTwo", inPlace := ["internal/abi.NoEscape", "internal/bytealg.MakeNoZero"], apart := false }
def DeviceTwoSaid : Prop := deviceTwoRow.holds Try.pinned (OpenSpec.ofChange deviceTwoSpec)

/-- ITS FALSE NEIGHBOUR: 'it returns false'. Refute it at one input. -/
def deviceTwoWrong : ChangeSpec := { name := "deviceTwo", fn := fun _ => fun
  | [d1, d2, d3] => { results := [.lit (.bool false)], args := [d1, d2, d3] }
  | _ => none }
def DeviceTwoWrongFalsely : Prop := deviceTwoRow.holds Try.pinned (OpenSpec.ofChange deviceTwoWrong)

/- THE SECOND FORM. 'bulk': how many values and letters a reading holds, each counted each time it is reached (what is shared counts as often as it is met; a slice's spare places count too). A statement '..UptoSaid' is the law's where the arguments, and the package variables that the reading takes, are together of bulk at most 1048576: NARROWER than '..Said'. Prove '..Said' where nothing that the law and all that it calls make is longer than what came in: it says more and counts as full. Else prove '..UptoSaid'. A law counts once. -/
mutual
def uptoBulk {H : Type} : DataW H → Nat
  | .lit (.string bytes) => bytes.length + 1
  | .lit _ => 1
  | .nil => 1
  | .ptr d => uptoBulk d + 1
  | .slice elems spare => uptoBulkAll elems + uptoBulkAll spare + 1
  | .agg parts => uptoBulkAll parts + 1
  | .iface _ d => uptoBulk d + 1
  | .map entries => uptoBulkEntries entries + 1
  | .held _ => 1
def uptoBulkAll {H : Type} : List (DataW H) → Nat
  | [] => 0
  | d :: r => uptoBulk d + uptoBulkAll r
def uptoBulkEntries {H : Type} : List (Lit × DataW H) → Nat
  | [] => 0
  | x :: r => uptoBulkEntry x + uptoBulkEntries r
def uptoBulkEntry {H : Type} : Lit × DataW H → Nat
  | (.string bytes, d) => bytes.length + uptoBulk d + 1
  | (_, d) => uptoBulk d + 1
 end
def uptoSmall : (H : Type) → List (DataW H) → Bool := fun _ ds => decide (uptoBulkAll ds ≤ 1048576)
def OpenSpec.upto (s : _root_.Go.ChangeSpec) : _root_.Go.OpenSpec := { _root_.Go.OpenSpec.ofChange s with cond := some uptoSmall }

/-- 'glissadelaw06.DevicePlays', WHERE WHAT IT READS IS OF BULK AT MOST 1048576: true; the input reads as it did. -/
def devicePlaysUptoRow : OpenClaim := { program := "ytjoopkdednmllaa", sum := "f8a6484e966ca6c0d7862cd7b0bafaf158413ff1799db01c0b993ca2c90a3b5a", func := "glissade/glissadelaw06.DevicePlays", spec := "devicePlays", inPlace := ["internal/abi.NoEscape", "internal/bytealg.MakeNoZero"], apart := false, narrowed := true }
def DevicePlaysUptoSaid : Prop := devicePlaysUptoRow.holds Try.pinned (OpenSpec.upto devicePlaysSpec)

/-- 'glissadelaw06.DeviceNone', WHERE WHAT IT READS IS OF BULK AT MOST 1048576: true; the input reads as it did. -/
def deviceNoneUptoRow : OpenClaim := { program := "ytjoopkdednmllaa", sum := "f8a6484e966ca6c0d7862cd7b0bafaf158413ff1799db01c0b993ca2c90a3b5a", func := "glissade/glissadelaw06.DeviceNone", spec := "deviceNone", inPlace := ["internal/abi.NoEscape", "internal/bytealg.MakeNoZero"], apart := false, narrowed := true }
def DeviceNoneUptoSaid : Prop := deviceNoneUptoRow.holds Try.pinned (OpenSpec.upto deviceNoneSpec)

/-- 'glissadelaw06.DeviceCrash', WHERE WHAT IT READS IS OF BULK AT MOST 1048576: true; the input reads as it did. -/
def deviceCrashUptoRow : OpenClaim := { program := "ytjoopkdednmllaa", sum := "f8a6484e966ca6c0d7862cd7b0bafaf158413ff1799db01c0b993ca2c90a3b5a", func := "glissade/glissadelaw06.DeviceCrash", spec := "deviceCrash", inPlace := ["internal/abi.NoEscape", "internal/bytealg.MakeNoZero"], apart := false, narrowed := true }
def DeviceCrashUptoSaid : Prop := deviceCrashUptoRow.holds Try.pinned (OpenSpec.upto deviceCrashSpec)

/-- 'glissadelaw06.DeviceFlush', WHERE WHAT IT READS IS OF BULK AT MOST 1048576: true; the input reads as it did. -/
def deviceFlushUptoRow : OpenClaim := { program := "ytjoopkdednmllaa", sum := "f8a6484e966ca6c0d7862cd7b0bafaf158413ff1799db01c0b993ca2c90a3b5a", func := "glissade/glissadelaw06.DeviceFlush", spec := "deviceFlush", inPlace := ["internal/abi.NoEscape", "internal/bytealg.MakeNoZero"], apart := false, narrowed := true }
def DeviceFlushUptoSaid : Prop := deviceFlushUptoRow.holds Try.pinned (OpenSpec.upto deviceFlushSpec)

/-- 'glissadelaw06.DeviceArm', WHERE WHAT IT READS IS OF BULK AT MOST 1048576: true; the input reads as it did. -/
def deviceArmUptoRow : OpenClaim := { program := "ytjoopkdednmllaa", sum := "f8a6484e966ca6c0d7862cd7b0bafaf158413ff1799db01c0b993ca2c90a3b5a", func := "glissade/glissadelaw06.DeviceArm", spec := "deviceArm", inPlace := ["internal/abi.NoEscape", "internal/bytealg.MakeNoZero"], apart := false, narrowed := true }
def DeviceArmUptoSaid : Prop := deviceArmUptoRow.holds Try.pinned (OpenSpec.upto deviceArmSpec)

/-- 'glissadelaw06.DeviceOpens', WHERE WHAT IT READS IS OF BULK AT MOST 1048576: true; the input reads as it did. -/
def deviceOpensUptoRow : OpenClaim := { program := "ytjoopkdednmllaa", sum := "f8a6484e966ca6c0d7862cd7b0bafaf158413ff1799db01c0b993ca2c90a3b5a", func := "glissade/glissadelaw06.DeviceOpens", spec := "deviceOpens", inPlace := ["internal/abi.NoEscape", "internal/bytealg.MakeNoZero"], apart := false, narrowed := true }
def DeviceOpensUptoSaid : Prop := deviceOpensUptoRow.holds Try.pinned (OpenSpec.upto deviceOpensSpec)

/-- 'glissadelaw06.DeviceTwo', WHERE WHAT IT READS IS OF BULK AT MOST 1048576: true; the input reads as it did. -/
def deviceTwoUptoRow : OpenClaim := { program := "ytjoopkdednmllaa", sum := "f8a6484e966ca6c0d7862cd7b0bafaf158413ff1799db01c0b993ca2c90a3b5a", func := "glissade/glissadelaw06.DeviceTwo", spec := "deviceTwo", inPlace := ["internal/abi.NoEscape", "internal/bytealg.MakeNoZero"], apart := false, narrowed := true }
def DeviceTwoUptoSaid : Prop := deviceTwoUptoRow.holds Try.pinned (OpenSpec.upto deviceTwoSpec)

end Rows
end Go.Proofs.Ytjoopkdednmllaa
