/-
  No cell of these rows narrows 'for every input' (looked for: loops, veiled, ifaces, maps, wideKeys, modest, calm, conditions, laid).
  DERIVED. THE GIVEN ROWS OF THIS SEAT. 9 by the template 'for every input the law returns true; each argument reads behind the call as it read before'; 0 by the template 'total and deterministic' (their statements: YtnpdhidliaahbaaGreatTotals.lean).
  GIVEN WITH THE SEED: the statements are not yours to turn. If you find one false, say at which input.
  Laid BY PROGRAM, IN A SANDBOX (cutbox-rows.mjs): the forced cells as the released guide's own fill.sh prints them over the translation baaf9e637f8a193c… (all of the seat's roots in one cut). By AI agents, Wed Nov 11 2026. No macro, syntax, notation, axiom, sorry.
-/
import Derived.Test.YtnpdhidliaahbaaGreatChecked
import GoSem.Claim
import GoSem.ClaimJoined
import GoSem.ClaimMapViews
import Derived.JoinedTies
import Derived.KernelRfl
namespace Go.Proofs.YtnpdhidliaahbaaGreat
/- THE CELL 'sum', in the pinned program and in every row, IS THE sha256 OF THE DUMP (.gsa) THAT YtnpdhidliaahbaaGreatProg.lean LOADS. Nothing in Lean hashes anything: it is a label: what it is worth is what the hold of that sum in a sandbox is worth. -/
noncomputable def Tryz.pinned : Pinned := { name := "ytnpdhidliaahbaagreat", sum := "baaf9e637f8a193c64d6070d0852d9f69200b1afa70e5ca94cad2c393cb91047", checked := Tryz.checked }
namespace Rows
def none {H : Type} : Left H := { results := [], args := [] }

/-- 'glissadelaw09.JournalSizes': WHATEVER THE INPUT: true; the input reads as it did. -/
def journalSizesSpec : ChangeSpec := { name := "journalSizes", fn := fun _ => fun
  | [d] => { results := [.lit (.bool true)], args := [d] }
  | _ => none }
def journalSizesRow : OpenClaim := { program := "ytnpdhidliaahbaagreat", sum := "baaf9e637f8a193c64d6070d0852d9f69200b1afa70e5ca94cad2c393cb91047", func := "glissade/glissadelaw09.JournalSizes", spec := "journalSizes", inPlace := ["internal/abi.NoEscape", "internal/bytealg.MakeNoZero"], unfollowed := true, recurses := true, apart := false }
def JournalSizesSaid : Prop := journalSizesRow.holds Tryz.pinned (OpenSpec.ofChange journalSizesSpec)

/-- ITS FALSE NEIGHBOUR: 'it returns false'. Refute it at one input. -/
def journalSizesWrong : ChangeSpec := { name := "journalSizes", fn := fun _ => fun
  | [d] => { results := [.lit (.bool false)], args := [d] }
  | _ => none }
def JournalSizesWrongFalsely : Prop := journalSizesRow.holds Tryz.pinned (OpenSpec.ofChange journalSizesWrong)

/-- 'glissadelaw09.JournalNone': WHATEVER THE INPUT: true; the input reads as it did. -/
def journalNoneSpec : ChangeSpec := { name := "journalNone", fn := fun _ => fun
  | [d1, d2, d3] => { results := [.lit (.bool true)], args := [d1, d2, d3] }
  | _ => none }
def journalNoneRow : OpenClaim := { program := "ytnpdhidliaahbaagreat", sum := "baaf9e637f8a193c64d6070d0852d9f69200b1afa70e5ca94cad2c393cb91047", func := "glissade/glissadelaw09.JournalNone", spec := "journalNone", inPlace := ["internal/abi.NoEscape", "internal/bytealg.MakeNoZero"], unfollowed := true, recurses := true, apart := false }
def JournalNoneSaid : Prop := journalNoneRow.holds Tryz.pinned (OpenSpec.ofChange journalNoneSpec)

/-- ITS FALSE NEIGHBOUR: 'it returns false'. Refute it at one input. -/
def journalNoneWrong : ChangeSpec := { name := "journalNone", fn := fun _ => fun
  | [d1, d2, d3] => { results := [.lit (.bool false)], args := [d1, d2, d3] }
  | _ => none }
def JournalNoneWrongFalsely : Prop := journalNoneRow.holds Tryz.pinned (OpenSpec.ofChange journalNoneWrong)

/-- 'glissadelaw09.JournalMasks': WHATEVER THE INPUT: true; the input reads as it did. -/
def journalMasksSpec : ChangeSpec := { name := "journalMasks", fn := fun _ => fun
  | [d1, d2, d3] => { results := [.lit (.bool true)], args := [d1, d2, d3] }
  | _ => none }
def journalMasksRow : OpenClaim := { program := "ytnpdhidliaahbaagreat", sum := "baaf9e637f8a193c64d6070d0852d9f69200b1afa70e5ca94cad2c393cb91047", func := "glissade/glissadelaw09.JournalMasks", spec := "journalMasks", inPlace := ["internal/abi.NoEscape", "internal/bytealg.MakeNoZero"], unfollowed := true, recurses := true, apart := false }
def JournalMasksSaid : Prop := journalMasksRow.holds Tryz.pinned (OpenSpec.ofChange journalMasksSpec)

/-- ITS FALSE NEIGHBOUR: 'it returns false'. Refute it at one input. -/
def journalMasksWrong : ChangeSpec := { name := "journalMasks", fn := fun _ => fun
  | [d1, d2, d3] => { results := [.lit (.bool false)], args := [d1, d2, d3] }
  | _ => none }
def JournalMasksWrongFalsely : Prop := journalMasksRow.holds Tryz.pinned (OpenSpec.ofChange journalMasksWrong)

/-- 'glissadelaw09.JournalReads': WHATEVER THE INPUT: true; the input reads as it did. -/
def journalReadsSpec : ChangeSpec := { name := "journalReads", fn := fun _ => fun
  | [d1, d2, d3] => { results := [.lit (.bool true)], args := [d1, d2, d3] }
  | _ => none }
def journalReadsRow : OpenClaim := { program := "ytnpdhidliaahbaagreat", sum := "baaf9e637f8a193c64d6070d0852d9f69200b1afa70e5ca94cad2c393cb91047", func := "glissade/glissadelaw09.JournalReads", spec := "journalReads", inPlace := ["internal/abi.NoEscape", "internal/bytealg.MakeNoZero"], unfollowed := true, recurses := true, apart := false }
def JournalReadsSaid : Prop := journalReadsRow.holds Tryz.pinned (OpenSpec.ofChange journalReadsSpec)

/-- ITS FALSE NEIGHBOUR: 'it returns false'. Refute it at one input. -/
def journalReadsWrong : ChangeSpec := { name := "journalReads", fn := fun _ => fun
  | [d1, d2, d3] => { results := [.lit (.bool false)], args := [d1, d2, d3] }
  | _ => none }
def JournalReadsWrongFalsely : Prop := journalReadsRow.holds Tryz.pinned (OpenSpec.ofChange journalReadsWrong)

/-- 'glissadelaw09.JournalRound': WHATEVER THE INPUT: true; the input reads as it did. -/
def journalRoundSpec : ChangeSpec := { name := "journalRound", fn := fun _ => fun
  | [d1, d2] => { results := [.lit (.bool true)], args := [d1, d2] }
  | _ => none }
def journalRoundRow : OpenClaim := { program := "ytnpdhidliaahbaagreat", sum := "baaf9e637f8a193c64d6070d0852d9f69200b1afa70e5ca94cad2c393cb91047", func := "glissade/glissadelaw09.JournalRound", spec := "journalRound", inPlace := ["internal/abi.NoEscape", "internal/bytealg.MakeNoZero"], unfollowed := true, recurses := true, apart := false }
def JournalRoundSaid : Prop := journalRoundRow.holds Tryz.pinned (OpenSpec.ofChange journalRoundSpec)

/-- ITS FALSE NEIGHBOUR: 'it returns false'. Refute it at one input. -/
def journalRoundWrong : ChangeSpec := { name := "journalRound", fn := fun _ => fun
  | [d1, d2] => { results := [.lit (.bool false)], args := [d1, d2] }
  | _ => none }
def JournalRoundWrongFalsely : Prop := journalRoundRow.holds Tryz.pinned (OpenSpec.ofChange journalRoundWrong)

/-- 'glissadelaw09.JournalPower': WHATEVER THE INPUT: true; the input reads as it did. -/
def journalPowerSpec : ChangeSpec := { name := "journalPower", fn := fun _ => fun
  | [d1, d2, d3] => { results := [.lit (.bool true)], args := [d1, d2, d3] }
  | _ => none }
def journalPowerRow : OpenClaim := { program := "ytnpdhidliaahbaagreat", sum := "baaf9e637f8a193c64d6070d0852d9f69200b1afa70e5ca94cad2c393cb91047", func := "glissade/glissadelaw09.JournalPower", spec := "journalPower", inPlace := ["internal/abi.NoEscape", "internal/bytealg.MakeNoZero"], unfollowed := true, recurses := true, apart := false }
def JournalPowerSaid : Prop := journalPowerRow.holds Tryz.pinned (OpenSpec.ofChange journalPowerSpec)

/-- ITS FALSE NEIGHBOUR: 'it returns false'. Refute it at one input. -/
def journalPowerWrong : ChangeSpec := { name := "journalPower", fn := fun _ => fun
  | [d1, d2, d3] => { results := [.lit (.bool false)], args := [d1, d2, d3] }
  | _ => none }
def JournalPowerWrongFalsely : Prop := journalPowerRow.holds Tryz.pinned (OpenSpec.ofChange journalPowerWrong)

/-- 'glissadelaw09.JournalTries': WHATEVER THE INPUT: true; the input reads as it did. -/
def journalTriesSpec : ChangeSpec := { name := "journalTries", fn := fun _ => fun
  | [d1, d2, d3] => { results := [.lit (.bool true)], args := [d1, d2, d3] }
  | _ => none }
def journalTriesRow : OpenClaim := { program := "ytnpdhidliaahbaagreat", sum := "baaf9e637f8a193c64d6070d0852d9f69200b1afa70e5ca94cad2c393cb91047", func := "glissade/glissadelaw09.JournalTries", spec := "journalTries", inPlace := ["internal/abi.NoEscape", "internal/bytealg.MakeNoZero"], unfollowed := true, recurses := true, apart := false }
def JournalTriesSaid : Prop := journalTriesRow.holds Tryz.pinned (OpenSpec.ofChange journalTriesSpec)

/-- ITS FALSE NEIGHBOUR: 'it returns false'. Refute it at one input. -/
def journalTriesWrong : ChangeSpec := { name := "journalTries", fn := fun _ => fun
  | [d1, d2, d3] => { results := [.lit (.bool false)], args := [d1, d2, d3] }
  | _ => none }
def JournalTriesWrongFalsely : Prop := journalTriesRow.holds Tryz.pinned (OpenSpec.ofChange journalTriesWrong)

/-- 'glissadelaw09.JournalPlays': WHATEVER THE INPUT: true; the input reads as it did. -/
def journalPlaysSpec : ChangeSpec := { name := "journalPlays", fn := fun _ => fun
  | [d1, d2] => { results := [.lit (.bool true)], args := [d1, d2] }
  | _ => none }
def journalPlaysRow : OpenClaim := { program := "ytnpdhidliaahbaagreat", sum := "baaf9e637f8a193c64d6070d0852d9f69200b1afa70e5ca94cad2c393cb91047", func := "glissade/glissadelaw09.JournalPlays", spec := "journalPlays", inPlace := ["internal/abi.NoEscape", "internal/bytealg.MakeNoZero"], unfollowed := true, recurses := true, apart := false }
def JournalPlaysSaid : Prop := journalPlaysRow.holds Tryz.pinned (OpenSpec.ofChange journalPlaysSpec)

/-- ITS FALSE NEIGHBOUR: 'it returns false'. Refute it at one input. -/
def journalPlaysWrong : ChangeSpec := { name := "journalPlays", fn := fun _ => fun
  | [d1, d2] => { results := [.lit (.bool false)], args := [d1, d2] }
  | _ => none }
def JournalPlaysWrongFalsely : Prop := journalPlaysRow.holds Tryz.pinned (OpenSpec.ofChange journalPlaysWrong)

/-- 'glissadelaw09.JournalTwice': WHATEVER THE INPUT: true; the input reads as it did. -/
def journalTwiceSpec : ChangeSpec := { name := "journalTwice", fn := fun _ => fun
  | [d1, d2, d3] => { results := [.lit (.bool true)], args := [d1, d2, d3] }
  | _ => none }
def journalTwiceRow : OpenClaim := { program := "ytnpdhidliaahbaagreat", sum := "baaf9e637f8a193c64d6070d0852d9f69200b1afa70e5ca94cad2c393cb91047", func := "glissade/glissadelaw09.JournalTwice", spec := "journalTwice", inPlace := ["internal/abi.NoEscape", "internal/bytealg.MakeNoZero"], unfollowed := true, recurses := true, apart := false }
def JournalTwiceSaid : Prop := journalTwiceRow.holds Tryz.pinned (OpenSpec.ofChange journalTwiceSpec)

/-- ITS FALSE NEIGHBOUR: 'it returns false'. Refute it at one input. -/
def journalTwiceWrong : ChangeSpec := { name := "journalTwice", fn := fun _ => fun
  | [d1, d2, d3] => { results := [.lit (.bool false)], args := [d1, d2, d3] }
  | _ => none }
def JournalTwiceWrongFalsely : Prop := journalTwiceRow.holds Tryz.pinned (OpenSpec.ofChange journalTwiceWrong)

/- THE SECOND FORM. 'bulk': how many values and letters a reading holds, each counted each time it is reached (what is shared counts as often as it is met; a slice's spare places count too). A statement '..UptoSaid' is the law's where the arguments, and the package variables that the reading takes, are together of bulk at most 1048576: NARROWER than '..Said'. Prove '..Said' where nothing that the law and all that it calls make is longer than what came in: it says more and counts as full. Else prove '..UptoSaid'. A law counts once. -/
mutual
def uptoBulk {H : Type} : DataW H → Nat
  | .lit (.string bytes) => bytes.length + 1
  | .lit _ => 1
  | .nil => 1
  | .ptr d => uptoBulk d + 1
  | .slice elems spare => uptoBulkAll elems + uptoBulkAll spare + 1
  | .agg parts => uptoBulkAll parts + 1
  | .iface _ d => uptoBulk d + 1
  | .map entries => uptoBulkEntries entries + 1
  | .held _ => 1
def uptoBulkAll {H : Type} : List (DataW H) → Nat
  | [] => 0
  | d :: r => uptoBulk d + uptoBulkAll r
def uptoBulkEntries {H : Type} : List (Lit × DataW H) → Nat
  | [] => 0
  | x :: r => uptoBulkEntry x + uptoBulkEntries r
def uptoBulkEntry {H : Type} : Lit × DataW H → Nat
  | (.string bytes, d) => bytes.length + uptoBulk d + 1
  | (_, d) => uptoBulk d + 1
 end
def uptoSmall : (H : Type) → List (DataW H) → Bool := fun _ ds => decide (uptoBulkAll ds ≤ 1048576)
def OpenSpec.upto (s : _root_.Go.ChangeSpec) : _root_.Go.OpenSpec := { _root_.Go.OpenSpec.ofChange s with cond := some uptoSmall }

/-- 'glissadelaw09.JournalSizes', WHERE WHAT IT READS IS OF BULK AT MOST 1048576: true; the input reads as it did. -/
def journalSizesUptoRow : OpenClaim := { program := "ytnpdhidliaahbaagreat", sum := "baaf9e637f8a193c64d6070d0852d9f69200b1afa70e5ca94cad2c393cb91047", func := "glissade/glissadelaw09.JournalSizes", spec := "journalSizes", inPlace := ["internal/abi.NoEscape", "internal/bytealg.MakeNoZero"], unfollowed := true, recurses := true, apart := false, narrowed := true }
def JournalSizesUptoSaid : Prop := journalSizesUptoRow.holds Tryz.pinned (OpenSpec.upto journalSizesSpec)

/-- 'glissadelaw09.JournalNone', WHERE WHAT IT READS IS OF BULK AT MOST 1048576: true; the input reads as it did. -/
def journalNoneUptoRow : OpenClaim := { program := "ytnpdhidliaahbaagreat", sum := "baaf9e637f8a193c64d6070d0852d9f69200b1afa70e5ca94cad2c393cb91047", func := "glissade/glissadelaw09.JournalNone", spec := "journalNone", inPlace := ["internal/abi.NoEscape", "internal/bytealg.MakeNoZero"], unfollowed := true, recurses := true, apart := false, narrowed := true }
def JournalNoneUptoSaid : Prop := journalNoneUptoRow.holds Tryz.pinned (OpenSpec.upto journalNoneSpec)

/-- 'glissadelaw09.JournalMasks', WHERE WHAT IT READS IS OF BULK AT MOST 1048576: true; the input reads as it did. -/
def journalMasksUptoRow : OpenClaim := { program := "ytnpdhidliaahbaagreat", sum := "baaf9e637f8a193c64d6070d0852d9f69200b1afa70e5ca94cad2c393cb91047", func := "glissade/glissadelaw09.JournalMasks", spec := "journalMasks", inPlace := ["internal/abi.NoEscape", "internal/bytealg.MakeNoZero"], unfollowed := true, recurses := true, apart := false, narrowed := true }
def JournalMasksUptoSaid : Prop := journalMasksUptoRow.holds Tryz.pinned (OpenSpec.upto journalMasksSpec)

/-- 'glissadelaw09.JournalReads', WHERE WHAT IT READS IS OF BULK AT MOST 1048576: true; the input reads as it did. -/
def journalReadsUptoRow : OpenClaim := { program := "ytnpdhidliaahbaagreat", sum := "baaf9e637f8a193c64d6070d0852d9f69200b1afa70e5ca94cad2c393cb91047", func := "glissade/glissadelaw09.JournalReads", spec := "journalReads", inPlace := ["internal/abi.NoEscape", "internal/bytealg.MakeNoZero"], unfollowed := true, recurses := true, apart := false, narrowed := true }
def JournalReadsUptoSaid : Prop := journalReadsUptoRow.holds Tryz.pinned (OpenSpec.upto journalReadsSpec)

/-- 'glissadelaw09.JournalRound', WHERE WHAT IT READS IS OF BULK AT MOST 1048576: true; the input reads as it did. -/
def journalRoundUptoRow : OpenClaim := { program := "ytnpdhidliaahbaagreat", sum := "baaf9e637f8a193c64d6070d0852d9f69200b1afa70e5ca94cad2c393cb91047", func := "glissade/glissadelaw09.JournalRound", spec := "journalRound", inPlace := ["internal/abi.NoEscape", "internal/bytealg.MakeNoZero"], unfollowed := true, recurses := true, apart := false, narrowed := true }
def JournalRoundUptoSaid : Prop := journalRoundUptoRow.holds Tryz.pinned (OpenSpec.upto journalRoundSpec)

/-- 'glissadelaw09.JournalPower', WHERE WHAT IT READS IS OF BULK AT MOST 1048576: true; the input reads as it did. -/
def journalPowerUptoRow : OpenClaim := { program := "ytnpdhidliaahbaagreat", sum := "baaf9e637f8a193c64d6070d0852d9f69200b1afa70e5ca94cad2c393cb91047", func := "glissade/glissadelaw09.JournalPower", spec := "journalPower", inPlace := ["internal/abi.NoEscape", "internal/bytealg.MakeNoZero"], unfollowed := true, recurses := true, apart := false, narrowed := true }
def JournalPowerUptoSaid : Prop := journalPowerUptoRow.holds Tryz.pinned (OpenSpec.upto journalPowerSpec)

/-- 'glissadelaw09.JournalTries', WHERE WHAT IT READS IS OF BULK AT MOST 1048576: true; the input reads as it did. -/
def journalTriesUptoRow : OpenClaim := { program := "ytnpdhidliaahbaagreat", sum := "baaf9e637f8a193c64d6070d0852d9f69200b1afa70e5ca94cad2c393cb91047", func := "glissade/glissadelaw09.JournalTries", spec := "journalTries", inPlace := ["internal/abi.NoEscape", "internal/bytealg.MakeNoZero"], unfollowed := true, recurses := true, apart := false, narrowed := true }
def JournalTriesUptoSaid : Prop := journalTriesUptoRow.holds Tryz.pinned (OpenSpec.upto journalTriesSpec)

/-- 'glissadelaw09.JournalPlays', WHERE WHAT IT READS IS OF BULK AT MOST 1048576: true; the input reads as it did. -/
def journalPlaysUptoRow : OpenClaim := { program := "ytnpdhidliaahbaagreat", sum := "baaf9e637f8a193c64d6070d0852d9f69200b1afa70e5ca94cad2c393cb91047", func := "glissade/glissadelaw09.JournalPlays", spec := "journalPlays", inPlace := ["internal/abi.NoEscape", "internal/bytealg.MakeNoZero"], unfollowed := true, recurses := true, apart := false, narrowed := true }
def JournalPlaysUptoSaid : Prop := journalPlaysUptoRow.holds Tryz.pinned (OpenSpec.upto journalPlaysSpec)

/-- 'glissadelaw09.JournalTwice', WHERE WHAT IT READS IS OF BULK AT MOST 1048576: true; the input reads as it did. -/
def journalTwiceUptoRow : OpenClaim := { program := "ytnpdhidliaahbaagreat", sum := "baaf9e637f8a193c64d6070d0852d9f69200b1afa70e5ca94cad2c393cb91047", func := "glissade/glissadelaw09.JournalTwice", spec := "journalTwice", inPlace := ["internal/abi.NoEscape", "internal/bytealg.MakeNoZero"], unfollowed := true, recurses := true, apart := false, narrowed := true }
def JournalTwiceUptoSaid : Prop := journalTwiceUptoRow.holds Tryz.pinned (OpenSpec.upto journalTwiceSpec)

end Rows
end Go.Proofs.YtnpdhidliaahbaaGreat
