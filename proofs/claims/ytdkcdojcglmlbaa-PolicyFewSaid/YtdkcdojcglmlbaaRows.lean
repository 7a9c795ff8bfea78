/-
  No cell of these rows narrows 'for every input' (looked for: loops, veiled, ifaces, maps, wideKeys, modest, calm, conditions, laid).
  DERIVED. THE GIVEN ROWS OF THIS SEAT. 11 by the template 'for every input the law returns true; each argument reads behind the call as it read before'; 0 by the template 'total and deterministic' (their statements: YtdkcdojcglmlbaaTotals.lean).
  GIVEN WITH THE SEED: the statements are not yours to turn. If you find one false, say at which input.
  Laid BY PROGRAM, IN A SANDBOX (cutbox-rows.mjs): the forced cells as the released guide's own fill.sh prints them over the translation 75ef67f3b180e05e… (all of the seat's roots in one cut). By AI agents, Wed Nov 11 2026. No macro, syntax, notation, axiom, sorry.
-/
import Derived.Test.YtdkcdojcglmlbaaChecked
import GoSem.Claim
import GoSem.ClaimJoined
import GoSem.ClaimMapViews
import Derived.JoinedTies
import Derived.KernelRfl
namespace Go.Proofs.Ytdkcdojcglmlbaa
/- THE CELL 'sum', in the pinned program and in every row, IS THE sha256 OF THE DUMP (.gsa) THAT YtdkcdojcglmlbaaProg.lean LOADS. Nothing in Lean hashes anything: it is a label: what it is worth is what the hold of that sum in a sandbox is worth. -/
noncomputable def Try.pinned : Pinned := { name := "ytdkcdojcglmlbaa", sum := "75ef67f3b180e05e9f5b65876352900fe22f300602620b4029c239b5717521ec", checked := Try.checked }
namespace Rows
def none {H : Type} : Left H := { results := [], args := [] }

/-- 'oubliettelaw05.WireWrites': WHATEVER THE INPUT: true; the input reads as it did. -/
def wireWritesSpec : ChangeSpec := { name := "wireWrites", fn := fun _ => fun
  | [d1, d2] => { results := [.lit (.bool true)], args := [d1, d2] }
  | _ => none }
def wireWritesRow : OpenClaim := { program := "ytdkcdojcglmlbaa", sum := "75ef67f3b180e05e9f5b65876352900fe22f300602620b4029c239b5717521ec", func := "oubliette/oubliettelaw05.WireWrites", spec := "wireWrites", plainKeys := false, apart := false }
def WireWritesSaid : Prop := wireWritesRow.holds Try.pinned (OpenSpec.ofChange wireWritesSpec)

/-- ITS FALSE NEIGHBOUR: 'it returns false'. Refute it at one input. -/
def wireWritesWrong : ChangeSpec := { name := "wireWrites", fn := fun _ => fun
  | [d1, d2] => { results := [.lit (.bool false)], args := [d1, d2] }
  | _ => none }
def WireWritesWrongFalsely : Prop := wireWritesRow.holds Try.pinned (OpenSpec.ofChange wireWritesWrong)

/-- 'oubliettelaw36.PolicyTurns': WHATEVER THE INPUT: true; the input reads as it did. -/
def policyTurnsSpec : ChangeSpec := { name := "policyTurns", fn := fun _ => fun
  | [d1, d2] => { results := [.lit (.bool true)], args := [d1, d2] }
  | _ => none }
def policyTurnsRow : OpenClaim := { program := "ytdkcdojcglmlbaa", sum := "75ef67f3b180e05e9f5b65876352900fe22f300602620b4029c239b5717521ec", func := "oubliette/oubliettelaw36.PolicyTurns", spec := "policyTurns", unfollowed := true, recurses := true, plainKeys := false, apart := false }
def PolicyTurnsSaid : Prop := policyTurnsRow.holds Try.pinned (OpenSpec.ofChange policyTurnsSpec)

/-- ITS FALSE NEIGHBOUR: 'it returns false'. Refute it at one input. -/
def policyTurnsWrong : ChangeSpec := { name := "policyTurns", fn := fun _ => fun
  | [d1, d2] => { results := [.lit (.bool false)], args := [d1, d2] }
  | _ => none }
def PolicyTurnsWrongFalsely : Prop := policyTurnsRow.holds Try.pinned (OpenSpec.ofChange policyTurnsWrong)

/-- 'oubliettelaw05.WireReads': WHATEVER THE INPUT: true; the input reads as it did. -/
def wireReadsSpec : ChangeSpec := { name := "wireReads", fn := fun _ => fun
  | [d1, d2, d3] => { results := [.lit (.bool true)], args := [d1, d2, d3] }
  | _ => none }
def wireReadsRow : OpenClaim := { program := "ytdkcdojcglmlbaa", sum := "75ef67f3b180e05e9f5b65876352900fe22f300602620b4029c239b5717521ec", func := "oubliette/oubliettelaw05.WireReads", spec := "wireReads", unfollowed := true, recurses := true, plainKeys := false, apart := false }
def WireReadsSaid : Prop := wireReadsRow.holds Try.pinned (OpenSpec.ofChange wireReadsSpec)

/-- ITS FALSE NEIGHBOUR: 'it returns false'. Refute it at one input. -/
def wireReadsWrong : ChangeSpec := { name := "wireReads", fn := fun _ => fun
  | [d1, d2, d3] => { results := [.lit (.bool false)], args := [d1, d2, d3] }
  | _ => none }
def WireReadsWrongFalsely : Prop := wireReadsRow.holds Try.pinned (OpenSpec.ofChange wireReadsWrong)

/-- 'oubliettelaw19.DiskTears': WHATEVER THE INPUT: true; the input reads as it did. -/
def diskTearsSpec : ChangeSpec := { name := "diskTears", fn := fun _ => fun
  | [d1, d2, d3, d4] => { results := [.lit (.bool true)], args := [d1, d2, d3, d4] }
  | _ => none }
def diskTearsRow : OpenClaim := { program := "ytdkcdojcglmlbaa", sum := "75ef67f3b180e05e9f5b65876352900fe22f300602620b4029c239b5717521ec", func := "oubliette/oubliettelaw19.DiskTears", spec := "diskTears", unfollowed := true, recurses := true, plainKeys := false, apart := false }
def DiskTearsSaid : Prop := diskTearsRow.holds Try.pinned (OpenSpec.ofChange diskTearsSpec)

/-- ITS FALSE NEIGHBOUR: 'it returns false'. Refute it at one input. -/
def diskTearsWrong : ChangeSpec := { name := "diskTears", fn := fun _ => fun
  | [d1, d2, d3, d4] => { results := [.lit (.bool false)], args := [d1, d2, d3, d4] }
  | _ => none }
def DiskTearsWrongFalsely : Prop := diskTearsRow.holds Try.pinned (OpenSpec.ofChange diskTearsWrong)

/-- 'oubliettelaw05.WireBack': WHATEVER THE INPUT: true; the input reads as it did. -/
def wireBackSpec : ChangeSpec := { name := "wireBack", fn := fun _ => fun
  | [d1, d2] => { results := [.lit (.bool true)], args := [d1, d2] }
  | _ => none }
def wireBackRow : OpenClaim := { program := "ytdkcdojcglmlbaa", sum := "75ef67f3b180e05e9f5b65876352900fe22f300602620b4029c239b5717521ec", func := "oubliette/oubliettelaw05.WireBack", spec := "wireBack", unfollowed := true, recurses := true, plainKeys := false, apart := false }
def WireBackSaid : Prop := wireBackRow.holds Try.pinned (OpenSpec.ofChange wireBackSpec)

/-- ITS FALSE NEIGHBOUR: 'it returns false'. Refute it at one input. -/
def wireBackWrong : ChangeSpec := { name := "wireBack", fn := fun _ => fun
  | [d1, d2] => { results := [.lit (.bool false)], args := [d1, d2] }
  | _ => none }
def WireBackWrongFalsely : Prop := wireBackRow.holds Try.pinned (OpenSpec.ofChange wireBackWrong)

/-- 'oubliettelaw18.SectorReads': WHATEVER THE INPUT: true; the input reads as it did. -/
def sectorReadsSpec : ChangeSpec := { name := "sectorReads", fn := fun _ => fun
  | [d1, d2] => { results := [.lit (.bool true)], args := [d1, d2] }
  | _ => none }
def sectorReadsRow : OpenClaim := { program := "ytdkcdojcglmlbaa", sum := "75ef67f3b180e05e9f5b65876352900fe22f300602620b4029c239b5717521ec", func := "oubliette/oubliettelaw18.SectorReads", spec := "sectorReads", unfollowed := true, recurses := true, plainKeys := false, apart := false }
def SectorReadsSaid : Prop := sectorReadsRow.holds Try.pinned (OpenSpec.ofChange sectorReadsSpec)

/-- ITS FALSE NEIGHBOUR: 'it returns false'. Refute it at one input. -/
def sectorReadsWrong : ChangeSpec := { name := "sectorReads", fn := fun _ => fun
  | [d1, d2] => { results := [.lit (.bool false)], args := [d1, d2] }
  | _ => none }
def SectorReadsWrongFalsely : Prop := sectorReadsRow.holds Try.pinned (OpenSpec.ofChange sectorReadsWrong)

/-- 'oubliettelaw36.PolicyFew': WHATEVER THE INPUT: true; the input reads as it did. -/
def policyFewSpec : ChangeSpec := { name := "policyFew", fn := fun _ => fun
  | [d1, d2] => { results := [.lit (.bool true)], args := [d1, d2] }
  | _ => none }
def policyFewRow : OpenClaim := { program := "ytdkcdojcglmlbaa", sum := "75ef67f3b180e05e9f5b65876352900fe22f300602620b4029c239b5717521ec", func := "oubliette/oubliettelaw36.PolicyFew", spec := "policyFew", unfollowed := true, recurses := true, plainKeys := false, apart := false }
def PolicyFewSaid : Prop := policyFewRow.holds Try.pinned (OpenSpec.ofChange policyFewSpec)

/-- ITS FALSE NEIGHBOUR: 'it returns false'. Refute it at one input. -/
def policyFewWrong : ChangeSpec := { name := "policyFew", fn := fun _ => fun
  | [d1, d2] => { results := [.lit (.bool false)], args := [d1, d2] }
  | _ => none }
def PolicyFewWrongFalsely : Prop := policyFewRow.holds Try.pinned (OpenSpec.ofChange policyFewWrong)

/-- 'oubliettelaw18.SectorBytes': WHATEVER THE INPUT: true; the input reads as it did. -/
def sectorBytesSpec : ChangeSpec := { name := "sectorBytes", fn := fun _ => fun
  | [d1, d2, d3] => { results := [.lit (.bool true)], args := [d1, d2, d3] }
  | _ => none }
def sectorBytesRow : OpenClaim := { program := "ytdkcdojcglmlbaa", sum := "75ef67f3b180e05e9f5b65876352900fe22f300602620b4029c239b5717521ec", func := "oubliette/oubliettelaw18.SectorBytes", spec := "sectorBytes", unfollowed := true, recurses := true, plainKeys := false, apart := false }
def SectorBytesSaid : Prop := sectorBytesRow.holds Try.pinned (OpenSpec.ofChange sectorBytesSpec)

/-- ITS FALSE NEIGHBOUR: 'it returns false'. Refute it at one input. -/
def sectorBytesWrong : ChangeSpec := { name := "sectorBytes", fn := fun _ => fun
  | [d1, d2, d3] => { results := [.lit (.bool false)], args := [d1, d2, d3] }
  | _ => none }
def SectorBytesWrongFalsely : Prop := sectorBytesRow.holds Try.pinned (OpenSpec.ofChange sectorBytesWrong)

/-- 'oubliettelaw18.SectorBack': WHATEVER THE INPUT: true; the input reads as it did. -/
def sectorBackSpec : ChangeSpec := { name := "sectorBack", fn := fun _ => fun
  | [d1, d2, d3, d4] => { results := [.lit (.bool true)], args := [d1, d2, d3, d4] }
  | _ => none }
def sectorBackRow : OpenClaim := { program := "ytdkcdojcglmlbaa", sum := "75ef67f3b180e05e9f5b65876352900fe22f300602620b4029c239b5717521ec", func := "oubliette/oubliettelaw18.SectorBack", spec := "sectorBack", unfollowed := true, recurses := true, plainKeys := false, apart := false }
def SectorBackSaid : Prop := sectorBackRow.holds Try.pinned (OpenSpec.ofChange sectorBackSpec)

/-- ITS FALSE NEIGHBOUR: 'it returns false'. Refute it at one input. -/
def sectorBackWrong : ChangeSpec := { name := "sectorBack", fn := fun _ => fun
  | [d1, d2, d3, d4] => { results := [.lit (.bool false)], args := [d1, d2, d3, d4] }
  | _ => none }
def SectorBackWrongFalsely : Prop := sectorBackRow.holds Try.pinned (OpenSpec.ofChange sectorBackWrong)

/-- 'oubliettelaw19.DiskPlays': WHATEVER THE INPUT: true; the input reads as it did. -/
def diskPlaysSpec : ChangeSpec := { name := "diskPlays", fn := fun _ => fun
  | [d1, d2] => { results := [.lit (.bool true)], args := [d1, d2] }
  | _ => none }
def diskPlaysRow : OpenClaim := { program := "ytdkcdojcglmlbaa", sum := "75ef67f3b180e05e9f5b65876352900fe22f300602620b4029c239b5717521ec", func := "oubliette/oubliettelaw19.DiskPlays", spec := "diskPlays", unfollowed := true, recurses := true, plainKeys := false, apart := false }
def DiskPlaysSaid : Prop := diskPlaysRow.holds Try.pinned (OpenSpec.ofChange diskPlaysSpec)

/-- ITS FALSE NEIGHBOUR: 'it returns false'. Refute it at one input. -/
def diskPlaysWrong : ChangeSpec := { name := "diskPlays", fn := fun _ => fun
  | [d1, d2] => { results := [.lit (.bool false)], args := [d1, d2] }
  | _ => none }
def DiskPlaysWrongFalsely : Prop := diskPlaysRow.holds Try.pinned (OpenSpec.ofChange diskPlaysWrong)

/-- 'oubliettelaw19.DiskKeeps': WHATEVER THE INPUT: true; the input reads as it did. -/
def diskKeepsSpec : ChangeSpec := { name := "diskKeeps", fn := fun _ => fun
  | [d1, d2, d3, d4] => { results := [.lit (.bool true)], args := [d1, d2, d3, d4] }
  | _ => none }
def diskKeepsRow : OpenClaim := { program := "ytdkcdojcglmlbaa", sum := "75ef67f3b180e05e9f5b65876352900fe22f300602620b4029c239b5717521ec", func := "oubliette/oubliettelaw19.DiskKeeps", spec := "diskKeeps", unfollowed := true, recurses := true, plainKeys := false, apart := false }
def DiskKeepsSaid : Prop := diskKeepsRow.holds Try.pinned (OpenSpec.ofChange diskKeepsSpec)

/-- ITS FALSE NEIGHBOUR: 'it returns false'. Refute it at one input. -/
def diskKeepsWrong : ChangeSpec := { name := "diskKeeps", fn := fun _ => fun
  | [d1, d2, d3, d4] => { results := [.lit (.bool false)], args := [d1, d2, d3, d4] }
  | _ => none }
def DiskKeepsWrongFalsely : Prop := diskKeepsRow.holds Try.pinned (OpenSpec.ofChange diskKeepsWrong)

/- THE SECOND FORM. 'bulk': how many values and letters a reading holds, each counted each time it is reached (what is shared counts as often as it is met; a slice's spare places count too). A statement '..UptoSaid' is the law's where the arguments, and the package variables that the reading takes, are together of bulk at most 1048576: NARROWER than '..Said'. Prove '..Said' where nothing that the law and all that it calls make is longer than what came in: it says more and counts as full. Else prove '..UptoSaid'. A law counts once. -/
mutual
def uptoBulk {H : Type} : DataW H → Nat
  | .lit (.string bytes) => bytes.length + 1
  | .lit _ => 1
  | .nil => 1
  | .ptr d => uptoBulk d + 1
  | .slice elems spare => uptoBulkAll elems + uptoBulkAll spare + 1
  | .agg parts => uptoBulkAll parts + 1
  | .iface _ d => uptoBulk d + 1
  | .map entries => uptoBulkEntries entries + 1
  | .held _ => 1
def uptoBulkAll {H : Type} : List (DataW H) → Nat
  | [] => 0
  | d :: r => uptoBulk d + uptoBulkAll r
def uptoBulkEntries {H : Type} : List (Lit × DataW H) → Nat
  | [] => 0
  | x :: r => uptoBulkEntry x + uptoBulkEntries r
def uptoBulkEntry {H : Type} : Lit × DataW H → Nat
  | (.string bytes, d) => bytes.length + uptoBulk d + 1
  | (_, d) => uptoBulk d + 1
 end
def uptoSmall : (H : Type) → List (DataW H) → Bool := fun _ ds => decide (uptoBulkAll ds ≤ 1048576)
def OpenSpec.upto (s : _root_.Go.ChangeSpec) : _root_.Go.OpenSpec := { _root_.Go.OpenSpec.ofChange s with cond := some uptoSmall }

/-- 'oubliettelaw05.WireWrites', WHERE WHAT IT READS IS OF BULK AT MOST 1048576: true; the input reads as it did. -/
def wireWritesUptoRow : OpenClaim := { program := "ytdkcdojcglmlbaa", sum := "75ef67f3b180e05e9f5b65876352900fe22f300602620b4029c239b5717521ec", func := "oubliette/oubliettelaw05.WireWrites", spec := "wireWrites", plainKeys := false, apart := false, narrowed := true }
def WireWritesUptoSaid : Prop := wireWritesUptoRow.holds Try.pinned (OpenSpec.upto wireWritesSpec)

/-- 'oubliettelaw36.PolicyTurns', WHERE WHAT IT READS IS OF BULK AT MOST 1048576: true; the input reads as it did. -/
def policyTurnsUptoRow : OpenClaim := { program := "ytdkcdojcglmlbaa", sum := "75ef67f3b180e05e9f5b65876352900fe22f300602620b4029c239b5717521ec", func := "oubliette/oubliettelaw36.PolicyTurns", spec := "policyTurns", unfollowed := true, recurses := true, plainKeys := false, apart := false, narrowed := true }
def PolicyTurnsUptoSaid : Prop := policyTurnsUptoRow.holds Try.pinned (OpenSpec.upto policyTurnsSpec)

/-- 'oubliettelaw05.WireReads', WHERE WHAT IT READS IS OF BULK AT MOST 1048576: true; the input reads as it did. -/
def wireReadsUptoRow : OpenClaim := { program := "ytdkcdojcglmlbaa", sum := "75ef67f3b180e05e9f5b65876352900fe22f300602620b4029c239b5717521ec", func := "oubliette/oubliettelaw05.WireReads", spec := "wireReads", unfollowed := true, recurses := true, plainKeys := false, apart := false, narrowed := true }
def WireReadsUptoSaid : Prop := wireReadsUptoRow.holds Try.pinned (OpenSpec.upto wireReadsSpec)

/-- 'oubliettelaw19.DiskTears', WHERE WHAT IT READS IS OF BULK AT MOST 1048576: true; the input reads as it did. -/
def diskTearsUptoRow : OpenClaim := { program := "ytdkcdojcglmlbaa", sum := "75ef67f3b180e05e9f5b65876352900fe22f300602620b4029c239b5717521ec", func := "oubliette/oubliettelaw19.DiskTears", spec := "diskTears", unfollowed := true, recurses := true, plainKeys := false, apart := false, narrowed := true }
def DiskTearsUptoSaid : Prop := diskTearsUptoRow.holds Try.pinned (OpenSpec.upto diskTearsSpec)

/-- 'oubliettelaw05.WireBack', WHERE WHAT IT READS IS OF BULK AT MOST 1048576: true; the input reads as it did. -/
def wireBackUptoRow : OpenClaim := { program := "ytdkcdojcglmlbaa", sum := "75ef67f3b180e05e9f5b65876352900fe22f300602620b4029c239b5717521ec", func := "oubliette/oubliettelaw05.WireBack", spec := "wireBack", unfollowed := true, recurses := true, plainKeys := false, apart := false, narrowed := true }
def WireBackUptoSaid : Prop := wireBackUptoRow.holds Try.pinned (OpenSpec.upto wireBackSpec)

/-- 'oubliettelaw18.SectorReads', WHERE WHAT IT READS IS OF BULK AT MOST 1048576: true; the input reads as it did. -/
def sectorReadsUptoRow : OpenClaim := { program := "ytdkcdojcglmlbaa", sum := "75ef67f3b180e05e9f5b65876352900fe22f300602620b4029c239b5717521ec", func := "oubliette/oubliettelaw18.SectorReads", spec := "sectorReads", unfollowed := true, recurses := true, plainKeys := false, apart := false, narrowed := true }
def SectorReadsUptoSaid : Prop := sectorReadsUptoRow.holds Try.pinned (OpenSpec.upto sectorReadsSpec)

/-- 'oubliettelaw36.PolicyFew', WHERE WHAT IT READS IS OF BULK AT MOST 1048576: true; the input reads as it did. -/
def policyFewUptoRow : OpenClaim := { program := "ytdkcdojcglmlbaa", sum := "75ef67f3b180e05e9f5b65876352900fe22f300602620b4029c239b5717521ec", func := "oubliette/oubliettelaw36.PolicyFew", spec := "policyFew", unfollowed := true, recurses := true, plainKeys := false, apart := false, narrowed := true }
def PolicyFewUptoSaid : Prop := policyFewUptoRow.holds Try.pinned (OpenSpec.upto policyFewSpec)

/-- 'oubliettelaw18.SectorBytes', WHERE WHAT IT READS IS OF BULK AT MOST 1048576: true; the input reads as it did. -/
def sectorBytesUptoRow : OpenClaim := { program := "ytdkcdojcglmlbaa", sum := "75ef67f3b180e05e9f5b65876352900fe22f300602620b4029c239b5717521ec", func := "oubliette/oubliettelaw18.SectorBytes", spec := "sectorBytes", unfollowed := true, recurses := true, plainKeys := false, apart := false, narrowed := true }
def SectorBytesUptoSaid : Prop := sectorBytesUptoRow.holds Try.pinned (OpenSpec.upto sectorBytesSpec)

/-- 'oubliettelaw18.SectorBack', WHERE WHAT IT READS IS OF BULK AT MOST 1048576: true; the input reads as it did. -/
def sectorBackUptoRow : OpenClaim := { program := "ytdkcdojcglmlbaa", sum := "75ef67f3b180e05e9f5b65876352900fe22f300602620b4029c239b5717521ec", func := "oubliette/oubliettelaw18.SectorBack", spec := "sectorBack", unfollowed := true, recurses := true, plainKeys := false, apart := false, narrowed := true }
def SectorBackUptoSaid : Prop := sectorBackUptoRow.holds Try.pinned (OpenSpec.upto sectorBackSpec)

/-- 'oubliettelaw19.DiskPlays', WHERE WHAT IT READS IS OF BULK AT MOST 1048576: true; the input reads as it did. -/
def diskPlaysUptoRow : OpenClaim := { program := "ytdkcdojcglmlbaa", sum := "75ef67f3b180e05e9f5b65876352900fe22f300602620b4029c239b5717521ec", func := "oubliette/oubliettelaw19.DiskPlays", spec := "diskPlays", unfollowed := true, recurses := true, plainKeys := false, apart := false, narrowed := true }
def DiskPlaysUptoSaid : Prop := diskPlaysUptoRow.holds Try.pinned (OpenSpec.upto diskPlaysSpec)

/-- 'oubliettelaw19.DiskKeeps', WHERE WHAT IT READS IS OF BULK AT MOST 1048576: true; the input reads as it did. -/
def diskKeepsUptoRow : OpenClaim := { program := "ytdkcdojcglmlbaa", sum := "75ef67f3b180e05e9f5b65876352900fe22f300602620b4029c239b5717521ec", func := "oubliette/oubliettelaw19.DiskKeeps", spec := "diskKeeps", unfollowed := true, recurses := true, plainKeys := false, apart := false, narrowed := true }
def DiskKeepsUptoSaid : Prop := diskKeepsUptoRow.holds Try.pinned (OpenSpec.upto diskKeepsSpec)

end Rows
end Go.Proofs.Ytdkcdojcglmlbaa
