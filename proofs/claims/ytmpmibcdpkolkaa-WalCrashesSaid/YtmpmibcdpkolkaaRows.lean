/-
  No cell of these rows narrows 'for every input' (looked for: loops, veiled, ifaces, maps, wideKeys, modest, calm, conditions, laid).
  DERIVED. THE GIVEN ROWS OF THIS SEAT. 9 by the template 'for every input the law returns true; each argument reads behind the call as it read before'; 0 by the template 'total and deterministic' (their statements: YtmpmibcdpkolkaaTotals.lean).
  GIVEN WITH THE SEED: the statements are not yours to turn. If you find one false, say at which input.
  Laid BY PROGRAM, IN A SANDBOX (cutbox-rows.mjs): the forced cells as the released guide's own fill.sh prints them over the translation cdb8acc0c96a2886… (all of the seat's roots in one cut). By AI agents, Wed Nov 11 2026. No macro, syntax, notation, axiom, sorry.
-/
import Derived.Test.YtmpmibcdpkolkaaChecked
import GoSem.Claim
import GoSem.ClaimJoined
import GoSem.ClaimMapViews
import Derived.JoinedTies
import Derived.KernelRfl
namespace Go.Proofs.Ytmpmibcdpkolkaa
/- THE CELL 'sum', in the pinned program and in every row, IS THE sha256 OF THE DUMP (.gsa) THAT YtmpmibcdpkolkaaProg.lean LOADS. Nothing in Lean hashes anything: it is a label: what it is worth is what the hold of that sum in a sandbox is worth. -/
noncomputable def Try.pinned : Pinned := { name := "ytmpmibcdpkolkaa", sum := "cdb8acc0c96a28861ae0fbae5952256c05885a736496145f1c14dfb98a5b8fa1", checked := Try.checked }
namespace Rows
def none {H : Type} : Left H := { results := [], args := [] }

/-- 'oubliettelaw24.SuperWrites': WHATEVER THE INPUT: true; the input reads as it did. -/
def superWritesSpec : ChangeSpec := { name := "superWrites", fn := fun _ => fun
  | [d1, d2] => { results := [.lit (.bool true)], args := [d1, d2] }
  | _ => none }
def superWritesRow : OpenClaim := { program := "ytmpmibcdpkolkaa", sum := "cdb8acc0c96a28861ae0fbae5952256c05885a736496145f1c14dfb98a5b8fa1", func := "oubliette/oubliettelaw24.SuperWrites", spec := "superWrites", unfollowed := true, recurses := true, plainKeys := false, apart := false }
def SuperWritesSaid : Prop := superWritesRow.holds Try.pinned (OpenSpec.ofChange superWritesSpec)

/-- ITS FALSE NEIGHBOUR: 'it returns false'. Refute it at one input. -/
def superWritesWrong : ChangeSpec := { name := "superWrites", fn := fun _ => fun
  | [d1, d2] => { results := [.lit (.bool false)], args := [d1, d2] }
  | _ => none }
def SuperWritesWrongFalsely : Prop := superWritesRow.holds Try.pinned (OpenSpec.ofChange superWritesWrong)

/-- 'oubliettelaw25.SnapWrites': WHATEVER THE INPUT: true; the input reads as it did. -/
def snapWritesSpec : ChangeSpec := { name := "snapWrites", fn := fun _ => fun
  | [d1, d2, d3] => { results := [.lit (.bool true)], args := [d1, d2, d3] }
  | _ => none }
def snapWritesRow : OpenClaim := { program := "ytmpmibcdpkolkaa", sum := "cdb8acc0c96a28861ae0fbae5952256c05885a736496145f1c14dfb98a5b8fa1", func := "oubliette/oubliettelaw25.SnapWrites", spec := "snapWrites", unfollowed := true, recurses := true, plainKeys := false, apart := false }
def SnapWritesSaid : Prop := snapWritesRow.holds Try.pinned (OpenSpec.ofChange snapWritesSpec)

/-- ITS FALSE NEIGHBOUR: 'it returns false'. Refute it at one input. -/
def snapWritesWrong : ChangeSpec := { name := "snapWrites", fn := fun _ => fun
  | [d1, d2, d3] => { results := [.lit (.bool false)], args := [d1, d2, d3] }
  | _ => none }
def SnapWritesWrongFalsely : Prop := snapWritesRow.holds Try.pinned (OpenSpec.ofChange snapWritesWrong)

/-- 'oubliettelaw25.SnapApart': WHATEVER THE INPUT: true; the input reads as it did. -/
def snapApartSpec : ChangeSpec := { name := "snapApart", fn := fun _ => fun
  | [d1, d2, d3, d4, d5, d6] => { results := [.lit (.bool true)], args := [d1, d2, d3, d4, d5, d6] }
  | _ => none }
def snapApartRow : OpenClaim := { program := "ytmpmibcdpkolkaa", sum := "cdb8acc0c96a28861ae0fbae5952256c05885a736496145f1c14dfb98a5b8fa1", func := "oubliette/oubliettelaw25.SnapApart", spec := "snapApart", unfollowed := true, recurses := true, plainKeys := false, apart := false }
def SnapApartSaid : Prop := snapApartRow.holds Try.pinned (OpenSpec.ofChange snapApartSpec)

/-- ITS FALSE NEIGHBOUR: 'it returns false'. Refute it at one input. -/
def snapApartWrong : ChangeSpec := { name := "snapApart", fn := fun _ => fun
  | [d1, d2, d3, d4, d5, d6] => { results := [.lit (.bool false)], args := [d1, d2, d3, d4, d5, d6] }
  | _ => none }
def SnapApartWrongFalsely : Prop := snapApartRow.holds Try.pinned (OpenSpec.ofChange snapApartWrong)

/-- 'oubliettelaw24.SuperReads': WHATEVER THE INPUT: true; the input reads as it did. -/
def superReadsSpec : ChangeSpec := { name := "superReads", fn := fun _ => fun
  | [d1, d2, d3, d4] => { results := [.lit (.bool true)], args := [d1, d2, d3, d4] }
  | _ => none }
def superReadsRow : OpenClaim := { program := "ytmpmibcdpkolkaa", sum := "cdb8acc0c96a28861ae0fbae5952256c05885a736496145f1c14dfb98a5b8fa1", func := "oubliette/oubliettelaw24.SuperReads", spec := "superReads", unfollowed := true, recurses := true, plainKeys := false, apart := false }
def SuperReadsSaid : Prop := superReadsRow.holds Try.pinned (OpenSpec.ofChange superReadsSpec)

/-- ITS FALSE NEIGHBOUR: 'it returns false'. Refute it at one input. -/
def superReadsWrong : ChangeSpec := { name := "superReads", fn := fun _ => fun
  | [d1, d2, d3, d4] => { results := [.lit (.bool false)], args := [d1, d2, d3, d4] }
  | _ => none }
def SuperReadsWrongFalsely : Prop := superReadsRow.holds Try.pinned (OpenSpec.ofChange superReadsWrong)

/-- 'oubliettelaw25.SnapReads': WHATEVER THE INPUT: true; the input reads as it did. -/
def snapReadsSpec : ChangeSpec := { name := "snapReads", fn := fun _ => fun
  | [d1, d2, d3] => { results := [.lit (.bool true)], args := [d1, d2, d3] }
  | _ => none }
def snapReadsRow : OpenClaim := { program := "ytmpmibcdpkolkaa", sum := "cdb8acc0c96a28861ae0fbae5952256c05885a736496145f1c14dfb98a5b8fa1", func := "oubliette/oubliettelaw25.SnapReads", spec := "snapReads", unfollowed := true, recurses := true, plainKeys := false, apart := false }
def SnapReadsSaid : Prop := snapReadsRow.holds Try.pinned (OpenSpec.ofChange snapReadsSpec)

/-- ITS FALSE NEIGHBOUR: 'it returns false'. Refute it at one input. -/
def snapReadsWrong : ChangeSpec := { name := "snapReads", fn := fun _ => fun
  | [d1, d2, d3] => { results := [.lit (.bool false)], args := [d1, d2, d3] }
  | _ => none }
def SnapReadsWrongFalsely : Prop := snapReadsRow.holds Try.pinned (OpenSpec.ofChange snapReadsWrong)

/-- 'oubliettelaw24.SuperCrashes': WHATEVER THE INPUT: true; the input reads as it did. -/
def superCrashesSpec : ChangeSpec := { name := "superCrashes", fn := fun _ => fun
  | [d1, d2, d3, d4, d5, d6] => { results := [.lit (.bool true)], args := [d1, d2, d3, d4, d5, d6] }
  | _ => none }
def superCrashesRow : OpenClaim := { program := "ytmpmibcdpkolkaa", sum := "cdb8acc0c96a28861ae0fbae5952256c05885a736496145f1c14dfb98a5b8fa1", func := "oubliette/oubliettelaw24.SuperCrashes", spec := "superCrashes", unfollowed := true, recurses := true, plainKeys := false, apart := false }
def SuperCrashesSaid : Prop := superCrashesRow.holds Try.pinned (OpenSpec.ofChange superCrashesSpec)

/-- ITS FALSE NEIGHBOUR: 'it returns false'. Refute it at one input. -/
def superCrashesWrong : ChangeSpec := { name := "superCrashes", fn := fun _ => fun
  | [d1, d2, d3, d4, d5, d6] => { results := [.lit (.bool false)], args := [d1, d2, d3, d4, d5, d6] }
  | _ => none }
def SuperCrashesWrongFalsely : Prop := superCrashesRow.holds Try.pinned (OpenSpec.ofChange superCrashesWrong)

/-- 'oubliettelaw23.WalScans': WHATEVER THE INPUT: true; the input reads as it did. -/
def walScansSpec : ChangeSpec := { name := "walScans", fn := fun _ => fun
  | [d1, d2, d3, d4] => { results := [.lit (.bool true)], args := [d1, d2, d3, d4] }
  | _ => none }
def walScansRow : OpenClaim := { program := "ytmpmibcdpkolkaa", sum := "cdb8acc0c96a28861ae0fbae5952256c05885a736496145f1c14dfb98a5b8fa1", func := "oubliette/oubliettelaw23.WalScans", spec := "walScans", unfollowed := true, recurses := true, plainKeys := false, apart := false }
def WalScansSaid : Prop := walScansRow.holds Try.pinned (OpenSpec.ofChange walScansSpec)

/-- ITS FALSE NEIGHBOUR: 'it returns false'. Refute it at one input. -/
def walScansWrong : ChangeSpec := { name := "walScans", fn := fun _ => fun
  | [d1, d2, d3, d4] => { results := [.lit (.bool false)], args := [d1, d2, d3, d4] }
  | _ => none }
def WalScansWrongFalsely : Prop := walScansRow.holds Try.pinned (OpenSpec.ofChange walScansWrong)

/-- 'oubliettelaw23.WalAppends': WHATEVER THE INPUT: true; the input reads as it did. -/
def walAppendsSpec : ChangeSpec := { name := "walAppends", fn := fun _ => fun
  | [d1, d2, d3, d4] => { results := [.lit (.bool true)], args := [d1, d2, d3, d4] }
  | _ => none }
def walAppendsRow : OpenClaim := { program := "ytmpmibcdpkolkaa", sum := "cdb8acc0c96a28861ae0fbae5952256c05885a736496145f1c14dfb98a5b8fa1", func := "oubliette/oubliettelaw23.WalAppends", spec := "walAppends", unfollowed := true, recurses := true, plainKeys := false, apart := false }
def WalAppendsSaid : Prop := walAppendsRow.holds Try.pinned (OpenSpec.ofChange walAppendsSpec)

/-- ITS FALSE NEIGHBOUR: 'it returns false'. Refute it at one input. -/
def walAppendsWrong : ChangeSpec := { name := "walAppends", fn := fun _ => fun
  | [d1, d2, d3, d4] => { results := [.lit (.bool false)], args := [d1, d2, d3, d4] }
  | _ => none }
def WalAppendsWrongFalsely : Prop := walAppendsRow.holds Try.pinned (OpenSpec.ofChange walAppendsWrong)

/-- 'oubliettelaw23.WalCrashes': WHATEVER THE INPUT: true; the input reads as it did. -/
def walCrashesSpec : ChangeSpec := { name := "walCrashes", fn := fun _ => fun
  | [d1, d2, d3, d4, d5, d6] => { results := [.lit (.bool true)], args := [d1, d2, d3, d4, d5, d6] }
  | _ => none }
def walCrashesRow : OpenClaim := { program := "ytmpmibcdpkolkaa", sum := "cdb8acc0c96a28861ae0fbae5952256c05885a736496145f1c14dfb98a5b8fa1", func := "oubliette/oubliettelaw23.WalCrashes", spec := "walCrashes", unfollowed := true, recurses := true, plainKeys := false, apart := false }
def WalCrashesSaid : Prop := walCrashesRow.holds Try.pinned (OpenSpec.ofChange walCrashesSpec)

/-- ITS FALSE NEIGHBOUR: 'it returns false'. Refute it at one input. -/
def walCrashesWrong : ChangeSpec := { name := "walCrashes", fn := fun _ => fun
  | [d1, d2, d3, d4, d5, d6] => { results := [.lit (.bool false)], args := [d1, d2, d3, d4, d5, d6] }
  | _ => none }
def WalCrashesWrongFalsely : Prop := walCrashesRow.holds Try.pinned (OpenSpec.ofChange walCrashesWrong)

/- THE SECOND FORM. 'bulk': how many values and letters a reading holds, each counted each time it is reached (what is shared counts as often as it is met; a slice's spare places count too). A statement '..UptoSaid' is the law's where the arguments, and the package variables that the reading takes, are together of bulk at most 1048576: NARROWER than '..Said'. Prove '..Said' where nothing that the law and all that it calls make is longer than what came in: it says more and counts as full. Else prove '..UptoSaid'. A law counts once. -/
mutual
def uptoBulk {H : Type} : DataW H → Nat
  | .lit (.string bytes) => bytes.length + 1
  | .lit _ => 1
  | .nil => 1
  | .ptr d => uptoBulk d + 1
  | .slice elems spare => uptoBulkAll elems + uptoBulkAll spare + 1
  | .agg parts => uptoBulkAll parts + 1
  | .iface _ d => uptoBulk d + 1
  | .map entries => uptoBulkEntries entries + 1
  | .held _ => 1
def uptoBulkAll {H : Type} : List (DataW H) → Nat
  | [] => 0
  | d :: r => uptoBulk d + uptoBulkAll r
def uptoBulkEntries {H : Type} : List (Lit × DataW H) → Nat
  | [] => 0
  | x :: r => uptoBulkEntry x + uptoBulkEntries r
def uptoBulkEntry {H : Type} : Lit × DataW H → Nat
  | (.string bytes, d) => bytes.length + uptoBulk d + 1
  | (_, d) => uptoBulk d + 1
 end
def uptoSmall : (H : Type) → List (DataW H) → Bool := fun _ ds => decide (uptoBulkAll ds ≤ 1048576)
def OpenSpec.upto (s : _root_.Go.ChangeSpec) : _root_.Go.OpenSpec := { _root_.Go.OpenSpec.ofChange s with cond := some uptoSmall }

/-- 'oubliettelaw24.SuperWrites', WHERE WHAT IT READS IS OF BULK AT MOST 1048576: true; the input reads as it did. -/
def superWritesUptoRow : OpenClaim := { program := "ytmpmibcdpkolkaa", sum := "cdb8acc0c96a28861ae0fbae5952256c05885a736496145f1c14dfb98a5b8fa1", func := "oubliette/oubliettelaw24.SuperWrites", spec := "superWrites", unfollowed := true, recurses := true, plainKeys := false, apart := false, narrowed := true }
def SuperWritesUptoSaid : Prop := superWritesUptoRow.holds Try.pinned (OpenSpec.upto superWritesSpec)

/-- 'oubliettelaw25.SnapWrites', WHERE WHAT IT READS IS OF BULK AT MOST 1048576: true; the input reads as it did. -/
def snapWritesUptoRow : OpenClaim := { program := "ytmpmibcdpkolkaa", sum := "cdb8acc0c96a28861ae0fbae5952256c05885a736496145f1c14dfb98a5b8fa1", func := "oubliette/oubliettelaw25.SnapWrites", spec := "snapWrites", unfollowed := true, recurses := true, plainKeys := false, apart := false, narrowed := true }
def SnapWritesUptoSaid : Prop := snapWritesUptoRow.holds Try.pinned (OpenSpec.upto snapWritesSpec)

/-- 'oubliettelaw25.SnapApart', WHERE WHAT IT READS IS OF BULK AT MOST 1048576: true; the input reads as it did. -/
def snapApartUptoRow : OpenClaim := { program := "ytmpmibcdpkolkaa", sum := "cdb8acc0c96a28861ae0fbae5952256c05885a736496145f1c14dfb98a5b8fa1", func := "oubliette/oubliettelaw25.SnapApart", spec := "snapApart", unfollowed := true, recurses := true, plainKeys := false, apart := false, narrowed := true }
def SnapApartUptoSaid : Prop := snapApartUptoRow.holds Try.pinned (OpenSpec.upto snapApartSpec)

/-- 'oubliettelaw24.SuperReads', WHERE WHAT IT READS IS OF BULK AT MOST 1048576: true; the input reads as it did. -/
def superReadsUptoRow : OpenClaim := { program := "ytmpmibcdpkolkaa", sum := "cdb8acc0c96a28861ae0fbae5952256c05885a736496145f1c14dfb98a5b8fa1", func := "oubliette/oubliettelaw24.SuperReads", spec := "superReads", unfollowed := true, recurses := true, plainKeys := false, apart := false, narrowed := true }
def SuperReadsUptoSaid : Prop := superReadsUptoRow.holds Try.pinned (OpenSpec.upto superReadsSpec)

/-- 'oubliettelaw25.SnapReads', WHERE WHAT IT READS IS OF BULK AT MOST 1048576: true; the input reads as it did. -/
def snapReadsUptoRow : OpenClaim := { program := "ytmpmibcdpkolkaa", sum := "cdb8acc0c96a28861ae0fbae5952256c05885a736496145f1c14dfb98a5b8fa1", func := "oubliette/oubliettelaw25.SnapReads", spec := "snapReads", unfollowed := true, recurses := true, plainKeys := false, apart := false, narrowed := true }
def SnapReadsUptoSaid : Prop := snapReadsUptoRow.holds Try.pinned (OpenSpec.upto snapReadsSpec)

/-- 'oubliettelaw24.SuperCrashes', WHERE WHAT IT READS IS OF BULK AT MOST 1048576: true; the input reads as it did. -/
def superCrashesUptoRow : OpenClaim := { program := "ytmpmibcdpkolkaa", sum := "cdb8acc0c96a28861ae0fbae5952256c05885a736496145f1c14dfb98a5b8fa1", func := "oubliette/oubliettelaw24.SuperCrashes", spec := "superCrashes", unfollowed := true, recurses := true, plainKeys := false, apart := false, narrowed := true }
def SuperCrashesUptoSaid : Prop := superCrashesUptoRow.holds Try.pinned (OpenSpec.upto superCrashesSpec)

/-- 'oubliettelaw23.WalScans', WHERE WHAT IT READS IS OF BULK AT MOST 1048576: true; the input reads as it did. -/
def walScansUptoRow : OpenClaim := { program := "ytmpmibcdpkolkaa", sum := "cdb8acc0c96a28861ae0fbae5952256c05885a736496145f1c14dfb98a5b8fa1", func := "oubliette/oubliettelaw23.WalScans", spec := "walScans", unfollowed := true, recurses := true, plainKeys := false, apart := false, narrowed := true }
def WalScansUptoSaid : Prop := walScansUptoRow.holds Try.pinned (OpenSpec.upto walScansSpec)

/-- 'oubliettelaw23.WalAppends', WHERE WHAT IT READS IS OF BULK AT MOST 1048576: true; the input reads as it did. -/
def walAppendsUptoRow : OpenClaim := { program := "ytmpmibcdpkolkaa", sum := "cdb8acc0c96a28861ae0fbae5952256c05885a736496145f1c14dfb98a5b8fa1", func := "oubliette/oubliettelaw23.WalAppends", spec := "walAppends", unfollowed := true, recurses := true, plainKeys := false, apart := false, narrowed := true }
def WalAppendsUptoSaid : Prop := walAppendsUptoRow.holds Try.pinned (OpenSpec.upto walAppendsSpec)

/-- 'oubliettelaw23.WalCrashes', WHERE WHAT IT READS IS OF BULK AT MOST 1048576: true; the input reads as it did. -/
def walCrashesUptoRow : OpenClaim := { program := "ytmpmibcdpkolkaa", sum := "cdb8acc0c96a28861ae0fbae5952256c05885a736496145f1c14dfb98a5b8fa1", func := "oubliette/oubliettelaw23.WalCrashes", spec := "walCrashes", unfollowed := true, recurses := true, plainKeys := false, apart := false, narrowed := true }
def WalCrashesUptoSaid : Prop := walCrashesUptoRow.holds Try.pinned (OpenSpec.upto walCrashesSpec)

end Rows
end Go.Proofs.Ytmpmibcdpkolkaa
