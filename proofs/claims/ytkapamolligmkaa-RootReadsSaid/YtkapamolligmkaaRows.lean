/-
  No cell of these rows narrows 'for every input' (looked for: loops, veiled, ifaces, maps, wideKeys, modest, calm, conditions, laid).
  DERIVED. THE GIVEN ROWS OF THIS SEAT. 3 by the template 'for every input the law returns true; each argument reads behind the call as it read before'; 0 by the template 'total and deterministic' (their statements: YtkapamolligmkaaTotals.lean).
  GIVEN WITH THE SEED: the statements are not yours to turn. If you find one false, say at which input.
  Laid BY PROGRAM, IN A SANDBOX (cutbox-rows.mjs): the forced cells as the released guide's own fill.sh prints them over the translation 57f8dd4b9b94dd06… (all of the seat's roots in one cut). By AI agents, Wed Nov 11 2026. No macro, syntax, notation, axiom, sorry.
-/
import Derived.Test.YtkapamolligmkaaChecked
import GoSem.Claim
import GoSem.ClaimJoined
import GoSem.ClaimMapViews
import Derived.JoinedTies
import Derived.KernelRfl
namespace Go.Proofs.Ytkapamolligmkaa
/- THE CELL 'sum', in the pinned program and in every row, IS THE sha256 OF THE DUMP (.gsa) THAT YtkapamolligmkaaProg.lean LOADS. Nothing in Lean hashes anything: it is a label: what it is worth is what the hold of that sum in a sandbox is worth. -/
noncomputable def Try.pinned : Pinned := { name := "ytkapamolligmkaa", sum := "57f8dd4b9b94dd06e435e4e0043e0868ccb7285431ce781d08f3d15d3af43cc1", checked := Try.checked }
namespace Rows
def none {H : Type} : Left H := { results := [], args := [] }

/-- 'oubliettelaw29.RootPuts': WHATEVER THE INPUT: true; the input reads as it did. -/
def rootPutsSpec : ChangeSpec := { name := "rootPuts", fn := fun _ => fun
  | [d1, d2, d3] => { results := [.lit (.bool true)], args := [d1, d2, d3] }
  | _ => none }
def rootPutsRow : OpenClaim := { program := "ytkapamolligmkaa", sum := "57f8dd4b9b94dd06e435e4e0043e0868ccb7285431ce781d08f3d15d3af43cc1", func := "oubliette/oubliettelaw29.RootPuts", spec := "rootPuts", unfollowed := true, recurses := true, plainKeys := false, apart := false }
def RootPutsSaid : Prop := rootPutsRow.holds Try.pinned (OpenSpec.ofChange rootPutsSpec)

/-- ITS FALSE NEIGHBOUR: 'it returns false'. Refute it at one input. -/
def rootPutsWrong : ChangeSpec := { name := "rootPuts", fn := fun _ => fun
  | [d1, d2, d3] => { results := [.lit (.bool false)], args := [d1, d2, d3] }
  | _ => none }
def RootPutsWrongFalsely : Prop := rootPutsRow.holds Try.pinned (OpenSpec.ofChange rootPutsWrong)

/-- 'oubliettelaw29.RootReads': WHATEVER THE INPUT: true; the input reads as it did. -/
def rootReadsSpec : ChangeSpec := { name := "rootReads", fn := fun _ => fun
  | [d1, d2, d3] => { results := [.lit (.bool true)], args := [d1, d2, d3] }
  | _ => none }
def rootReadsRow : OpenClaim := { program := "ytkapamolligmkaa", sum := "57f8dd4b9b94dd06e435e4e0043e0868ccb7285431ce781d08f3d15d3af43cc1", func := "oubliette/oubliettelaw29.RootReads", spec := "rootReads", unfollowed := true, recurses := true, plainKeys := false, apart := false }
def RootReadsSaid : Prop := rootReadsRow.holds Try.pinned (OpenSpec.ofChange rootReadsSpec)

/-- ITS FALSE NEIGHBOUR: 'it returns false'. Refute it at one input. -/
def rootReadsWrong : ChangeSpec := { name := "rootReads", fn := fun _ => fun
  | [d1, d2, d3] => { results := [.lit (.bool false)], args := [d1, d2, d3] }
  | _ => none }
def RootReadsWrongFalsely : Prop := rootReadsRow.holds Try.pinned (OpenSpec.ofChange rootReadsWrong)

/-- 'oubliettelaw29.RootCrashes': WHATEVER THE INPUT: true; the input reads as it did. -/
def rootCrashesSpec : ChangeSpec := { name := "rootCrashes", fn := fun _ => fun
  | [d1, d2, d3, d4, d5] => { results := [.lit (.bool true)], args := [d1, d2, d3, d4, d5] }
  | _ => none }
def rootCrashesRow : OpenClaim := { program := "ytkapamolligmkaa", sum := "57f8dd4b9b94dd06e435e4e0043e0868ccb7285431ce781d08f3d15d3af43cc1", func := "oubliette/oubliettelaw29.RootCrashes", spec := "rootCrashes", unfollowed := true, recurses := true, plainKeys := false, apart := false }
def RootCrashesSaid : Prop := rootCrashesRow.holds Try.pinned (OpenSpec.ofChange rootCrashesSpec)

/-- ITS FALSE NEIGHBOUR: 'it returns false'. Refute it at one input. -/
def rootCrashesWrong : ChangeSpec := { name := "rootCrashes", fn := fun _ => fun
  | [d1, d2, d3, d4, d5] => { results := [.lit (.bool false)], args := [d1, d2, d3, d4, d5] }
  | _ => none }
def RootCrashesWrongFalsely : Prop := rootCrashesRow.holds Try.pinned (OpenSpec.ofChange rootCrashesWrong)

/- THE SECOND FORM. 'bulk': how many values and letters a reading holds, each counted each time it is reached (what is shared counts as often as it is met; a slice's spare places count too). A statement '..UptoSaid' is the law's where the arguments, and the package variables that the reading takes, are together of bulk at most 1048576: NARROWER than '..Said'. Prove '..Said' where nothing that the law and all that it calls make is longer than what came in: it says more and counts as full. Else prove '..UptoSaid'. A law counts once. -/
mutual
def uptoBulk {H : Type} : DataW H → Nat
  | .lit (.string bytes) => bytes.length + 1
  | .lit _ => 1
  | .nil => 1
  | .ptr d => uptoBulk d + 1
  | .slice elems spare => uptoBulkAll elems + uptoBulkAll spare + 1
  | .agg parts => uptoBulkAll parts + 1
  | .iface _ d => uptoBulk d + 1
  | .map entries => uptoBulkEntries entries + 1
  | .held _ => 1
def uptoBulkAll {H : Type} : List (DataW H) → Nat
  | [] => 0
  | d :: r => uptoBulk d + uptoBulkAll r
def uptoBulkEntries {H : Type} : List (Lit × DataW H) → Nat
  | [] => 0
  | x :: r => uptoBulkEntry x + uptoBulkEntries r
def uptoBulkEntry {H : Type} : Lit × DataW H → Nat
  | (.string bytes, d) => bytes.length + uptoBulk d + 1
  | (_, d) => uptoBulk d + 1
 end
def uptoSmall : (H : Type) → List (DataW H) → Bool := fun _ ds => decide (uptoBulkAll ds ≤ 1048576)
def OpenSpec.upto (s : _root_.Go.ChangeSpec) : _root_.Go.OpenSpec := { _root_.Go.OpenSpec.ofChange s with cond := some uptoSmall }

/-- 'oubliettelaw29.RootPuts', WHERE WHAT IT READS IS OF BULK AT MOST 1048576: true; the input reads as it did. -/
def rootPutsUptoRow : OpenClaim := { program := "ytkapamolligmkaa", sum := "57f8dd4b9b94dd06e435e4e0043e0868ccb7285431ce781d08f3d15d3af43cc1", func := "oubliette/oubliettelaw29.RootPuts", spec := "rootPuts", unfollowed := true, recurses := true, plainKeys := false, apart := false, narrowed := true }
def RootPutsUptoSaid : Prop := rootPutsUptoRow.holds Try.pinned (OpenSpec.upto rootPutsSpec)

/-- 'oubliettelaw29.RootReads', WHERE WHAT IT READS IS OF BULK AT MOST 1048576: true; the input reads as it did. -/
def rootReadsUptoRow : OpenClaim := { program := "ytkapamolligmkaa", sum := "57f8dd4b9b94dd06e435e4e0043e0868ccb7285431ce781d08f3d15d3af43cc1", func := "oubliette/oubliettelaw29.RootReads", spec := "rootReads", unfollowed := true, recurses := true, plainKeys := false, apart := false, narrowed := true }
def RootReadsUptoSaid : Prop := rootReadsUptoRow.holds Try.pinned (OpenSpec.upto rootReadsSpec)

/-- 'oubliettelaw29.RootCrashes', WHERE WHAT IT READS IS OF BULK AT MOST 1048576: true; the input reads as it did. -/
def rootCrashesUptoRow : OpenClaim := { program := "ytkapamolligmkaa", sum := "57f8dd4b9b94dd06e435e4e0043e0868ccb7285431ce781d08f3d15d3af43cc1", func := "oubliette/oubliettelaw29.RootCrashes", spec := "rootCrashes", unfollowed := true, recurses := true, plainKeys := false, apart := false, narrowed := true }
def RootCrashesUptoSaid : Prop := rootCrashesUptoRow.holds Try.pinned (OpenSpec.upto rootCrashesSpec)

end Rows
end Go.Proofs.Ytkapamolligmkaa
