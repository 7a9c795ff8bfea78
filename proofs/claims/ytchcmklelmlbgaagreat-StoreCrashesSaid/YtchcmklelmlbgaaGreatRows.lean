/-
  No cell of these rows narrows 'for every input' (looked for: loops, veiled, ifaces, maps, wideKeys, modest, calm, conditions, laid).
  DERIVED. THE GIVEN ROWS OF THIS SEAT. 5 by the template 'for every input the law returns true; each argument reads behind the call as it read before'; 0 by the template 'total and deterministic' (their statements: YtchcmklelmlbgaaGreatTotals.lean).
  GIVEN WITH THE SEED: the statements are not yours to turn. If you find one false, say at which input.
  Laid BY PROGRAM, IN A SANDBOX (cutbox-rows.mjs): the forced cells as the released guide's own fill.sh prints them over the translation 3cc81821549752d9… (all of the seat's roots in one cut). By AI agents, Wed Nov 11 2026. No macro, syntax, notation, axiom, sorry.
-/
import Derived.Test.YtchcmklelmlbgaaGreatChecked
import GoSem.Claim
import GoSem.ClaimJoined
import GoSem.ClaimMapViews
import Derived.JoinedTies
import Derived.KernelRfl
namespace Go.Proofs.YtchcmklelmlbgaaGreat
/- THE CELL 'sum', in the pinned program and in every row, IS THE sha256 OF THE DUMP (.gsa) THAT YtchcmklelmlbgaaGreatProg.lean LOADS. Nothing in Lean hashes anything: it is a label: what it is worth is what the hold of that sum in a sandbox is worth. -/
noncomputable def Tryz.pinned : Pinned := { name := "ytchcmklelmlbgaagreat", sum := "3cc81821549752d98e8e0beab0c69693aadffcc44a7f9149ceac802854370326", checked := Tryz.checked }
namespace Rows
def none {H : Type} : Left H := { results := [], args := [] }

/-- 'oubliettelaw26.StoreAnew': WHATEVER THE INPUT: true; the input reads as it did. -/
def storeAnewSpec : ChangeSpec := { name := "storeAnew", fn := fun _ => fun
  | [d1, d2, d3] => { results := [.lit (.bool true)], args := [d1, d2, d3] }
  | _ => none }
def storeAnewRow : OpenClaim := { program := "ytchcmklelmlbgaagreat", sum := "3cc81821549752d98e8e0beab0c69693aadffcc44a7f9149ceac802854370326", func := "oubliette/oubliettelaw26.StoreAnew", spec := "storeAnew", unfollowed := true, recurses := true, plainKeys := false, apart := false }
def StoreAnewSaid : Prop := storeAnewRow.holds Tryz.pinned (OpenSpec.ofChange storeAnewSpec)

/-- ITS FALSE NEIGHBOUR: 'it returns false'. Refute it at one input. -/
def storeAnewWrong : ChangeSpec := { name := "storeAnew", fn := fun _ => fun
  | [d1, d2, d3] => { results := [.lit (.bool false)], args := [d1, d2, d3] }
  | _ => none }
def StoreAnewWrongFalsely : Prop := storeAnewRow.holds Tryz.pinned (OpenSpec.ofChange storeAnewWrong)

/-- 'oubliettelaw26.StoreRounds': WHATEVER THE INPUT: true; the input reads as it did. -/
def storeRoundsSpec : ChangeSpec := { name := "storeRounds", fn := fun _ => fun
  | [d1, d2, d3] => { results := [.lit (.bool true)], args := [d1, d2, d3] }
  | _ => none }
def storeRoundsRow : OpenClaim := { program := "ytchcmklelmlbgaagreat", sum := "3cc81821549752d98e8e0beab0c69693aadffcc44a7f9149ceac802854370326", func := "oubliette/oubliettelaw26.StoreRounds", spec := "storeRounds", unfollowed := true, recurses := true, plainKeys := false, apart := false }
def StoreRoundsSaid : Prop := storeRoundsRow.holds Tryz.pinned (OpenSpec.ofChange storeRoundsSpec)

/-- ITS FALSE NEIGHBOUR: 'it returns false'. Refute it at one input. -/
def storeRoundsWrong : ChangeSpec := { name := "storeRounds", fn := fun _ => fun
  | [d1, d2, d3] => { results := [.lit (.bool false)], args := [d1, d2, d3] }
  | _ => none }
def StoreRoundsWrongFalsely : Prop := storeRoundsRow.holds Tryz.pinned (OpenSpec.ofChange storeRoundsWrong)

/-- 'oubliettelaw26.StorePlays': WHATEVER THE INPUT: true; the input reads as it did. -/
def storePlaysSpec : ChangeSpec := { name := "storePlays", fn := fun _ => fun
  | [d1, d2, d3] => { results := [.lit (.bool true)], args := [d1, d2, d3] }
  | _ => none }
def storePlaysRow : OpenClaim := { program := "ytchcmklelmlbgaagreat", sum := "3cc81821549752d98e8e0beab0c69693aadffcc44a7f9149ceac802854370326", func := "oubliette/oubliettelaw26.StorePlays", spec := "storePlays", unfollowed := true, recurses := true, plainKeys := false, apart := false }
def StorePlaysSaid : Prop := storePlaysRow.holds Tryz.pinned (OpenSpec.ofChange storePlaysSpec)

/-- ITS FALSE NEIGHBOUR: 'it returns false'. Refute it at one input. -/
def storePlaysWrong : ChangeSpec := { name := "storePlays", fn := fun _ => fun
  | [d1, d2, d3] => { results := [.lit (.bool false)], args := [d1, d2, d3] }
  | _ => none }
def StorePlaysWrongFalsely : Prop := storePlaysRow.holds Tryz.pinned (OpenSpec.ofChange storePlaysWrong)

/-- 'oubliettelaw26.StoreNils': WHATEVER THE INPUT: true; the input reads as it did. -/
def storeNilsSpec : ChangeSpec := { name := "storeNils", fn := fun _ => fun
  | [d1, d2] => { results := [.lit (.bool true)], args := [d1, d2] }
  | _ => none }
def storeNilsRow : OpenClaim := { program := "ytchcmklelmlbgaagreat", sum := "3cc81821549752d98e8e0beab0c69693aadffcc44a7f9149ceac802854370326", func := "oubliette/oubliettelaw26.StoreNils", spec := "storeNils", unfollowed := true, recurses := true, plainKeys := false, apart := false }
def StoreNilsSaid : Prop := storeNilsRow.holds Tryz.pinned (OpenSpec.ofChange storeNilsSpec)

/-- ITS FALSE NEIGHBOUR: 'it returns false'. Refute it at one input. -/
def storeNilsWrong : ChangeSpec := { name := "storeNils", fn := fun _ => fun
  | [d1, d2] => { results := [.lit (.bool false)], args := [d1, d2] }
  | _ => none }
def StoreNilsWrongFalsely : Prop := storeNilsRow.holds Tryz.pinned (OpenSpec.ofChange storeNilsWrong)

/-- 'oubliettelaw26.StoreCrashes': WHATEVER THE INPUT: true; the input reads as it did. -/
def storeCrashesSpec : ChangeSpec := { name := "storeCrashes", fn := fun _ => fun
  | [d1, d2, d3, d4, d5, d6] => { results := [.lit (.bool true)], args := [d1, d2, d3, d4, d5, d6] }
  | _ => none }
def storeCrashesRow : OpenClaim := { program := "ytchcmklelmlbgaagreat", sum := "3cc81821549752d98e8e0beab0c69693aadffcc44a7f9149ceac802854370326", func := "oubliette/oubliettelaw26.StoreCrashes", spec := "storeCrashes", unfollowed := true, recurses := true, plainKeys := false, apart := false }
def StoreCrashesSaid : Prop := storeCrashesRow.holds Tryz.pinned (OpenSpec.ofChange storeCrashesSpec)

/-- ITS FALSE NEIGHBOUR: 'it returns false'. Refute it at one input. -/
def storeCrashesWrong : ChangeSpec := { name := "storeCrashes", fn := fun _ => fun
  | [d1, d2, d3, d4, d5, d6] => { results := [.lit (.bool false)], args := [d1, d2, d3, d4, d5, d6] }
  | _ => none }
def StoreCrashesWrongFalsely : Prop := storeCrashesRow.holds Tryz.pinned (OpenSpec.ofChange storeCrashesWrong)

/- THE SECOND FORM. 'bulk': how many values and letters a reading holds, each counted each time it is reached (what is shared counts as often as it is met; a slice's spare places count too). A statement '..UptoSaid' is the law's where the arguments, and the package variables that the reading takes, are together of bulk at most 1048576: NARROWER than '..Said'. Prove '..Said' where nothing that the law and all that it calls make is longer than what came in: it says more and counts as full. Else prove '..UptoSaid'. A law counts once. -/
mutual
def uptoBulk {H : Type} : DataW H → Nat
  | .lit (.string bytes) => bytes.length + 1
  | .lit _ => 1
  | .nil => 1
  | .ptr d => uptoBulk d + 1
  | .slice elems spare => uptoBulkAll elems + uptoBulkAll spare + 1
  | .agg parts => uptoBulkAll parts + 1
  | .iface _ d => uptoBulk d + 1
  | .map entries => uptoBulkEntries entries + 1
  | .held _ => 1
def uptoBulkAll {H : Type} : List (DataW H) → Nat
  | [] => 0
  | d :: r => uptoBulk d + uptoBulkAll r
def uptoBulkEntries {H : Type} : List (Lit × DataW H) → Nat
  | [] => 0
  | x :: r => uptoBulkEntry x + uptoBulkEntries r
def uptoBulkEntry {H : Type} : Lit × DataW H → Nat
  | (.string bytes, d) => bytes.length + uptoBulk d + 1
  | (_, d) => uptoBulk d + 1
 end
def uptoSmall : (H : Type) → List (DataW H) → Bool := fun _ ds => decide (uptoBulkAll ds ≤ 1048576)
def OpenSpec.upto (s : _root_.Go.ChangeSpec) : _root_.Go.OpenSpec := { _root_.Go.OpenSpec.ofChange s with cond := some uptoSmall }

/-- 'oubliettelaw26.StoreAnew', WHERE WHAT IT READS IS OF BULK AT MOST 1048576: true; the input reads as it did. -/
def storeAnewUptoRow : OpenClaim := { program := "ytchcmklelmlbgaagreat", sum := "3cc81821549752d98e8e0beab0c69693aadffcc44a7f9149ceac802854370326", func := "oubliette/oubliettelaw26.StoreAnew", spec := "storeAnew", unfollowed := true, recurses := true, plainKeys := false, apart := false, narrowed := true }
def StoreAnewUptoSaid : Prop := storeAnewUptoRow.holds Tryz.pinned (OpenSpec.upto storeAnewSpec)

/-- 'oubliettelaw26.StoreRounds', WHERE WHAT IT READS IS OF BULK AT MOST 1048576: true; the input reads as it did. -/
def storeRoundsUptoRow : OpenClaim := { program := "ytchcmklelmlbgaagreat", sum := "3cc81821549752d98e8e0beab0c69693aadffcc44a7f9149ceac802854370326", func := "oubliette/oubliettelaw26.StoreRounds", spec := "storeRounds", unfollowed := true, recurses := true, plainKeys := false, apart := false, narrowed := true }
def StoreRoundsUptoSaid : Prop := storeRoundsUptoRow.holds Tryz.pinned (OpenSpec.upto storeRoundsSpec)

/-- 'oubliettelaw26.StorePlays', WHERE WHAT IT READS IS OF BULK AT MOST 1048576: true; the input reads as it did. -/
def storePlaysUptoRow : OpenClaim := { program := "ytchcmklelmlbgaagreat", sum := "3cc81821549752d98e8e0beab0c69693aadffcc44a7f9149ceac802854370326", func := "oubliette/oubliettelaw26.StorePlays", spec := "storePlays", unfollowed := true, recurses := true, plainKeys := false, apart := false, narrowed := true }
def StorePlaysUptoSaid : Prop := storePlaysUptoRow.holds Tryz.pinned (OpenSpec.upto storePlaysSpec)

/-- 'oubliettelaw26.StoreNils', WHERE WHAT IT READS IS OF BULK AT MOST 1048576: true; the input reads as it did. -/
def storeNilsUptoRow : OpenClaim := { program := "ytchcmklelmlbgaagreat", sum := "3cc81821549752d98e8e0beab0c69693aadffcc44a7f9149ceac802854370326", func := "oubliette/oubliettelaw26.StoreNils", spec := "storeNils", unfollowed := true, recurses := true, plainKeys := false, apart := false, narrowed := true }
def StoreNilsUptoSaid : Prop := storeNilsUptoRow.holds Tryz.pinned (OpenSpec.upto storeNilsSpec)

/-- 'oubliettelaw26.StoreCrashes', WHERE WHAT IT READS IS OF BULK AT MOST 1048576: true; the input reads as it did. -/
def storeCrashesUptoRow : OpenClaim := { program := "ytchcmklelmlbgaagreat", sum := "3cc81821549752d98e8e0beab0c69693aadffcc44a7f9149ceac802854370326", func := "oubliette/oubliettelaw26.StoreCrashes", spec := "storeCrashes", unfollowed := true, recurses := true, plainKeys := false, apart := false, narrowed := true }
def StoreCrashesUptoSaid : Prop := storeCrashesUptoRow.holds Tryz.pinned (OpenSpec.upto storeCrashesSpec)

end Rows
end Go.Proofs.YtchcmklelmlbgaaGreat
