/-
  No cell of these rows narrows 'for every input' (looked for: loops, veiled, ifaces, maps, wideKeys, modest, calm, conditions, laid).
  DERIVED. THE GIVEN ROWS OF THIS SEAT. 11 by the template 'for every input the law returns true; each argument reads behind the call as it read before'; 0 by the template 'total and deterministic' (their statements: YtknjkafjeicmbaaTotals.lean).
  GIVEN WITH THE SEED: the statements are not yours to turn. If you find one false, say at which input.
  Laid BY PROGRAM, IN A SANDBOX (cutbox-rows.mjs): the forced cells as the released guide's own fill.sh prints them over the translation 5087b79c9e79e2ef… (all of the seat's roots in one cut). By AI agents, Wed Nov 11 2026. No macro, syntax, notation, axiom, sorry.
-/
import Derived.Test.YtknjkafjeicmbaaChecked
import GoSem.Claim
import GoSem.ClaimJoined
import GoSem.ClaimMapViews
import Derived.JoinedTies
import Derived.KernelRfl
namespace Go.Proofs.Ytknjkafjeicmbaa
/- THE CELL 'sum', in the pinned program and in every row, IS THE sha256 OF THE DUMP (.gsa) THAT YtknjkafjeicmbaaProg.lean LOADS. Nothing in Lean hashes anything: it is a label: what it is worth is what the hold of that sum in a sandbox is worth. -/
noncomputable def Try.pinned : Pinned := { name := "ytknjkafjeicmbaa", sum := "5087b79c9e79e2ef641e3ed20beefa4bb8151da4f8ac57440241352eca668087", checked := Try.checked }
namespace Rows
def none {H : Type} : Left H := { results := [], args := [] }

/-- 'oubliettelaw06.CrcParts': WHATEVER THE INPUT: true; the input reads as it did. -/
def crcPartsSpec : ChangeSpec := { name := "crcParts", fn := fun _ => fun
  | [d1, d2] => { results := [.lit (.bool true)], args := [d1, d2] }
  | _ => none }
def crcPartsRow : OpenClaim := { program := "ytknjkafjeicmbaa", sum := "5087b79c9e79e2ef641e3ed20beefa4bb8151da4f8ac57440241352eca668087", func := "oubliette/oubliettelaw06.CrcParts", spec := "crcParts", unfollowed := true, recurses := true, apart := false }
def CrcPartsSaid : Prop := crcPartsRow.holds Try.pinned (OpenSpec.ofChange crcPartsSpec)

/-- ITS FALSE NEIGHBOUR: 'it returns false'. Refute it at one input. -/
def crcPartsWrong : ChangeSpec := { name := "crcParts", fn := fun _ => fun
  | [d1, d2] => { results := [.lit (.bool false)], args := [d1, d2] }
  | _ => none }
def CrcPartsWrongFalsely : Prop := crcPartsRow.holds Try.pinned (OpenSpec.ofChange crcPartsWrong)

/-- 'oubliettelaw06.CrcTurned': WHATEVER THE INPUT: true; the input reads as it did. -/
def crcTurnedSpec : ChangeSpec := { name := "crcTurned", fn := fun _ => fun
  | [d1, d2, d3] => { results := [.lit (.bool true)], args := [d1, d2, d3] }
  | _ => none }
def crcTurnedRow : OpenClaim := { program := "ytknjkafjeicmbaa", sum := "5087b79c9e79e2ef641e3ed20beefa4bb8151da4f8ac57440241352eca668087", func := "oubliette/oubliettelaw06.CrcTurned", spec := "crcTurned", unfollowed := true, recurses := true, apart := false }
def CrcTurnedSaid : Prop := crcTurnedRow.holds Try.pinned (OpenSpec.ofChange crcTurnedSpec)

/-- ITS FALSE NEIGHBOUR: 'it returns false'. Refute it at one input. -/
def crcTurnedWrong : ChangeSpec := { name := "crcTurned", fn := fun _ => fun
  | [d1, d2, d3] => { results := [.lit (.bool false)], args := [d1, d2, d3] }
  | _ => none }
def CrcTurnedWrongFalsely : Prop := crcTurnedRow.holds Try.pinned (OpenSpec.ofChange crcTurnedWrong)

/-- 'oubliettelaw06.CrcSums': WHATEVER THE INPUT: true; the input reads as it did. -/
def crcSumsSpec : ChangeSpec := { name := "crcSums", fn := fun _ => fun
  | [d1, d2] => { results := [.lit (.bool true)], args := [d1, d2] }
  | _ => none }
def crcSumsRow : OpenClaim := { program := "ytknjkafjeicmbaa", sum := "5087b79c9e79e2ef641e3ed20beefa4bb8151da4f8ac57440241352eca668087", func := "oubliette/oubliettelaw06.CrcSums", spec := "crcSums", unfollowed := true, recurses := true, apart := false }
def CrcSumsSaid : Prop := crcSumsRow.holds Try.pinned (OpenSpec.ofChange crcSumsSpec)

/-- ITS FALSE NEIGHBOUR: 'it returns false'. Refute it at one input. -/
def crcSumsWrong : ChangeSpec := { name := "crcSums", fn := fun _ => fun
  | [d1, d2] => { results := [.lit (.bool false)], args := [d1, d2] }
  | _ => none }
def CrcSumsWrongFalsely : Prop := crcSumsRow.holds Try.pinned (OpenSpec.ofChange crcSumsWrong)

/-- 'oubliettelaw21.GeomSizes': WHATEVER THE INPUT: true; the input reads as it did. -/
def geomSizesSpec : ChangeSpec := { name := "geomSizes", fn := fun _ => fun
  | [d] => { results := [.lit (.bool true)], args := [d] }
  | _ => none }
def geomSizesRow : OpenClaim := { program := "ytknjkafjeicmbaa", sum := "5087b79c9e79e2ef641e3ed20beefa4bb8151da4f8ac57440241352eca668087", func := "oubliette/oubliettelaw21.GeomSizes", spec := "geomSizes", apart := false }
def GeomSizesSaid : Prop := geomSizesRow.holds Try.pinned (OpenSpec.ofChange geomSizesSpec)

/-- ITS FALSE NEIGHBOUR: 'it returns false'. Refute it at one input. -/
def geomSizesWrong : ChangeSpec := { name := "geomSizes", fn := fun _ => fun
  | [d] => { results := [.lit (.bool false)], args := [d] }
  | _ => none }
def GeomSizesWrongFalsely : Prop := geomSizesRow.holds Try.pinned (OpenSpec.ofChange geomSizesWrong)

/-- 'oubliettelaw04.HexSizes': WHATEVER THE INPUT: true; the input reads as it did. -/
def hexSizesSpec : ChangeSpec := { name := "hexSizes", fn := fun _ => fun
  | [d1, d2] => { results := [.lit (.bool true)], args := [d1, d2] }
  | _ => none }
def hexSizesRow : OpenClaim := { program := "ytknjkafjeicmbaa", sum := "5087b79c9e79e2ef641e3ed20beefa4bb8151da4f8ac57440241352eca668087", func := "oubliette/oubliettelaw04.HexSizes", spec := "hexSizes", unfollowed := true, recurses := true, apart := false }
def HexSizesSaid : Prop := hexSizesRow.holds Try.pinned (OpenSpec.ofChange hexSizesSpec)

/-- ITS FALSE NEIGHBOUR: 'it returns false'. Refute it at one input. -/
def hexSizesWrong : ChangeSpec := { name := "hexSizes", fn := fun _ => fun
  | [d1, d2] => { results := [.lit (.bool false)], args := [d1, d2] }
  | _ => none }
def HexSizesWrongFalsely : Prop := hexSizesRow.holds Try.pinned (OpenSpec.ofChange hexSizesWrong)

/-- 'oubliettelaw10.GfNumbers': WHATEVER THE INPUT: true; the input reads as it did. -/
def gfNumbersSpec : ChangeSpec := { name := "gfNumbers", fn := fun _ => fun
  | [d1, d2, d3] => { results := [.lit (.bool true)], args := [d1, d2, d3] }
  | _ => none }
def gfNumbersRow : OpenClaim := { program := "ytknjkafjeicmbaa", sum := "5087b79c9e79e2ef641e3ed20beefa4bb8151da4f8ac57440241352eca668087", func := "oubliette/oubliettelaw10.GfNumbers", spec := "gfNumbers", apart := false }
def GfNumbersSaid : Prop := gfNumbersRow.holds Try.pinned (OpenSpec.ofChange gfNumbersSpec)

/-- ITS FALSE NEIGHBOUR: 'it returns false'. Refute it at one input. -/
def gfNumbersWrong : ChangeSpec := { name := "gfNumbers", fn := fun _ => fun
  | [d1, d2, d3] => { results := [.lit (.bool false)], args := [d1, d2, d3] }
  | _ => none }
def GfNumbersWrongFalsely : Prop := gfNumbersRow.holds Try.pinned (OpenSpec.ofChange gfNumbersWrong)

/-- 'oubliettelaw21.GeomApart': WHATEVER THE INPUT: true; the input reads as it did. -/
def geomApartSpec : ChangeSpec := { name := "geomApart", fn := fun _ => fun
  | [d] => { results := [.lit (.bool true)], args := [d] }
  | _ => none }
def geomApartRow : OpenClaim := { program := "ytknjkafjeicmbaa", sum := "5087b79c9e79e2ef641e3ed20beefa4bb8151da4f8ac57440241352eca668087", func := "oubliette/oubliettelaw21.GeomApart", spec := "geomApart", apart := false }
def GeomApartSaid : Prop := geomApartRow.holds Try.pinned (OpenSpec.ofChange geomApartSpec)

/-- ITS FALSE NEIGHBOUR: 'it returns false'. Refute it at one input. -/
def geomApartWrong : ChangeSpec := { name := "geomApart", fn := fun _ => fun
  | [d] => { results := [.lit (.bool false)], args := [d] }
  | _ => none }
def GeomApartWrongFalsely : Prop := geomApartRow.holds Try.pinned (OpenSpec.ofChange geomApartWrong)

/-- 'oubliettelaw10.GfBoxes': WHATEVER THE INPUT: true; the input reads as it did. -/
def gfBoxesSpec : ChangeSpec := { name := "gfBoxes", fn := fun _ => fun
  | [d1, d2] => { results := [.lit (.bool true)], args := [d1, d2] }
  | _ => none }
def gfBoxesRow : OpenClaim := { program := "ytknjkafjeicmbaa", sum := "5087b79c9e79e2ef641e3ed20beefa4bb8151da4f8ac57440241352eca668087", func := "oubliette/oubliettelaw10.GfBoxes", spec := "gfBoxes", unfollowed := true, recurses := true, apart := false }
def GfBoxesSaid : Prop := gfBoxesRow.holds Try.pinned (OpenSpec.ofChange gfBoxesSpec)

/-- ITS FALSE NEIGHBOUR: 'it returns false'. Refute it at one input. -/
def gfBoxesWrong : ChangeSpec := { name := "gfBoxes", fn := fun _ => fun
  | [d1, d2] => { results := [.lit (.bool false)], args := [d1, d2] }
  | _ => none }
def GfBoxesWrongFalsely : Prop := gfBoxesRow.holds Try.pinned (OpenSpec.ofChange gfBoxesWrong)

/-- 'oubliettelaw10.GfField': WHATEVER THE INPUT: true; the input reads as it did. -/
def gfFieldSpec : ChangeSpec := { name := "gfField", fn := fun _ => fun
  | [d1, d2, d3, d4] => { results := [.lit (.bool true)], args := [d1, d2, d3, d4] }
  | _ => none }
def gfFieldRow : OpenClaim := { program := "ytknjkafjeicmbaa", sum := "5087b79c9e79e2ef641e3ed20beefa4bb8151da4f8ac57440241352eca668087", func := "oubliette/oubliettelaw10.GfField", spec := "gfField", unfollowed := true, recurses := true, apart := false }
def GfFieldSaid : Prop := gfFieldRow.holds Try.pinned (OpenSpec.ofChange gfFieldSpec)

/-- ITS FALSE NEIGHBOUR: 'it returns false'. Refute it at one input. -/
def gfFieldWrong : ChangeSpec := { name := "gfField", fn := fun _ => fun
  | [d1, d2, d3, d4] => { results := [.lit (.bool false)], args := [d1, d2, d3, d4] }
  | _ => none }
def GfFieldWrongFalsely : Prop := gfFieldRow.holds Try.pinned (OpenSpec.ofChange gfFieldWrong)

/-- 'oubliettelaw04.HexBack': WHATEVER THE INPUT: true; the input reads as it did. -/
def hexBackSpec : ChangeSpec := { name := "hexBack", fn := fun _ => fun
  | [d1, d2, d3] => { results := [.lit (.bool true)], args := [d1, d2, d3] }
  | _ => none }
def hexBackRow : OpenClaim := { program := "ytknjkafjeicmbaa", sum := "5087b79c9e79e2ef641e3ed20beefa4bb8151da4f8ac57440241352eca668087", func := "oubliette/oubliettelaw04.HexBack", spec := "hexBack", unfollowed := true, recurses := true, apart := false }
def HexBackSaid : Prop := hexBackRow.holds Try.pinned (OpenSpec.ofChange hexBackSpec)

/-- ITS FALSE NEIGHBOUR: 'it returns false'. Refute it at one input. -/
def hexBackWrong : ChangeSpec := { name := "hexBack", fn := fun _ => fun
  | [d1, d2, d3] => { results := [.lit (.bool false)], args := [d1, d2, d3] }
  | _ => none }
def HexBackWrongFalsely : Prop := hexBackRow.holds Try.pinned (OpenSpec.ofChange hexBackWrong)

/-- 'oubliettelaw21.GeomPlaces': WHATEVER THE INPUT: true; the input reads as it did. -/
def geomPlacesSpec : ChangeSpec := { name := "geomPlaces", fn := fun _ => fun
  | [d1, d2, d3, d4] => { results := [.lit (.bool true)], args := [d1, d2, d3, d4] }
  | _ => none }
def geomPlacesRow : OpenClaim := { program := "ytknjkafjeicmbaa", sum := "5087b79c9e79e2ef641e3ed20beefa4bb8151da4f8ac57440241352eca668087", func := "oubliette/oubliettelaw21.GeomPlaces", spec := "geomPlaces", apart := false }
def GeomPlacesSaid : Prop := geomPlacesRow.holds Try.pinned (OpenSpec.ofChange geomPlacesSpec)

/-- ITS FALSE NEIGHBOUR: 'it returns false'. Refute it at one input. -/
def geomPlacesWrong : ChangeSpec := { name := "geomPlaces", fn := fun _ => fun
  | [d1, d2, d3, d4] => { results := [.lit (.bool false)], args := [d1, d2, d3, d4] }
  | _ => none }
def GeomPlacesWrongFalsely : Prop := geomPlacesRow.holds Try.pinned (OpenSpec.ofChange geomPlacesWrong)

/- THE SECOND FORM. 'bulk': how many values and letters a reading holds, each counted each time it is reached (what is shared counts as often as it is met; a slice's spare places count too). A statement '..UptoSaid' is the law's where the arguments, and the package variables that the reading takes, are together of bulk at most 1048576: NARROWER than '..Said'. Prove '..Said' where nothing that the law and all that it calls make is longer than what came in: it says more and counts as full. Else prove '..UptoSaid'. A law counts once. -/
mutual
def uptoBulk {H : Type} : DataW H → Nat
  | .lit (.string bytes) => bytes.length + 1
  | .lit _ => 1
  | .nil => 1
  | .ptr d => uptoBulk d + 1
  | .slice elems spare => uptoBulkAll elems + uptoBulkAll spare + 1
  | .agg parts => uptoBulkAll parts + 1
  | .iface _ d => uptoBulk d + 1
  | .map entries => uptoBulkEntries entries + 1
  | .held _ => 1
def uptoBulkAll {H : Type} : List (DataW H) → Nat
  | [] => 0
  | d :: r => uptoBulk d + uptoBulkAll r
def uptoBulkEntries {H : Type} : List (Lit × DataW H) → Nat
  | [] => 0
  | x :: r => uptoBulkEntry x + uptoBulkEntries r
def uptoBulkEntry {H : Type} : Lit × DataW H → Nat
  | (.string bytes, d) => bytes.length + uptoBulk d + 1
  | (_, d) => uptoBulk d + 1
 end
def uptoSmall : (H : Type) → List (DataW H) → Bool := fun _ ds => decide (uptoBulkAll ds ≤ 1048576)
def OpenSpec.upto (s : _root_.Go.ChangeSpec) : _root_.Go.OpenSpec := { _root_.Go.OpenSpec.ofChange s with cond := some uptoSmall }

/-- 'oubliettelaw06.CrcParts', WHERE WHAT IT READS IS OF BULK AT MOST 1048576: true; the input reads as it did. -/
def crcPartsUptoRow : OpenClaim := { program := "ytknjkafjeicmbaa", sum := "5087b79c9e79e2ef641e3ed20beefa4bb8151da4f8ac57440241352eca668087", func := "oubliette/oubliettelaw06.CrcParts", spec := "crcParts", unfollowed := true, recurses := true, apart := false, narrowed := true }
def CrcPartsUptoSaid : Prop := crcPartsUptoRow.holds Try.pinned (OpenSpec.upto crcPartsSpec)

/-- 'oubliettelaw06.CrcTurned', WHERE WHAT IT READS IS OF BULK AT MOST 1048576: true; the input reads as it did. -/
def crcTurnedUptoRow : OpenClaim := { program := "ytknjkafjeicmbaa", sum := "5087b79c9e79e2ef641e3ed20beefa4bb8151da4f8ac57440241352eca668087", func := "oubliette/oubliettelaw06.CrcTurned", spec := "crcTurned", unfollowed := true, recurses := true, apart := false, narrowed := true }
def CrcTurnedUptoSaid : Prop := crcTurnedUptoRow.holds Try.pinned (OpenSpec.upto crcTurnedSpec)

/-- 'oubliettelaw06.CrcSums', WHERE WHAT IT READS IS OF BULK AT MOST 1048576: true; the input reads as it did. -/
def crcSumsUptoRow : OpenClaim := { program := "ytknjkafjeicmbaa", sum := "5087b79c9e79e2ef641e3ed20beefa4bb8151da4f8ac57440241352eca668087", func := "oubliette/oubliettelaw06.CrcSums", spec := "crcSums", unfollowed := true, recurses := true, apart := false, narrowed := true }
def CrcSumsUptoSaid : Prop := crcSumsUptoRow.holds Try.pinned (OpenSpec.upto crcSumsSpec)

/-- 'oubliettelaw21.GeomSizes', WHERE WHAT IT READS IS OF BULK AT MOST 1048576: true; the input reads as it did. -/
def geomSizesUptoRow : OpenClaim := { program := "ytknjkafjeicmbaa", sum := "5087b79c9e79e2ef641e3ed20beefa4bb8151da4f8ac57440241352eca668087", func := "oubliette/oubliettelaw21.GeomSizes", spec := "geomSizes", apart := false, narrowed := true }
def GeomSizesUptoSaid : Prop := geomSizesUptoRow.holds Try.pinned (OpenSpec.upto geomSizesSpec)

/-- 'oubliettelaw04.HexSizes', WHERE WHAT IT READS IS OF BULK AT MOST 1048576: true; the input reads as it did. -/
def hexSizesUptoRow : OpenClaim := { program := "ytknjkafjeicmbaa", sum := "5087b79c9e79e2ef641e3ed20beefa4bb8151da4f8ac57440241352eca668087", func := "oubliette/oubliettelaw04.HexSizes", spec := "hexSizes", unfollowed := true, recurses := true, apart := false, narrowed := true }
def HexSizesUptoSaid : Prop := hexSizesUptoRow.holds Try.pinned (OpenSpec.upto hexSizesSpec)

/-- 'oubliettelaw10.GfNumbers', WHERE WHAT IT READS IS OF BULK AT MOST 1048576: true; the input reads as it did. -/
def gfNumbersUptoRow : OpenClaim := { program := "ytknjkafjeicmbaa", sum := "5087b79c9e79e2ef641e3ed20beefa4bb8151da4f8ac57440241352eca668087", func := "oubliette/oubliettelaw10.GfNumbers", spec := "gfNumbers", apart := false, narrowed := true }
def GfNumbersUptoSaid : Prop := gfNumbersUptoRow.holds Try.pinned (OpenSpec.upto gfNumbersSpec)

/-- 'oubliettelaw21.GeomApart', WHERE WHAT IT READS IS OF BULK AT MOST 1048576: true; the input reads as it did. -/
def geomApartUptoRow : OpenClaim := { program := "ytknjkafjeicmbaa", sum := "5087b79c9e79e2ef641e3ed20beefa4bb8151da4f8ac57440241352eca668087", func := "oubliette/oubliettelaw21.GeomApart", spec := "geomApart", apart := false, narrowed := true }
def GeomApartUptoSaid : Prop := geomApartUptoRow.holds Try.pinned (OpenSpec.upto geomApartSpec)

/-- 'oubliettelaw10.GfBoxes', WHERE WHAT IT READS IS OF BULK AT MOST 1048576: true; the input reads as it did. -/
def gfBoxesUptoRow : OpenClaim := { program := "ytknjkafjeicmbaa", sum := "5087b79c9e79e2ef641e3ed20beefa4bb8151da4f8ac57440241352eca668087", func := "oubliette/oubliettelaw10.GfBoxes", spec := "gfBoxes", unfollowed := true, recurses := true, apart := false, narrowed := true }
def GfBoxesUptoSaid : Prop := gfBoxesUptoRow.holds Try.pinned (OpenSpec.upto gfBoxesSpec)

/-- 'oubliettelaw10.GfField', WHERE WHAT IT READS IS OF BULK AT MOST 1048576: true; the input reads as it did. -/
def gfFieldUptoRow : OpenClaim := { program := "ytknjkafjeicmbaa", sum := "5087b79c9e79e2ef641e3ed20beefa4bb8151da4f8ac57440241352eca668087", func := "oubliette/oubliettelaw10.GfField", spec := "gfField", unfollowed := true, recurses := true, apart := false, narrowed := true }
def GfFieldUptoSaid : Prop := gfFieldUptoRow.holds Try.pinned (OpenSpec.upto gfFieldSpec)

/-- 'oubliettelaw04.HexBack', WHERE WHAT IT READS IS OF BULK AT MOST 1048576: true; the input reads as it did. -/
def hexBackUptoRow : OpenClaim := { program := "ytknjkafjeicmbaa", sum := "5087b79c9e79e2ef641e3ed20beefa4bb8151da4f8ac57440241352eca668087", func := "oubliette/oubliettelaw04.HexBack", spec := "hexBack", unfollowed := true, recurses := true, apart := false, narrowed := true }
def HexBackUptoSaid : Prop := hexBackUptoRow.holds Try.pinned (OpenSpec.upto hexBackSpec)

/-- 'oubliettelaw21.GeomPlaces', WHERE WHAT IT READS IS OF BULK AT MOST 1048576: true; the input reads as it did. -/
def geomPlacesUptoRow : OpenClaim := { program := "ytknjkafjeicmbaa", sum := "5087b79c9e79e2ef641e3ed20beefa4bb8151da4f8ac57440241352eca668087", func := "oubliette/oubliettelaw21.GeomPlaces", spec := "geomPlaces", apart := false, narrowed := true }
def GeomPlacesUptoSaid : Prop := geomPlacesUptoRow.holds Try.pinned (OpenSpec.upto geomPlacesSpec)

end Rows
end Go.Proofs.Ytknjkafjeicmbaa
