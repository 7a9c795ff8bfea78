/-
  DERIVED. GIVEN WITH THE SEED: THE CARDS: each row of YteecbjpnnklbpaaDoorRows.lean that lists a variable, with what it lists TIED to the program's text (the seventh form; the later family's looks); each row that meets fmt, with fmt's text TOLD by the authors' own Lean function (tested against real Go, not proved from fmt's source: count such statements apart). THE CARD IS WHAT COUNTS. Prove the row's statement (the work); the ties are given (YteecbjpnnklbpaaDoorTie.lean); close each card by the builder's one call (the guide's Derived/Test/ToyasCard.lean, 'card_holds'). Laid BY PROGRAM, IN A SANDBOX (cutbox-door.mjs). By AI agents, Wed Nov 11 2026. No macro, syntax, notation, axiom, sorry.
-/
import Derived.Test.YteecbjpnnklbpaaDoorRows
import GoSem.ClaimSeven
namespace Go.Proofs.YteecbjpnnklbpaaDoor
namespace Rows

/-- THE TIED CARD OF 'oubliettelaw02.UtfRunes'. -/
def utfRunesCard : Claim7 := { stood := { row := utfRunesRow, standIns := [], harness := (true, "6b5f62405d148ec6033da38259cda51aef21665ae918444fab999da4f2c7225b"), looks := false }, kinds := [], alts := [], laidByText := true, laidKinds := [.data, .pinned], laidTests := true, laidLooks := .later }
def UtfRunesCardSaid : Prop := Claim7.holds Tryd.pinned (.plain (OpenSpec.ofChange utfRunesSpec)) utfRunesCard

/-- THE TIED CARD OF 'oubliettelaw02.UtfFolds'. -/
def utfFoldsCard : Claim7 := { stood := { row := utfFoldsRow, standIns := [], harness := (true, "6b5f62405d148ec6033da38259cda51aef21665ae918444fab999da4f2c7225b"), looks := false }, kinds := [], alts := [], laidByText := true, laidKinds := [.data, .pinned], laidTests := true, laidLooks := .later }
def UtfFoldsCardSaid : Prop := Claim7.holds Tryd.pinned (.plain (OpenSpec.ofChange utfFoldsSpec)) utfFoldsCard

/-- THE TIED CARD OF 'oubliettelaw02.UtfBack'. -/
def utfBackCard : Claim7 := { stood := { row := utfBackRow, standIns := [], harness := (true, "6b5f62405d148ec6033da38259cda51aef21665ae918444fab999da4f2c7225b"), looks := false }, kinds := [], alts := [], laidByText := true, laidKinds := [.data, .pinned], laidTests := true, laidLooks := .later }
def UtfBackCardSaid : Prop := Claim7.holds Tryd.pinned (.plain (OpenSpec.ofChange utfBackSpec)) utfBackCard

/-- THE TIED CARD OF 'oubliettelaw13.BoxSeals'. -/
def boxSealsCard : Claim7 := { stood := { row := boxSealsRow, standIns := [], harness := (true, "6b5f62405d148ec6033da38259cda51aef21665ae918444fab999da4f2c7225b"), looks := false }, kinds := [], alts := [], laidByText := true, laidKinds := [.data], laidTests := true, laidLooks := .later }
def BoxSealsCardSaid : Prop := Claim7.holds Tryd.pinned (.plain (OpenSpec.ofChange boxSealsSpec)) boxSealsCard

/-- THE TIED CARD OF 'oubliettelaw13.BoxOpens'. -/
def boxOpensCard : Claim7 := { stood := { row := boxOpensRow, standIns := [], harness := (true, "6b5f62405d148ec6033da38259cda51aef21665ae918444fab999da4f2c7225b"), looks := false }, kinds := [], alts := [], laidByText := true, laidKinds := [.data], laidTests := true, laidLooks := .later }
def BoxOpensCardSaid : Prop := Claim7.holds Tryd.pinned (.plain (OpenSpec.ofChange boxOpensSpec)) boxOpensCard

/-- THE TIED CARD OF 'oubliettelaw13.BoxBack'. -/
def boxBackCard : Claim7 := { stood := { row := boxBackRow, standIns := [], harness := (true, "6b5f62405d148ec6033da38259cda51aef21665ae918444fab999da4f2c7225b"), looks := false }, kinds := [], alts := [], laidByText := true, laidKinds := [.data], laidTests := true, laidLooks := .later }
def BoxBackCardSaid : Prop := Claim7.holds Tryd.pinned (.plain (OpenSpec.ofChange boxBackSpec)) boxBackCard

/-- THE SECOND FORM's CARD OF 'oubliettelaw02.UtfRunes'. -/
def utfRunesUptoCard : Claim7 := { stood := { row := utfRunesUptoRow, standIns := [], harness := (true, "6b5f62405d148ec6033da38259cda51aef21665ae918444fab999da4f2c7225b"), looks := false }, kinds := [], alts := [], laidByText := true, laidKinds := [.data, .pinned], laidTests := true, laidLooks := .later }
def UtfRunesUptoCardSaid : Prop := Claim7.holds Tryd.pinned (.plain (OpenSpec.upto utfRunesSpec)) utfRunesUptoCard

/-- THE SECOND FORM's CARD OF 'oubliettelaw02.UtfFolds'. -/
def utfFoldsUptoCard : Claim7 := { stood := { row := utfFoldsUptoRow, standIns := [], harness := (true, "6b5f62405d148ec6033da38259cda51aef21665ae918444fab999da4f2c7225b"), looks := false }, kinds := [], alts := [], laidByText := true, laidKinds := [.data, .pinned], laidTests := true, laidLooks := .later }
def UtfFoldsUptoCardSaid : Prop := Claim7.holds Tryd.pinned (.plain (OpenSpec.upto utfFoldsSpec)) utfFoldsUptoCard

/-- THE SECOND FORM's CARD OF 'oubliettelaw02.UtfBack'. -/
def utfBackUptoCard : Claim7 := { stood := { row := utfBackUptoRow, standIns := [], harness := (true, "6b5f62405d148ec6033da38259cda51aef21665ae918444fab999da4f2c7225b"), looks := false }, kinds := [], alts := [], laidByText := true, laidKinds := [.data, .pinned], laidTests := true, laidLooks := .later }
def UtfBackUptoCardSaid : Prop := Claim7.holds Tryd.pinned (.plain (OpenSpec.upto utfBackSpec)) utfBackUptoCard

/-- THE SECOND FORM's CARD OF 'oubliettelaw13.BoxSeals'. -/
def boxSealsUptoCard : Claim7 := { stood := { row := boxSealsUptoRow, standIns := [], harness := (true, "6b5f62405d148ec6033da38259cda51aef21665ae918444fab999da4f2c7225b"), looks := false }, kinds := [], alts := [], laidByText := true, laidKinds := [.data], laidTests := true, laidLooks := .later }
def BoxSealsUptoCardSaid : Prop := Claim7.holds Tryd.pinned (.plain (OpenSpec.upto boxSealsSpec)) boxSealsUptoCard

/-- THE SECOND FORM's CARD OF 'oubliettelaw13.BoxOpens'. -/
def boxOpensUptoCard : Claim7 := { stood := { row := boxOpensUptoRow, standIns := [], harness := (true, "6b5f62405d148ec6033da38259cda51aef21665ae918444fab999da4f2c7225b"), looks := false }, kinds := [], alts := [], laidByText := true, laidKinds := [.data], laidTests := true, laidLooks := .later }
def BoxOpensUptoCardSaid : Prop := Claim7.holds Tryd.pinned (.plain (OpenSpec.upto boxOpensSpec)) boxOpensUptoCard

/-- THE SECOND FORM's CARD OF 'oubliettelaw13.BoxBack'. -/
def boxBackUptoCard : Claim7 := { stood := { row := boxBackUptoRow, standIns := [], harness := (true, "6b5f62405d148ec6033da38259cda51aef21665ae918444fab999da4f2c7225b"), looks := false }, kinds := [], alts := [], laidByText := true, laidKinds := [.data], laidTests := true, laidLooks := .later }
def BoxBackUptoCardSaid : Prop := Claim7.holds Tryd.pinned (.plain (OpenSpec.upto boxBackSpec)) boxBackUptoCard
end Rows
end Go.Proofs.YteecbjpnnklbpaaDoor
