/-
  DERIVED. GIVEN WITH THE SEED: THE CARDS: each row of YtggldbadefbdaaaDoorRows.lean that lists a variable, with what it lists TIED to the program's text (the seventh form; the later family's looks); each row that meets fmt, with fmt's text TOLD by the authors' own Lean function (tested against real Go, not proved from fmt's source: count such statements apart). THE CARD IS WHAT COUNTS. Prove the row's statement (the work); the ties are given (YtggldbadefbdaaaDoorTie.lean); close each card by the builder's one call (the guide's Derived/Test/ToyasCard.lean, 'card_holds'). Laid BY PROGRAM, IN A SANDBOX (cutbox-door.mjs). By AI agents, Wed Nov 11 2026. No macro, syntax, notation, axiom, sorry.
-/
import Derived.Test.YtggldbadefbdaaaDoorRows
import GoSem.ClaimSeven
namespace Go.Proofs.YtggldbadefbdaaaDoor
namespace Rows

/-- THE TIED CARD OF 'oubliettelaw07.ShaBlocks'. -/
def shaBlocksCard : Claim7 := { stood := { row := shaBlocksRow, standIns := [], harness := (true, "b6773f1c79f989605fb91fed4278d1f7b7256c3a86e48bf40c68c92d12533341"), looks := false }, kinds := [], alts := [], laidByText := true, laidKinds := [.data], laidTests := true, laidLooks := .later }
def ShaBlocksCardSaid : Prop := Claim7.holds Tryd.pinned (.plain (OpenSpec.ofChange shaBlocksSpec)) shaBlocksCard

/-- THE TIED CARD OF 'oubliettelaw07.ShaSums'. -/
def shaSumsCard : Claim7 := { stood := { row := shaSumsRow, standIns := [], harness := (true, "b6773f1c79f989605fb91fed4278d1f7b7256c3a86e48bf40c68c92d12533341"), looks := false }, kinds := [], alts := [], laidByText := true, laidKinds := [.data], laidTests := true, laidLooks := .later }
def ShaSumsCardSaid : Prop := Claim7.holds Tryd.pinned (.plain (OpenSpec.ofChange shaSumsSpec)) shaSumsCard

/-- THE TIED CARD OF 'oubliettelaw07.ShaWhole'. -/
def shaWholeCard : Claim7 := { stood := { row := shaWholeRow, standIns := [], harness := (true, "b6773f1c79f989605fb91fed4278d1f7b7256c3a86e48bf40c68c92d12533341"), looks := false }, kinds := [], alts := [], laidByText := true, laidKinds := [.data], laidTests := true, laidLooks := .later }
def ShaWholeCardSaid : Prop := Claim7.holds Tryd.pinned (.plain (OpenSpec.ofChange shaWholeSpec)) shaWholeCard

/-- THE TIED CARD OF 'oubliettelaw07.ShaNumbers'. -/
def shaNumbersCard : Claim7 := { stood := { row := shaNumbersRow, standIns := [], harness := (true, "b6773f1c79f989605fb91fed4278d1f7b7256c3a86e48bf40c68c92d12533341"), looks := false }, kinds := [], alts := [], laidByText := true, laidKinds := [.data], laidTests := true, laidLooks := .later }
def ShaNumbersCardSaid : Prop := Claim7.holds Tryd.pinned (.plain (OpenSpec.ofChange shaNumbersSpec)) shaNumbersCard

/-- THE TIED CARD OF 'oubliettelaw08.MacKeys'. -/
def macKeysCard : Claim7 := { stood := { row := macKeysRow, standIns := [], harness := (true, "b6773f1c79f989605fb91fed4278d1f7b7256c3a86e48bf40c68c92d12533341"), looks := false }, kinds := [], alts := [], laidByText := true, laidKinds := [.data], laidTests := true, laidLooks := .later }
def MacKeysCardSaid : Prop := Claim7.holds Tryd.pinned (.plain (OpenSpec.ofChange macKeysSpec)) macKeysCard

/-- THE TIED CARD OF 'oubliettelaw08.MacTags'. -/
def macTagsCard : Claim7 := { stood := { row := macTagsRow, standIns := [], harness := (true, "b6773f1c79f989605fb91fed4278d1f7b7256c3a86e48bf40c68c92d12533341"), looks := false }, kinds := [], alts := [], laidByText := true, laidKinds := [.data], laidTests := true, laidLooks := .later }
def MacTagsCardSaid : Prop := Claim7.holds Tryd.pinned (.plain (OpenSpec.ofChange macTagsSpec)) macTagsCard

/-- THE TIED CARD OF 'oubliettelaw08.MacParts'. -/
def macPartsCard : Claim7 := { stood := { row := macPartsRow, standIns := [], harness := (true, "b6773f1c79f989605fb91fed4278d1f7b7256c3a86e48bf40c68c92d12533341"), looks := false }, kinds := [], alts := [], laidByText := true, laidKinds := [.data], laidTests := true, laidLooks := .later }
def MacPartsCardSaid : Prop := Claim7.holds Tryd.pinned (.plain (OpenSpec.ofChange macPartsSpec)) macPartsCard

/-- THE TIED CARD OF 'oubliettelaw09.KdfBytes'. -/
def kdfBytesCard : Claim7 := { stood := { row := kdfBytesRow, standIns := [], harness := (true, "b6773f1c79f989605fb91fed4278d1f7b7256c3a86e48bf40c68c92d12533341"), looks := false }, kinds := [], alts := [], laidByText := true, laidKinds := [.data], laidTests := true, laidLooks := .later }
def KdfBytesCardSaid : Prop := Claim7.holds Tryd.pinned (.plain (OpenSpec.ofChange kdfBytesSpec)) kdfBytesCard

/-- THE TIED CARD OF 'oubliettelaw09.KdfFewer'. -/
def kdfFewerCard : Claim7 := { stood := { row := kdfFewerRow, standIns := [], harness := (true, "b6773f1c79f989605fb91fed4278d1f7b7256c3a86e48bf40c68c92d12533341"), looks := false }, kinds := [], alts := [], laidByText := true, laidKinds := [.data], laidTests := true, laidLooks := .later }
def KdfFewerCardSaid : Prop := Claim7.holds Tryd.pinned (.plain (OpenSpec.ofChange kdfFewerSpec)) kdfFewerCard

/-- THE TIED CARD OF 'oubliettelaw09.KdfKeys'. -/
def kdfKeysCard : Claim7 := { stood := { row := kdfKeysRow, standIns := [], harness := (true, "b6773f1c79f989605fb91fed4278d1f7b7256c3a86e48bf40c68c92d12533341"), looks := false }, kinds := [], alts := [], laidByText := true, laidKinds := [.data], laidTests := true, laidLooks := .later }
def KdfKeysCardSaid : Prop := Claim7.holds Tryd.pinned (.plain (OpenSpec.ofChange kdfKeysSpec)) kdfKeysCard

/-- THE SECOND FORM's CARD OF 'oubliettelaw07.ShaBlocks'. -/
def shaBlocksUptoCard : Claim7 := { stood := { row := shaBlocksUptoRow, standIns := [], harness := (true, "b6773f1c79f989605fb91fed4278d1f7b7256c3a86e48bf40c68c92d12533341"), looks := false }, kinds := [], alts := [], laidByText := true, laidKinds := [.data], laidTests := true, laidLooks := .later }
def ShaBlocksUptoCardSaid : Prop := Claim7.holds Tryd.pinned (.plain (OpenSpec.upto shaBlocksSpec)) shaBlocksUptoCard

/-- THE SECOND FORM's CARD OF 'oubliettelaw07.ShaSums'. -/
def shaSumsUptoCard : Claim7 := { stood := { row := shaSumsUptoRow, standIns := [], harness := (true, "b6773f1c79f989605fb91fed4278d1f7b7256c3a86e48bf40c68c92d12533341"), looks := false }, kinds := [], alts := [], laidByText := true, laidKinds := [.data], laidTests := true, laidLooks := .later }
def ShaSumsUptoCardSaid : Prop := Claim7.holds Tryd.pinned (.plain (OpenSpec.upto shaSumsSpec)) shaSumsUptoCard

/-- THE SECOND FORM's CARD OF 'oubliettelaw07.ShaWhole'. -/
def shaWholeUptoCard : Claim7 := { stood := { row := shaWholeUptoRow, standIns := [], harness := (true, "b6773f1c79f989605fb91fed4278d1f7b7256c3a86e48bf40c68c92d12533341"), looks := false }, kinds := [], alts := [], laidByText := true, laidKinds := [.data], laidTests := true, laidLooks := .later }
def ShaWholeUptoCardSaid : Prop := Claim7.holds Tryd.pinned (.plain (OpenSpec.upto shaWholeSpec)) shaWholeUptoCard

/-- THE SECOND FORM's CARD OF 'oubliettelaw07.ShaNumbers'. -/
def shaNumbersUptoCard : Claim7 := { stood := { row := shaNumbersUptoRow, standIns := [], harness := (true, "b6773f1c79f989605fb91fed4278d1f7b7256c3a86e48bf40c68c92d12533341"), looks := false }, kinds := [], alts := [], laidByText := true, laidKinds := [.data], laidTests := true, laidLooks := .later }
def ShaNumbersUptoCardSaid : Prop := Claim7.holds Tryd.pinned (.plain (OpenSpec.upto shaNumbersSpec)) shaNumbersUptoCard

/-- THE SECOND FORM's CARD OF 'oubliettelaw08.MacKeys'. -/
def macKeysUptoCard : Claim7 := { stood := { row := macKeysUptoRow, standIns := [], harness := (true, "b6773f1c79f989605fb91fed4278d1f7b7256c3a86e48bf40c68c92d12533341"), looks := false }, kinds := [], alts := [], laidByText := true, laidKinds := [.data], laidTests := true, laidLooks := .later }
def MacKeysUptoCardSaid : Prop := Claim7.holds Tryd.pinned (.plain (OpenSpec.upto macKeysSpec)) macKeysUptoCard

/-- THE SECOND FORM's CARD OF 'oubliettelaw08.MacTags'. -/
def macTagsUptoCard : Claim7 := { stood := { row := macTagsUptoRow, standIns := [], harness := (true, "b6773f1c79f989605fb91fed4278d1f7b7256c3a86e48bf40c68c92d12533341"), looks := false }, kinds := [], alts := [], laidByText := true, laidKinds := [.data], laidTests := true, laidLooks := .later }
def MacTagsUptoCardSaid : Prop := Claim7.holds Tryd.pinned (.plain (OpenSpec.upto macTagsSpec)) macTagsUptoCard

/-- THE SECOND FORM's CARD OF 'oubliettelaw08.MacParts'. -/
def macPartsUptoCard : Claim7 := { stood := { row := macPartsUptoRow, standIns := [], harness := (true, "b6773f1c79f989605fb91fed4278d1f7b7256c3a86e48bf40c68c92d12533341"), looks := false }, kinds := [], alts := [], laidByText := true, laidKinds := [.data], laidTests := true, laidLooks := .later }
def MacPartsUptoCardSaid : Prop := Claim7.holds Tryd.pinned (.plain (OpenSpec.upto macPartsSpec)) macPartsUptoCard

/-- THE SECOND FORM's CARD OF 'oubliettelaw09.KdfBytes'. -/
def kdfBytesUptoCard : Claim7 := { stood := { row := kdfBytesUptoRow, standIns := [], harness := (true, "b6773f1c79f989605fb91fed4278d1f7b7256c3a86e48bf40c68c92d12533341"), looks := false }, kinds := [], alts := [], laidByText := true, laidKinds := [.data], laidTests := true, laidLooks := .later }
def KdfBytesUptoCardSaid : Prop := Claim7.holds Tryd.pinned (.plain (OpenSpec.upto kdfBytesSpec)) kdfBytesUptoCard

/-- THE SECOND FORM's CARD OF 'oubliettelaw09.KdfFewer'. -/
def kdfFewerUptoCard : Claim7 := { stood := { row := kdfFewerUptoRow, standIns := [], harness := (true, "b6773f1c79f989605fb91fed4278d1f7b7256c3a86e48bf40c68c92d12533341"), looks := false }, kinds := [], alts := [], laidByText := true, laidKinds := [.data], laidTests := true, laidLooks := .later }
def KdfFewerUptoCardSaid : Prop := Claim7.holds Tryd.pinned (.plain (OpenSpec.upto kdfFewerSpec)) kdfFewerUptoCard

/-- THE SECOND FORM's CARD OF 'oubliettelaw09.KdfKeys'. -/
def kdfKeysUptoCard : Claim7 := { stood := { row := kdfKeysUptoRow, standIns := [], harness := (true, "b6773f1c79f989605fb91fed4278d1f7b7256c3a86e48bf40c68c92d12533341"), looks := false }, kinds := [], alts := [], laidByText := true, laidKinds := [.data], laidTests := true, laidLooks := .later }
def KdfKeysUptoCardSaid : Prop := Claim7.holds Tryd.pinned (.plain (OpenSpec.upto kdfKeysSpec)) kdfKeysUptoCard
end Rows
end Go.Proofs.YtggldbadefbdaaaDoor
