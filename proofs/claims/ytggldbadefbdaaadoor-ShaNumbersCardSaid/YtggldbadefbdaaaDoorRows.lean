/-
  NARROWER THAN 'FOR EVERY INPUT', by the rows' own cells (each row's printed sentence says how): ShaBlocks: laid · ShaSums: laid · ShaWhole: laid · ShaNumbers: laid · MacKeys: laid · MacTags: laid · MacParts: laid · KdfBytes: laid · KdfFewer: laid · KdfKeys: laid.
  DERIVED. THE GIVEN ROWS OF THIS SEAT. 10 by the template 'for every input the law returns true; each argument reads behind the call as it read before'; 0 by the template 'total and deterministic' (their statements: YtggldbadefbdaaaDoorTotals.lean).
  GIVEN WITH THE SEED: the statements are not yours to turn. If you find one false, say at which input.
  Laid BY PROGRAM, IN A SANDBOX (cutbox-rows.mjs): the forced cells as the released guide's own fill.sh prints them over the translation 137f65ca2e77e191… (all of the seat's roots in one cut). By AI agents, Wed Nov 11 2026. No macro, syntax, notation, axiom, sorry.
-/
import Derived.Test.YtggldbadefbdaaaDoorChecked
import GoSem.Claim
import GoSem.ClaimJoined
import GoSem.ClaimMapViews
import Derived.JoinedTies
import Derived.KernelRfl
namespace Go.Proofs.YtggldbadefbdaaaDoor
/- THE CELL 'sum', in the pinned program and in every row, IS THE sha256 OF THE DUMP (.gsa) THAT YtggldbadefbdaaaDoorProg.lean LOADS. Nothing in Lean hashes anything: it is a label: what it is worth is what the hold of that sum in a sandbox is worth. -/
noncomputable def Tryd.pinned : Pinned := { name := "ytggldbadefbdaaadoor", sum := "137f65ca2e77e191fc5275ff7fd8dcac28265e19747718c3cd1bb07ef1b64112", checked := Tryd.checked }
namespace Rows
def none {H : Type} : Left H := { results := [], args := [] }

/- WHAT THE LISTED PACKAGE-LEVEL VARIABLES READ AS WHEN THE CALL BEGINS. Each datum BY PROGRAM (the guide's laid-datum.mjs) off the statement by which the dump's own 'gosem.cut.vars' lays the variable. In a bare row this is a premise. The card (YtggldbadefbdaaaDoorCards.lean) ties it to the program's text. -/
def laid_oubliette_sha_k {H : Type} : DataW H := .agg [.lit (.int .u32 1116352408), .lit (.int .u32 1899447441), .lit (.int .u32 3049323471), .lit (.int .u32 3921009573), .lit (.int .u32 961987163), .lit (.int .u32 1508970993), .lit (.int .u32 2453635748), .lit (.int .u32 2870763221), .lit (.int .u32 3624381080), .lit (.int .u32 310598401), .lit (.int .u32 607225278), .lit (.int .u32 1426881987), .lit (.int .u32 1925078388), .lit (.int .u32 2162078206), .lit (.int .u32 2614888103), .lit (.int .u32 3248222580), .lit (.int .u32 3835390401), .lit (.int .u32 4022224774), .lit (.int .u32 264347078), .lit (.int .u32 604807628), .lit (.int .u32 770255983), .lit (.int .u32 1249150122), .lit (.int .u32 1555081692), .lit (.int .u32 1996064986), .lit (.int .u32 2554220882), .lit (.int .u32 2821834349), .lit (.int .u32 2952996808), .lit (.int .u32 3210313671), .lit (.int .u32 3336571891), .lit (.int .u32 3584528711), .lit (.int .u32 113926993), .lit (.int .u32 338241895), .lit (.int .u32 666307205), .lit (.int .u32 773529912), .lit (.int .u32 1294757372), .lit (.int .u32 1396182291), .lit (.int .u32 1695183700), .lit (.int .u32 1986661051), .lit (.int .u32 2177026350), .lit (.int .u32 2456956037), .lit (.int .u32 2730485921), .lit (.int .u32 2820302411), .lit (.int .u32 3259730800), .lit (.int .u32 3345764771), .lit (.int .u32 3516065817), .lit (.int .u32 3600352804), .lit (.int .u32 4094571909), .lit (.int .u32 275423344), .lit (.int .u32 430227734), .lit (.int .u32 506948616), .lit (.int .u32 659060556), .lit (.int .u32 883997877), .lit (.int .u32 958139571), .lit (.int .u32 1322822218), .lit (.int .u32 1537002063), .lit (.int .u32 1747873779), .lit (.int .u32 1955562222), .lit (.int .u32 2024104815), .lit (.int .u32 2227730452), .lit (.int .u32 2361852424), .lit (.int .u32 2428436474), .lit (.int .u32 2756734187), .lit (.int .u32 3204031479), .lit (.int .u32 3329325298)]

/-- 'oubliettelaw07.ShaBlocks': WHATEVER THE INPUT: true; the input reads as it did. -/
def shaBlocksSpec : ChangeSpec := { name := "shaBlocks", fn := fun _ => fun
  | [d1, d2, d3] => { results := [.lit (.bool true)], args := [d1, d2, d3] }
  | _ => none }
def shaBlocksRow : OpenClaim := { program := "ytggldbadefbdaaadoor", sum := "137f65ca2e77e191fc5275ff7fd8dcac28265e19747718c3cd1bb07ef1b64112", func := "oubliette/oubliettelaw07.ShaBlocks", spec := "shaBlocks", unfollowed := true, recurses := true, named := ["oubliette/sha.k"], apart := false, laid := [("oubliette/sha.k", laid_oubliette_sha_k)] }
def ShaBlocksSaid : Prop := shaBlocksRow.holds Tryd.pinned (OpenSpec.ofChange shaBlocksSpec)

/-- ITS FALSE NEIGHBOUR: 'it returns false'. Refute it at one input. -/
def shaBlocksWrong : ChangeSpec := { name := "shaBlocks", fn := fun _ => fun
  | [d1, d2, d3] => { results := [.lit (.bool false)], args := [d1, d2, d3] }
  | _ => none }
def ShaBlocksWrongFalsely : Prop := shaBlocksRow.holds Tryd.pinned (OpenSpec.ofChange shaBlocksWrong)

/-- 'oubliettelaw07.ShaSums': WHATEVER THE INPUT: true; the input reads as it did. -/
def shaSumsSpec : ChangeSpec := { name := "shaSums", fn := fun _ => fun
  | [d] => { results := [.lit (.bool true)], args := [d] }
  | _ => none }
def shaSumsRow : OpenClaim := { program := "ytggldbadefbdaaadoor", sum := "137f65ca2e77e191fc5275ff7fd8dcac28265e19747718c3cd1bb07ef1b64112", func := "oubliette/oubliettelaw07.ShaSums", spec := "shaSums", unfollowed := true, recurses := true, named := ["oubliette/sha.k"], apart := false, laid := [("oubliette/sha.k", laid_oubliette_sha_k)] }
def ShaSumsSaid : Prop := shaSumsRow.holds Tryd.pinned (OpenSpec.ofChange shaSumsSpec)

/-- ITS FALSE NEIGHBOUR: 'it returns false'. Refute it at one input. -/
def shaSumsWrong : ChangeSpec := { name := "shaSums", fn := fun _ => fun
  | [d] => { results := [.lit (.bool false)], args := [d] }
  | _ => none }
def ShaSumsWrongFalsely : Prop := shaSumsRow.holds Tryd.pinned (OpenSpec.ofChange shaSumsWrong)

/-- 'oubliettelaw07.ShaWhole': WHATEVER THE INPUT: true; the input reads as it did. -/
def shaWholeSpec : ChangeSpec := { name := "shaWhole", fn := fun _ => fun
  | [d] => { results := [.lit (.bool true)], args := [d] }
  | _ => none }
def shaWholeRow : OpenClaim := { program := "ytggldbadefbdaaadoor", sum := "137f65ca2e77e191fc5275ff7fd8dcac28265e19747718c3cd1bb07ef1b64112", func := "oubliette/oubliettelaw07.ShaWhole", spec := "shaWhole", unfollowed := true, recurses := true, named := ["oubliette/sha.k"], apart := false, laid := [("oubliette/sha.k", laid_oubliette_sha_k)] }
def ShaWholeSaid : Prop := shaWholeRow.holds Tryd.pinned (OpenSpec.ofChange shaWholeSpec)

/-- ITS FALSE NEIGHBOUR: 'it returns false'. Refute it at one input. -/
def shaWholeWrong : ChangeSpec := { name := "shaWhole", fn := fun _ => fun
  | [d] => { results := [.lit (.bool false)], args := [d] }
  | _ => none }
def ShaWholeWrongFalsely : Prop := shaWholeRow.holds Tryd.pinned (OpenSpec.ofChange shaWholeWrong)

/-- 'oubliettelaw07.ShaNumbers': WHATEVER THE INPUT: true; the input reads as it did. -/
def shaNumbersSpec : ChangeSpec := { name := "shaNumbers", fn := fun _ => fun
  | [d] => { results := [.lit (.bool true)], args := [d] }
  | _ => none }
def shaNumbersRow : OpenClaim := { program := "ytggldbadefbdaaadoor", sum := "137f65ca2e77e191fc5275ff7fd8dcac28265e19747718c3cd1bb07ef1b64112", func := "oubliette/oubliettelaw07.ShaNumbers", spec := "shaNumbers", unfollowed := true, recurses := true, named := ["oubliette/sha.k"], apart := false, laid := [("oubliette/sha.k", laid_oubliette_sha_k)] }
def ShaNumbersSaid : Prop := shaNumbersRow.holds Tryd.pinned (OpenSpec.ofChange shaNumbersSpec)

/-- ITS FALSE NEIGHBOUR: 'it returns false'. Refute it at one input. -/
def shaNumbersWrong : ChangeSpec := { name := "shaNumbers", fn := fun _ => fun
  | [d] => { results := [.lit (.bool false)], args := [d] }
  | _ => none }
def ShaNumbersWrongFalsely : Prop := shaNumbersRow.holds Tryd.pinned (OpenSpec.ofChange shaNumbersWrong)

/-- 'oubliettelaw08.MacKeys': WHATEVER THE INPUT: true; the input reads as it did. -/
def macKeysSpec : ChangeSpec := { name := "macKeys", fn := fun _ => fun
  | [d1, d2, d3] => { results := [.lit (.bool true)], args := [d1, d2, d3] }
  | _ => none }
def macKeysRow : OpenClaim := { program := "ytggldbadefbdaaadoor", sum := "137f65ca2e77e191fc5275ff7fd8dcac28265e19747718c3cd1bb07ef1b64112", func := "oubliette/oubliettelaw08.MacKeys", spec := "macKeys", inPlace := ["internal/bytealg.MakeNoZero"], unfollowed := true, recurses := true, named := ["oubliette/sha.k"], apart := false, laid := [("oubliette/sha.k", laid_oubliette_sha_k)] }
def MacKeysSaid : Prop := macKeysRow.holds Tryd.pinned (OpenSpec.ofChange macKeysSpec)

/-- ITS FALSE NEIGHBOUR: 'it returns false'. Refute it at one input. -/
def macKeysWrong : ChangeSpec := { name := "macKeys", fn := fun _ => fun
  | [d1, d2, d3] => { results := [.lit (.bool false)], args := [d1, d2, d3] }
  | _ => none }
def MacKeysWrongFalsely : Prop := macKeysRow.holds Tryd.pinned (OpenSpec.ofChange macKeysWrong)

/-- 'oubliettelaw08.MacTags': WHATEVER THE INPUT: true; the input reads as it did. -/
def macTagsSpec : ChangeSpec := { name := "macTags", fn := fun _ => fun
  | [d1, d2, d3, d4] => { results := [.lit (.bool true)], args := [d1, d2, d3, d4] }
  | _ => none }
def macTagsRow : OpenClaim := { program := "ytggldbadefbdaaadoor", sum := "137f65ca2e77e191fc5275ff7fd8dcac28265e19747718c3cd1bb07ef1b64112", func := "oubliette/oubliettelaw08.MacTags", spec := "macTags", inPlace := ["internal/bytealg.MakeNoZero"], unfollowed := true, recurses := true, named := ["oubliette/sha.k"], apart := false, laid := [("oubliette/sha.k", laid_oubliette_sha_k)] }
def MacTagsSaid : Prop := macTagsRow.holds Tryd.pinned (OpenSpec.ofChange macTagsSpec)

/-- ITS FALSE NEIGHBOUR: 'it returns false'. Refute it at one input. -/
def macTagsWrong : ChangeSpec := { name := "macTags", fn := fun _ => fun
  | [d1, d2, d3, d4] => { results := [.lit (.bool false)], args := [d1, d2, d3, d4] }
  | _ => none }
def MacTagsWrongFalsely : Prop := macTagsRow.holds Tryd.pinned (OpenSpec.ofChange macTagsWrong)

/-- 'oubliettelaw08.MacParts': WHATEVER THE INPUT: true; the input reads as it did. -/
def macPartsSpec : ChangeSpec := { name := "macParts", fn := fun _ => fun
  | [d1, d2, d3] => { results := [.lit (.bool true)], args := [d1, d2, d3] }
  | _ => none }
def macPartsRow : OpenClaim := { program := "ytggldbadefbdaaadoor", sum := "137f65ca2e77e191fc5275ff7fd8dcac28265e19747718c3cd1bb07ef1b64112", func := "oubliette/oubliettelaw08.MacParts", spec := "macParts", inPlace := ["internal/bytealg.MakeNoZero"], unfollowed := true, recurses := true, named := ["oubliette/sha.k"], apart := false, laid := [("oubliette/sha.k", laid_oubliette_sha_k)] }
def MacPartsSaid : Prop := macPartsRow.holds Tryd.pinned (OpenSpec.ofChange macPartsSpec)

/-- ITS FALSE NEIGHBOUR: 'it returns false'. Refute it at one input. -/
def macPartsWrong : ChangeSpec := { name := "macParts", fn := fun _ => fun
  | [d1, d2, d3] => { results := [.lit (.bool false)], args := [d1, d2, d3] }
  | _ => none }
def MacPartsWrongFalsely : Prop := macPartsRow.holds Tryd.pinned (OpenSpec.ofChange macPartsWrong)

/-- 'oubliettelaw09.KdfBytes': WHATEVER THE INPUT: true; the input reads as it did. -/
def kdfBytesSpec : ChangeSpec := { name := "kdfBytes", fn := fun _ => fun
  | [d1, d2, d3, d4] => { results := [.lit (.bool true)], args := [d1, d2, d3, d4] }
  | _ => none }
def kdfBytesRow : OpenClaim := { program := "ytggldbadefbdaaadoor", sum := "137f65ca2e77e191fc5275ff7fd8dcac28265e19747718c3cd1bb07ef1b64112", func := "oubliette/oubliettelaw09.KdfBytes", spec := "kdfBytes", inPlace := ["internal/bytealg.MakeNoZero"], unfollowed := true, recurses := true, named := ["oubliette/sha.k"], apart := false, laid := [("oubliette/sha.k", laid_oubliette_sha_k)] }
def KdfBytesSaid : Prop := kdfBytesRow.holds Tryd.pinned (OpenSpec.ofChange kdfBytesSpec)

/-- ITS FALSE NEIGHBOUR: 'it returns false'. Refute it at one input. -/
def kdfBytesWrong : ChangeSpec := { name := "kdfBytes", fn := fun _ => fun
  | [d1, d2, d3, d4] => { results := [.lit (.bool false)], args := [d1, d2, d3, d4] }
  | _ => none }
def KdfBytesWrongFalsely : Prop := kdfBytesRow.holds Tryd.pinned (OpenSpec.ofChange kdfBytesWrong)

/-- 'oubliettelaw09.KdfFewer': WHATEVER THE INPUT: true; the input reads as it did. -/
def kdfFewerSpec : ChangeSpec := { name := "kdfFewer", fn := fun _ => fun
  | [d1, d2, d3, d4, d5] => { results := [.lit (.bool true)], args := [d1, d2, d3, d4, d5] }
  | _ => none }
def kdfFewerRow : OpenClaim := { program := "ytggldbadefbdaaadoor", sum := "137f65ca2e77e191fc5275ff7fd8dcac28265e19747718c3cd1bb07ef1b64112", func := "oubliette/oubliettelaw09.KdfFewer", spec := "kdfFewer", inPlace := ["internal/bytealg.MakeNoZero"], unfollowed := true, recurses := true, named := ["oubliette/sha.k"], apart := false, laid := [("oubliette/sha.k", laid_oubliette_sha_k)] }
def KdfFewerSaid : Prop := kdfFewerRow.holds Tryd.pinned (OpenSpec.ofChange kdfFewerSpec)

/-- ITS FALSE NEIGHBOUR: 'it returns false'. Refute it at one input. -/
def kdfFewerWrong : ChangeSpec := { name := "kdfFewer", fn := fun _ => fun
  | [d1, d2, d3, d4, d5] => { results := [.lit (.bool false)], args := [d1, d2, d3, d4, d5] }
  | _ => none }
def KdfFewerWrongFalsely : Prop := kdfFewerRow.holds Tryd.pinned (OpenSpec.ofChange kdfFewerWrong)

/-- 'oubliettelaw09.KdfKeys': WHATEVER THE INPUT: true; the input reads as it did. -/
def kdfKeysSpec : ChangeSpec := { name := "kdfKeys", fn := fun _ => fun
  | [d1, d2, d3, d4] => { results := [.lit (.bool true)], args := [d1, d2, d3, d4] }
  | _ => none }
def kdfKeysRow : OpenClaim := { program := "ytggldbadefbdaaadoor", sum := "137f65ca2e77e191fc5275ff7fd8dcac28265e19747718c3cd1bb07ef1b64112", func := "oubliette/oubliettelaw09.KdfKeys", spec := "kdfKeys", inPlace := ["internal/bytealg.MakeNoZero"], unfollowed := true, recurses := true, named := ["oubliette/sha.k"], apart := false, laid := [("oubliette/sha.k", laid_oubliette_sha_k)] }
def KdfKeysSaid : Prop := kdfKeysRow.holds Tryd.pinned (OpenSpec.ofChange kdfKeysSpec)

/-- ITS FALSE NEIGHBOUR: 'it returns false'. Refute it at one input. -/
def kdfKeysWrong : ChangeSpec := { name := "kdfKeys", fn := fun _ => fun
  | [d1, d2, d3, d4] => { results := [.lit (.bool false)], args := [d1, d2, d3, d4] }
  | _ => none }
def KdfKeysWrongFalsely : Prop := kdfKeysRow.holds Tryd.pinned (OpenSpec.ofChange kdfKeysWrong)

/- THE SECOND FORM. 'bulk': how many values and letters a reading holds, each counted each time it is reached (what is shared counts as often as it is met; a slice's spare places count too). A statement '..UptoSaid' is the law's where the arguments, and the package variables that the reading takes, are together of bulk at most 1048576: NARROWER than '..Said'. Prove '..Said' where nothing that the law and all that it calls make is longer than what came in: it says more and counts as full. Else prove '..UptoSaid'. A law counts once. -/
mutual
def uptoBulk {H : Type} : DataW H → Nat
  | .lit (.string bytes) => bytes.length + 1
  | .lit _ => 1
  | .nil => 1
  | .ptr d => uptoBulk d + 1
  | .slice elems spare => uptoBulkAll elems + uptoBulkAll spare + 1
  | .agg parts => uptoBulkAll parts + 1
  | .iface _ d => uptoBulk d + 1
  | .map entries => uptoBulkEntries entries + 1
  | .held _ => 1
def uptoBulkAll {H : Type} : List (DataW H) → Nat
  | [] => 0
  | d :: r => uptoBulk d + uptoBulkAll r
def uptoBulkEntries {H : Type} : List (Lit × DataW H) → Nat
  | [] => 0
  | x :: r => uptoBulkEntry x + uptoBulkEntries r
def uptoBulkEntry {H : Type} : Lit × DataW H → Nat
  | (.string bytes, d) => bytes.length + uptoBulk d + 1
  | (_, d) => uptoBulk d + 1
 end
def uptoSmall : (H : Type) → List (DataW H) → Bool := fun _ ds => decide (uptoBulkAll ds ≤ 1048576)
def OpenSpec.upto (s : _root_.Go.ChangeSpec) : _root_.Go.OpenSpec := { _root_.Go.OpenSpec.ofChange s with cond := some uptoSmall }

/-- 'oubliettelaw07.ShaBlocks', WHERE WHAT IT READS IS OF BULK AT MOST 1048576: true; the input reads as it did. -/
def shaBlocksUptoRow : OpenClaim := { program := "ytggldbadefbdaaadoor", sum := "137f65ca2e77e191fc5275ff7fd8dcac28265e19747718c3cd1bb07ef1b64112", func := "oubliette/oubliettelaw07.ShaBlocks", spec := "shaBlocks", unfollowed := true, recurses := true, named := ["oubliette/sha.k"], apart := false, laid := [("oubliette/sha.k", laid_oubliette_sha_k)], narrowed := true }
def ShaBlocksUptoSaid : Prop := shaBlocksUptoRow.holds Tryd.pinned (OpenSpec.upto shaBlocksSpec)

/-- 'oubliettelaw07.ShaSums', WHERE WHAT IT READS IS OF BULK AT MOST 1048576: true; the input reads as it did. -/
def shaSumsUptoRow : OpenClaim := { program := "ytggldbadefbdaaadoor", sum := "137f65ca2e77e191fc5275ff7fd8dcac28265e19747718c3cd1bb07ef1b64112", func := "oubliette/oubliettelaw07.ShaSums", spec := "shaSums", unfollowed := true, recurses := true, named := ["oubliette/sha.k"], apart := false, laid := [("oubliette/sha.k", laid_oubliette_sha_k)], narrowed := true }
def ShaSumsUptoSaid : Prop := shaSumsUptoRow.holds Tryd.pinned (OpenSpec.upto shaSumsSpec)

/-- 'oubliettelaw07.ShaWhole', WHERE WHAT IT READS IS OF BULK AT MOST 1048576: true; the input reads as it did. -/
def shaWholeUptoRow : OpenClaim := { program := "ytggldbadefbdaaadoor", sum := "137f65ca2e77e191fc5275ff7fd8dcac28265e19747718c3cd1bb07ef1b64112", func := "oubliette/oubliettelaw07.ShaWhole", spec := "shaWhole", unfollowed := true, recurses := true, named := ["oubliette/sha.k"], apart := false, laid := [("oubliette/sha.k", laid_oubliette_sha_k)], narrowed := true }
def ShaWholeUptoSaid : Prop := shaWholeUptoRow.holds Tryd.pinned (OpenSpec.upto shaWholeSpec)

/-- 'oubliettelaw07.ShaNumbers', WHERE WHAT IT READS IS OF BULK AT MOST 1048576: true; the input reads as it did. -/
def shaNumbersUptoRow : OpenClaim := { program := "ytggldbadefbdaaadoor", sum := "137f65ca2e77e191fc5275ff7fd8dcac28265e19747718c3cd1bb07ef1b64112", func := "oubliette/oubliettelaw07.ShaNumbers", spec := "shaNumbers", unfollowed := true, recurses := true, named := ["oubliette/sha.k"], apart := false, laid := [("oubliette/sha.k", laid_oubliette_sha_k)], narrowed := true }
def ShaNumbersUptoSaid : Prop := shaNumbersUptoRow.holds Tryd.pinned (OpenSpec.upto shaNumbersSpec)

/-- 'oubliettelaw08.MacKeys', WHERE WHAT IT READS IS OF BULK AT MOST 1048576: true; the input reads as it did. -/
def macKeysUptoRow : OpenClaim := { program := "ytggldbadefbdaaadoor", sum := "137f65ca2e77e191fc5275ff7fd8dcac28265e19747718c3cd1bb07ef1b64112", func := "oubliette/oubliettelaw08.MacKeys", spec := "macKeys", inPlace := ["internal/bytealg.MakeNoZero"], unfollowed := true, recurses := true, named := ["oubliette/sha.k"], apart := false, laid := [("oubliette/sha.k", laid_oubliette_sha_k)], narrowed := true }
def MacKeysUptoSaid : Prop := macKeysUptoRow.holds Tryd.pinned (OpenSpec.upto macKeysSpec)

/-- 'oubliettelaw08.MacTags', WHERE WHAT IT READS IS OF BULK AT MOST 1048576: true; the input reads as it did. -/
def macTagsUptoRow : OpenClaim := { program := "ytggldbadefbdaaadoor", sum := "137f65ca2e77e191fc5275ff7fd8dcac28265e19747718c3cd1bb07ef1b64112", func := "oubliette/oubliettelaw08.MacTags", spec := "macTags", inPlace := ["internal/bytealg.MakeNoZero"], unfollowed := true, recurses := true, named := ["oubliette/sha.k"], apart := false, laid := [("oubliette/sha.k", laid_oubliette_sha_k)], narrowed := true }
def MacTagsUptoSaid : Prop := macTagsUptoRow.holds Tryd.pinned (OpenSpec.upto macTagsSpec)

/-- 'oubliettelaw08.MacParts', WHERE WHAT IT READS IS OF BULK AT MOST 1048576: true; the input reads as it did. -/
def macPartsUptoRow : OpenClaim := { program := "ytggldbadefbdaaadoor", sum := "137f65ca2e77e191fc5275ff7fd8dcac28265e19747718c3cd1bb07ef1b64112", func := "oubliette/oubliettelaw08.MacParts", spec := "macParts", inPlace := ["internal/bytealg.MakeNoZero"], unfollowed := true, recurses := true, named := ["oubliette/sha.k"], apart := false, laid := [("oubliette/sha.k", laid_oubliette_sha_k)], narrowed := true }
def MacPartsUptoSaid : Prop := macPartsUptoRow.holds Tryd.pinned (OpenSpec.upto macPartsSpec)

/-- 'oubliettelaw09.KdfBytes', WHERE WHAT IT READS IS OF BULK AT MOST 1048576: true; the input reads as it did. -/
def kdfBytesUptoRow : OpenClaim := { program := "ytggldbadefbdaaadoor", sum := "137f65ca2e77e191fc5275ff7fd8dcac28265e19747718c3cd1bb07ef1b64112", func := "oubliette/oubliettelaw09.KdfBytes", spec := "kdfBytes", inPlace := ["internal/bytealg.MakeNoZero"], unfollowed := true, recurses := true, named := ["oubliette/sha.k"], apart := false, laid := [("oubliette/sha.k", laid_oubliette_sha_k)], narrowed := true }
def KdfBytesUptoSaid : Prop := kdfBytesUptoRow.holds Tryd.pinned (OpenSpec.upto kdfBytesSpec)

/-- 'oubliettelaw09.KdfFewer', WHERE WHAT IT READS IS OF BULK AT MOST 1048576: true; the input reads as it did. -/
def kdfFewerUptoRow : OpenClaim := { program := "ytggldbadefbdaaadoor", sum := "137f65ca2e77e191fc5275ff7fd8dcac28265e19747718c3cd1bb07ef1b64112", func := "oubliette/oubliettelaw09.KdfFewer", spec := "kdfFewer", inPlace := ["internal/bytealg.MakeNoZero"], unfollowed := true, recurses := true, named := ["oubliette/sha.k"], apart := false, laid := [("oubliette/sha.k", laid_oubliette_sha_k)], narrowed := true }
def KdfFewerUptoSaid : Prop := kdfFewerUptoRow.holds Tryd.pinned (OpenSpec.upto kdfFewerSpec)

/-- 'oubliettelaw09.KdfKeys', WHERE WHAT IT READS IS OF BULK AT MOST 1048576: true; the input reads as it did. -/
def kdfKeysUptoRow : OpenClaim := { program := "ytggldbadefbdaaadoor", sum := "137f65ca2e77e191fc5275ff7fd8dcac28265e19747718c3cd1bb07ef1b64112", func := "oubliette/oubliettelaw09.KdfKeys", spec := "kdfKeys", inPlace := ["internal/bytealg.MakeNoZero"], unfollowed := true, recurses := true, named := ["oubliette/sha.k"], apart := false, laid := [("oubliette/sha.k", laid_oubliette_sha_k)], narrowed := true }
def KdfKeysUptoSaid : Prop := kdfKeysUptoRow.holds Tryd.pinned (OpenSpec.upto kdfKeysSpec)

end Rows
end Go.Proofs.YtggldbadefbdaaaDoor
