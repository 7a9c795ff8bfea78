/- What the rows' list of the table of rounds gives; a world that bears it. -/
import Derived.Test.YtggldbadefbdaaaDoorCards
import Derived.Test.YtggldbadefbdaaaDoorTie
import Derived.Test.YtggldbadefbdaaaDoorShaB
import Derived.ProofKit
import Derived.OpenShut
import Derived.Deep.DeepHandedRow
import Derived.Lib.LaidTab
import Derived.LaidMore
namespace Go.Proofs.YtggldbadefbdaaaDoor
open Go.ChangeShapes Go.WideShapes Go.ChangeAt Go.RowKit
set_option linter.unusedVariables false
set_option maxRecDepth 100000
namespace Laid
theorem gTab : Tryd.prog.globalNamed "oubliette/sha.k" = some 0 := by kernel_rfl
theorem gTabType : (Tryd.prog.globals[0]?).map (·.type) = some 28 := by kernel_rfl
theorem cellsA : Tryd.prog.cellsOf 28 = 64 := by kernel_rfl
theorem cellsE : Tryd.prog.cellsOf 22 = 1 := by kernel_rfl
def zs : List Int := [1116352408, 1899447441, 3049323471, 3921009573, 961987163, 1508970993, 2453635748, 2870763221, 3624381080, 310598401, 607225278, 1426881987, 1925078388, 2162078206, 2614888103, 3248222580, 3835390401, 4022224774, 264347078, 604807628, 770255983, 1249150122, 1555081692, 1996064986, 2554220882, 2821834349, 2952996808, 3210313671, 3336571891, 3584528711, 113926993, 338241895, 666307205, 773529912, 1294757372, 1396182291, 1695183700, 1986661051, 2177026350, 2456956037, 2730485921, 2820302411, 3259730800, 3345764771, 3516065817, 3600352804, 4094571909, 275423344, 430227734, 506948616, 659060556, 883997877, 958139571, 1322822218, 1537002063, 1747873779, 1955562222, 2024104815, 2227730452, 2361852424, 2428436474, 2756734187, 3204031479, 3329325298]
theorem zs_at : ∀ t : Fin 64, zs.getD t.val 0 = Sha.c32 (Sha.kAt t.val) := by decide +kernel
theorem table {W : World} (h : laidMetH Tryd.prog [("oubliette/sha.k", Rows.laid_oubliette_sha_k)] W) : Lib.TabIs Tryd.prog W "oubliette/sha.k" .u32 zs :=
  Lib.tabIs_of_head (rest := []) gTab gTabType Tryd.underlying28 Tryd.underlying22 cellsE cellsA h
theorem tab {W : World} (h : laidMetH Tryd.prog [("oubliette/sha.k", Rows.laid_oubliette_sha_k)] W) : Sha.Tab W := by
  have hc : ∀ t, t < 64 → W.cell? ⟨0, t, none⟩ = some (Sha.e32 (Sha.kAt t)) := fun t ht => by
    have h1 := (table h).cell gTab t (show t < 64 from ht)
    rw [h1, zs_at ⟨t, ht⟩]
  exact ⟨block_lt_of_cell (hc 0 (by omega)), hc⟩
def cells : Array Value := (zs.map (Value.int .u32)).toArray
noncomputable def laidWorld (os : Os) : World :=
  { World.holding Tryd.prog os ⟨#[], #[], []⟩ with heap := (World.holding Tryd.prog os ⟨#[], #[], []⟩).heap.modify 0 fun
      | .cells _ t frozen => .cells cells t frozen
      | o => o }
end Laid
end Go.Proofs.YtggldbadefbdaaaDoor
