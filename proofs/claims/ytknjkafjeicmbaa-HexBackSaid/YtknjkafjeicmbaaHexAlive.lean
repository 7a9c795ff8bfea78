/- The walk of the example of the layer hex. -/
import Derived.Test.YtknjkafjeicmbaaHexRows
namespace Go.Proofs.Ytknjkafjeicmbaa.Hex
open Go.RowKit
set_option linter.unusedVariables false

set_option maxRecDepth 100000 in
set_option maxHeartbeats 400000 in
theorem alive_any (w : World) : Calls Try.prog 39 #[] w fun e w' => e = .returned (.bool true) ∧ Below w.heap.size w w' := by
  have hp : print [0, 255] = [48, 48, 102, 102] := by decide
  have hc := fun W hr => print_any (some ⟨w.heap.size, 0, none⟩) [0, 255] 2 2 W rfl hr (by decide)
  rw [hp] at hc
  have Hc := Lib.hid hc
  clear hc hp
  go_enter Try.func39, Try.ntmps39
  go_wp2_with fail
  refine (Hc.out _ (Rd.lit _ _ _ _ _ rfl (by simp))).mono ?_
  rintro e w1 ⟨rfl, b1⟩
  go_wp2
  go_ret
  exact ⟨rfl, bt (b1alloc _ _) b1⟩

end Go.Proofs.Ytknjkafjeicmbaa.Hex
