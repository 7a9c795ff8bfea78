/- The walk of the reference's Of. -/
import Derived.Test.YtkapamolligmkaaSec4
import Derived.Deep.RegionHeld3
import Derived.Deep.RegionWith
namespace Go.Proofs.Ytkapamolligmkaa.Sec
open Go.RowKit
open Go.Proofs.Ytkapamolligmkaa.Num (putL getN)
set_option linter.unusedVariables false
set_option maxRecDepth 100000
/-- a sector comes back, its bytes readable, and something beside it -/
def RetY (x : X) (t : Value) (e : Ending) (w' : World) : Prop := ∃ A c, e = .returned (.tuple #[xv x A c, t]) ∧ Rd w' w'.heap.size A (x.body.map e8)
theorem RetY.zero (t : Value) (w' : World) : RetY X0 t (.returned (.tuple #[.agg #[.int .i64 0, .int .u64 0, .int .i64 0, .int .u64 0, .slice none 0 0], t])) w' := ⟨none, 0, rfl, Rd.nil _ _ _⟩
theorem bset5 {B g : Nat} {a W : World} {v0 v1 v2 v3 v4 : Value} (h : Below B a W) (hB : B ≤ g) : Below B a (((((W.setCell ⟨g, 0, none⟩ v0).setCell ⟨g, 1, none⟩ v1).setCell ⟨g, 2, none⟩ v2).setCell ⟨g, 3, none⟩ v3).setCell ⟨g, 4, none⟩ v4) := bset (bset (bset (bset (bset h hB _) hB _) hB _) hB _) hB _
/-- what comes back of bytes that may be a sector's -/
def RetO : Option X → Ending → World → Prop
  | some x, e, w' => RetY x (.bool true) e w'
  | none, e, w' => RetY X0 (.bool false) e w'
theorem rd_cut {w : World} {B blk off : Nat} {b : List UInt8} (h : Rd w B (some ⟨blk, off, none⟩) (b.map e8)) (i n : Nat) : Rd w B (some ⟨blk, off + i, none⟩) ((cut b i n).map e8) := by
  have := (h.drop i).take n
  rw [← List.map_drop, ← List.map_take] at this
  simpa [Addr.add_lit, cut] using this
theorem reads_no {p : Int} {b : List UInt8} (h : 479 < lenB b) : reads p b = none := if_neg (by omega)
theorem reads_bad {p : Int} {b : List UInt8} (h : rightF p (ofB b) ≠ 0) : reads p b = none := if_neg (fun e => h e.2.1)
theorem reads_un {p : Int} {b : List UInt8} (h : text p (ofB b) ≠ b) : reads p b = none := if_neg (fun e => h e.2.2)
theorem reads_yes {p : Int} {b : List UInt8} (h0 : lenB b ≤ 479) (h1 : rightF p (ofB b) = 0) (h : text p (ofB b) = b) : reads p b = some (ofB b) := if_pos ⟨h0, h1, h⟩
end Go.Proofs.Ytkapamolligmkaa.Sec
