/- The walk of disk.Pending. -/
import Derived.Test.YtkapamolligmkaaDisk9
namespace Go.Proofs.Ytkapamolligmkaa.Disk
open Go.RowKit
set_option linter.unusedVariables false
set_option maxRecDepth 100000

theorem wpList_allocT {P : Program} {w : World} {ops : Array Oper} {rest : List Oper} {o : Oper} {a : Act} {Q : Exit → Act → World → Prop} (hg : o.guard = none) (t : TypeId) (ho : o.op = .alloc t) (xs : List Value)
    (hz : ∀ w, (zeroValue t).run P w = .ok (arrV xs) w)
    (h : ∀ w1, BlkT w1 w.heap.size t xs → Below w.heap.size w w1 → wpList P ops Q rest (a.put o.dst (.pointer (some ⟨w.heap.size, 0, none⟩))) w1) : wpList P ops Q (o :: rest) a w :=
  wpList_alloc hg t ho xs hz (h _ (heap_alloc_new w _) (b1alloc _ _))
theorem wpList_storeT {P : Program} {w : World} {ops : Array Oper} {rest : List Oper} {o : Oper} {a : Act} {Q : Exit → Act → World → Prop} (hgd : o.guard = none) (t : TypeId) (x y : Operand) (ho : o.op = .store t x y)
    {g : Nat} {t' : TypeId} (hx : a.eval x = .pointer (some ⟨g, 0, none⟩)) {xs ys : List Value} (hy : a.eval y = arrV ys) (hb : BlkT w g t' xs) (hl : xs.length = ys.length) (h1 : ∀ v ∈ ys, v.oneCell' = true) (hi : (P.info? t).map (·.size) = some ys.length)
    (h : ∀ w1, BlkT w1 g t' ys → w.grownBy w1 (some g) → wpList P ops Q rest (a.put o.dst undef) w1) : wpList P ops Q (o :: rest) a w :=
  wpList_storeA hgd t x y ho hx hy ⟨t', hb⟩ hl h1 hi (h _ (setRow_heap w g _ _ t' _ hb) (setRow_grown _ _ _))
theorem BlkT.blk {w : World} {g : Nat} {t : TypeId} {xs : List Value} (h : BlkT w g t xs) : Blk w g xs := ⟨t, h⟩
end Go.Proofs.Ytkapamolligmkaa.Disk
