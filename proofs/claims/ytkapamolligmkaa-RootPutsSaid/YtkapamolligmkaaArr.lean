/- Arrays by value, of any size, kept as one value: blocks whose cells are known as a list; laws for the operations that make, load and store them whole. -/
import Derived.Test.YtkapamolligmkaaBase
import Derived.Laws.Rows
import Derived.Laws.Tables
import Derived.Laws.IdiomCopy
import Derived.Laws.MakeOwn
namespace Go.Proofs.Ytkapamolligmkaa
open Go.RowKit
set_option linter.unusedVariables false

/-- a block that holds just these cells -/
def Blk (w : World) (g : Nat) (xs : List Value) : Prop := ∃ t, w.heap[g]? = some (.cells xs.toArray t (0, 0))
/-- an array by value -/
def arrV (xs : List Value) : Value := .agg xs.toArray
theorem arrV_cells (xs : List Value) : (arrV xs).cells = xs.toArray := rfl
theorem Blk.lt {w : World} {g : Nat} {xs : List Value} (h : Blk w g xs) : g < w.heap.size := h.elim fun _ h => lt_of_block h
theorem Blk.cell {w : World} {g : Nat} {xs : List Value} (h : Blk w g xs) {k : Nat} (hk : k < xs.length) : w.cell? ⟨g, k, none⟩ = some xs[k] := by
  obtain ⟨t, h⟩ := h
  rw [cell_of_row w g k _ _ _ h]; simp [hk]
theorem Blk.free {w : World} {g : Nat} {xs : List Value} (h : Blk w g xs) (k : Nat) : w.frozen? ⟨g, k, none⟩ = false := by
  obtain ⟨t, h⟩ := h
  exact frozen_of_row w g k _ _ h
theorem Blk.set {w : World} {g : Nat} {xs : List Value} (h : Blk w g xs) {k : Nat} (v : Value) : Blk (w.setCell ⟨g, k, none⟩ v) g (xs.set k v) := by
  obtain ⟨t, h⟩ := h
  refine ⟨t, ?_⟩
  rw [heap_setCell_same w g k _ t v h]
  simp
theorem Blk.other {w : World} {g b k : Nat} {xs : List Value} (h : Blk w g xs) (v : Value) (hn : g ≠ b) : Blk (w.setCell ⟨b, k, none⟩ v) g xs := by
  obtain ⟨t, h⟩ := h
  exact ⟨t, (heap_setCell_other w _ g v (by simpa using hn)).trans h⟩
theorem Blk.alloc {w : World} {g : Nat} {xs : List Value} (h : Blk w g xs) (o : Obj) : Blk (w.alloc o) g xs := by
  obtain ⟨t, hh⟩ := h
  exact ⟨t, (heap_alloc_old w o (lt_of_block hh)).trans hh⟩
theorem Blk.new (w : World) (xs : List Value) (t : TypeId) : Blk (w.alloc (.cells xs.toArray t)) w.heap.size xs := ⟨t, heap_alloc_new w _⟩
theorem Blk.on {w w' : World} {g : Nat} {xs : List Value} (h : Blk w g xs) (b : Below w.heap.size w w') : Blk w' g xs := by
  obtain ⟨t, hh⟩ := h
  exact ⟨t, (b.block g (lt_of_block hh)).trans hh⟩
theorem Blk.below {w w' : World} {g B : Nat} {xs : List Value} (h : Blk w g xs) (b : Below B w w') (hg : g < B) : Blk w' g xs := by
  obtain ⟨t, hh⟩ := h
  exact ⟨t, (b.block g hg).trans hh⟩
theorem Blk.drewN {w : World} {g : Nat} {xs : List Value} (h : Blk w g xs) (n : Nat) : Blk (w.drewN n) g xs := h
theorem Blk.grown {w w' : World} {g : Nat} {xs : List Value} {row : Option Nat} (h : Blk w g xs) (hg : w.grownBy w' row) (hne : some g ≠ row) : Blk w' g xs := by
  obtain ⟨t, hh⟩ := h
  exact ⟨t, (hg.block g (lt_of_block hh) hne).trans hh⟩
theorem Blk.setRow {w : World} {g : Nat} {xs ys : List Value} (h : Blk w g xs) : Blk (w.setRow g ys.toArray) g ys := by
  obtain ⟨t, h⟩ := h
  exact ⟨t, setRow_heap w g _ _ t _ h⟩
theorem Blk.setRow_other {w : World} {g b : Nat} {xs : List Value} {ys : Array Value} (h : Blk w g xs) (hn : g ≠ b) : Blk (w.setRow b ys) g xs := by
  obtain ⟨t, h⟩ := h
  exact ⟨t, (Go.setRow_other w b g ys hn).trans h⟩
theorem below_setRow {B : Nat} {a w : World} (h : Below B a w) {g : Nat} (hg : B ≤ g) (cs : Array Value) : Below B a (w.setRow g cs) :=
  ⟨h.os, h.tape, h.output, by simpa [World.setRow] using h.size, fun j hj => (Go.setRow_other w g j cs (by omega)).trans (h.block j hj)⟩
theorem Blk.rd {w : World} {g : Nat} {xs : List Value} (h : Blk w g xs) : Rd w w.heap.size (some ⟨g, 0, none⟩) xs := fun hne =>
  ⟨g, 0, rfl, h.lt, fun i hi => by rw [Nat.zero_add]; exact h.cell hi⟩

section
variable {P : Program}
/-- one operation that yields a value, by its run -/
theorem wpList_run {w w' : World} {ops : Array Oper} {rest : List Oper} {o : Oper} {a : Act} {Q : Exit → Act → World → Prop} (hg : o.guard = none) (v : Value)
    (hrun : (execOp a.eval o).run P w = .ok (.value v) w') (h : wpList P ops Q rest (a.put o.dst v) w') : wpList P ops Q (o :: rest) a w := by
  refine wpList_plain hg fun K hK => ?_
  unfold Oper.wp
  rw [hrun]
  exact hK _ _ h
theorem wpList_alloc {w : World} {ops : Array Oper} {rest : List Oper} {o : Oper} {a : Act} {Q : Exit → Act → World → Prop} (hg : o.guard = none) (t : TypeId) (ho : o.op = .alloc t) (xs : List Value)
    (hz : ∀ w, (zeroValue t).run P w = .ok (arrV xs) w)
    (h : wpList P ops Q rest (a.put o.dst (.pointer (some ⟨w.heap.size, 0, none⟩))) (w.alloc (.cells xs.toArray t))) : wpList P ops Q (o :: rest) a w := by
  refine wpList_run hg _ ?_ h
  unfold execOp
  simp only [ho]
  simp [Instr.alloc, hz, go_sem, arrV]
theorem wpList_box {w : World} {ops : Array Oper} {rest : List Oper} {o : Oper} {a : Act} {Q : Exit → Act → World → Prop} (hg : o.guard = none) (t : TypeId) (x : Operand) (ho : o.op = .box t x) (xs : List Value)
    (hx : a.eval x = arrV xs)
    (h : wpList P ops Q rest (a.put o.dst (.pointer (some ⟨w.heap.size, 0, none⟩))) (w.alloc (.cells xs.toArray t))) : wpList P ops Q (o :: rest) a w := by
  refine wpList_run hg _ ?_ h
  unfold execOp
  simp only [ho, hx]
  simp [Instr.box, go_sem, arrV]
theorem wpList_loadA {w : World} {ops : Array Oper} {rest : List Oper} {o : Oper} {a : Act} {Q : Exit → Act → World → Prop} (hg : o.guard = none) (t : TypeId) (x : Operand) (ho : o.op = .load t x)
    {g : Nat} (hx : a.eval x = .pointer (some ⟨g, 0, none⟩)) {xs : List Value} (hb : Blk w g xs) {n : Nat} {e : TypeId} (hu : P.underlying t = some (.array n e)) (hi : (P.info? t).map (·.size) = some xs.length)
    (h : wpList P ops Q rest (a.put o.dst (arrV xs)) w) : wpList P ops Q (o :: rest) a w := by
  obtain ⟨t', hb⟩ := hb
  refine wpList_run hg (arrV xs) ?_ h
  unfold execOp
  simp only [ho, hx]
  have := run_loadVar_row (P := P) w g t' t _ _ _ hb hu rfl (by simpa using hi)
  simp [Instr.loadAt, Instr.sureAddr, this, arrV]
theorem wpList_storeA {w : World} {ops : Array Oper} {rest : List Oper} {o : Oper} {a : Act} {Q : Exit → Act → World → Prop} (hgd : o.guard = none) (t : TypeId) (x y : Operand) (ho : o.op = .store t x y)
    {g : Nat} (hx : a.eval x = .pointer (some ⟨g, 0, none⟩)) {xs ys : List Value} (hy : a.eval y = arrV ys) (hb : Blk w g xs) (hl : xs.length = ys.length) (h1 : ∀ v ∈ ys, v.oneCell' = true) (hi : (P.info? t).map (·.size) = some ys.length)
    (h : wpList P ops Q rest (a.put o.dst undef) (w.setRow g ys.toArray)) : wpList P ops Q (o :: rest) a w := by
  obtain ⟨t', hb⟩ := hb
  refine wpList_plain hgd fun K hK => ?_
  have := run_storeVar_row (P := P) w g t' t _ ys.toArray hb (by simpa using hi) (by simpa using hl) (by simpa using h1)
  unfold Oper.wp execOp
  simp only [ho, hx, hy]
  simp [Instr.storeAt, Instr.sureAddr, this, arrV]
  exact hK _ _ h
/-! the same, the world behind them by what is known of it -/
theorem setRow_grown (w : World) (g : Nat) (cs : Array Value) : w.grownBy (w.setRow g cs) (some g) :=
  ⟨rfl, rfl, rfl, by simp [World.setRow], fun k _ hk => Go.setRow_other w g k cs (fun e => hk (by rw [e]))⟩
theorem wpList_allocN {w : World} {ops : Array Oper} {rest : List Oper} {o : Oper} {a : Act} {Q : Exit → Act → World → Prop} (hg : o.guard = none) (t : TypeId) (ho : o.op = .alloc t) (xs : List Value)
    (hz : ∀ w, (zeroValue t).run P w = .ok (arrV xs) w)
    (h : ∀ w1, Blk w1 w.heap.size xs → Below w.heap.size w w1 → w.heap.size < w1.heap.size → wpList P ops Q rest (a.put o.dst (.pointer (some ⟨w.heap.size, 0, none⟩))) w1) : wpList P ops Q (o :: rest) a w :=
  wpList_alloc hg t ho xs hz (h _ (Blk.new w xs t) (b1alloc _ _) (by simp))
theorem wpList_boxN {w : World} {ops : Array Oper} {rest : List Oper} {o : Oper} {a : Act} {Q : Exit → Act → World → Prop} (hg : o.guard = none) (t : TypeId) (x : Operand) (ho : o.op = .box t x) (xs : List Value)
    (hx : a.eval x = arrV xs)
    (h : ∀ w1, Blk w1 w.heap.size xs → Below w.heap.size w w1 → w.heap.size < w1.heap.size → wpList P ops Q rest (a.put o.dst (.pointer (some ⟨w.heap.size, 0, none⟩))) w1) : wpList P ops Q (o :: rest) a w :=
  wpList_box hg t x ho xs hx (h _ (Blk.new w xs t) (b1alloc _ _) (by simp))
theorem wpList_storeN {w : World} {ops : Array Oper} {rest : List Oper} {o : Oper} {a : Act} {Q : Exit → Act → World → Prop} (hgd : o.guard = none) (t : TypeId) (x y : Operand) (ho : o.op = .store t x y)
    {g : Nat} (hx : a.eval x = .pointer (some ⟨g, 0, none⟩)) {xs ys : List Value} (hy : a.eval y = arrV ys) (hb : Blk w g xs) (hl : xs.length = ys.length) (h1 : ∀ v ∈ ys, v.oneCell' = true) (hi : (P.info? t).map (·.size) = some ys.length)
    (h : ∀ w1, Blk w1 g ys → w.grownBy w1 (some g) → wpList P ops Q rest (a.put o.dst undef) w1) : wpList P ops Q (o :: rest) a w :=
  wpList_storeA hgd t x y ho hx hy hb hl h1 hi (h _ hb.setRow (setRow_grown _ _ _))
theorem below_row {B : Nat} {a w w1 : World} {g : Nat} (h : Below B a w) (hg : w.grownBy w1 (some g)) (hB : B ≤ g) (hs : B ≤ w.heap.size) : Below B a w1 :=
  h.grown hg hs (fun k e => by cases e; exact hB)
/-! many cells of a block -/
def splice (xs : List Value) (o : Nat) : List Value → List Value
  | [] => xs
  | v :: r => splice (xs.set o v) (o + 1) r
theorem Blk.setCells {g : Nat} : ∀ (cs : List Value) (o : Nat) {w : World} {xs : List Value}, Blk w g xs → Blk (w.setCells g o cs) g (splice xs o cs)
  | [], _, _, _, h => h
  | v :: r, o, _, _, h => Blk.setCells r (o + 1) (h.set v)
theorem setCells_grown (g : Nat) : ∀ (cs : List Value) (o : Nat) (w : World), w.grownBy (w.setCells g o cs) (some g)
  | [], _, w => ⟨rfl, rfl, rfl, Nat.le_refl _, fun _ _ _ => rfl⟩
  | v :: r, o, w => grown_trans (grown_set w ⟨g, o, none⟩ v) (setCells_grown g r (o + 1) _)
/-- the builtin copy into a block that is known whole -/
theorem wpList_copyN {w : World} {ops : Array Oper} {rest : List Oper} {o : Oper} {a : Act} {Q : Exit → Act → World → Prop} (hgd : o.guard = none) (d s : Operand) (t t' : TypeId)
    (ho : o.op = .call { callee := .builtin .copy, args := #[d, s], argTypes := #[t, t'] }) {g off dLen dCap : Nat} {ad : Addr} {sLen sCap : Nat} (hd : a.eval d = .slice (some ⟨g, off, none⟩) dLen dCap) (hs : a.eval s = .slice (some ad) sLen sCap)
    (cs : List Value) (hn : cs.length = Nat.min sLen dLen) {e : TypeId} (hu : P.underlying t = some (.slice e)) (hi : (P.info? e).map (·.size) = some 1) {xs : List Value} (hb : Blk w g xs) (hfit : off + cs.length ≤ xs.length)
    (hsrc : ∀ j v, cs[j]? = some v → w.cell? (ad.add j) = some v) (h1 : ∀ v ∈ cs, v.oneCell' = true)
    (h : ∀ w1, Blk w1 g (splice xs off cs) → w.grownBy w1 (some g) → wpList P ops Q rest (a.put o.dst (goInt cs.length)) w1) : wpList P ops Q (o :: rest) a w := by
  refine wpList_plain hgd fun K hK => ?_
  have hr := run_copy_cells (P := P) w t t' o.type e g off dLen dCap ad sLen sCap cs hu hi hn hsrc (fun j hj => by rw [hb.cell (show off + j < xs.length by omega)]; rfl) (fun j _ => hb.free _) h1
  unfold Oper.wp execOp
  simp only [ho, resolve, invoke, builtin, Sem.run_bind, Sem.run_pure, Result.andThen_ok, List.map_toArray, List.map_cons, List.map_nil, hd, hs, hr]
  exact hK _ _ (h _ (hb.setCells cs off) (setCells_grown g cs off w))
/-- a result that is a block, whole -/
theorem results_arr {fn : Func} {p : Tmp} {t : TypeId} (h : fn.results = #[.cell p t]) (tmps : Array Value) {w : World} {g : Nat} {xs : List Value} (hb : Blk w g xs) {n : Nat} {e : TypeId} (hu : P.underlying t = some (.array n e))
    (hi : (P.info? t).map (·.size) = some xs.length) (hp : tmps[p]? = some (.pointer (some ⟨g, 0, none⟩))) : (results fn tmps).run P w = .ok (arrV xs) w := by
  obtain ⟨t', hb⟩ := hb
  exact results_cell_row h tmps w g t' _ _ _ (by simp [Array.getD_eq_getD_getElem?, hp]) hb hu rfl (by simpa using hi)
end
end Go.Proofs.Ytkapamolligmkaa
