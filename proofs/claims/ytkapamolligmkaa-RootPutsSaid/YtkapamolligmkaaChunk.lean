/- The library's slices.Chunk at bytes, blocks of 64: its iterator's contract for rows of whole blocks; a caller's side. -/
import Derived.Test.YtkapamolligmkaaArr
import Derived.Test.YtkapamolligmkaaRows
import Derived.RangeFuncNested
import Derived.RangeFuncBound
import Derived.RangeFuncCalls
import Derived.RangeFuncLeaves
import Derived.RangeFuncBox
import Derived.Shelf.Abstract
import Derived.Shelf.RegionOpen
import Derived.WalkKit
import Derived.OwnWalkIn
import Derived.TacticsInMore
import Derived.LoopNIn
import Derived.LoopIn
import Derived.Sort.QuietIn
namespace Go.Proofs.Ytkapamolligmkaa.Ch
open Go.RowKit Go.Shelf
attribute [local go_sem] Oper.semAt_some
set_option linter.unusedVariables false

theorem wpListIn_loadA {F : Fence} {n : Nat} {P : Program} {w : World} {ops : Array Oper} {rest : List Oper} {o : Oper} {a : Act} {Q : Exit → Act → World → Prop} (hg : o.guard = none) (t : TypeId) (x : Operand) (ho : o.op = .load t x)
    {g : Nat} (hx : a.eval x = .pointer (some ⟨g, 0, none⟩)) {xs : List Value} (hb : Blk w g xs) {k : Nat} {e : TypeId} (hu : P.underlying t = some (.array k e)) (hi : (P.info? t).map (·.size) = some xs.length)
    (h : wpListIn F n P ops Q rest (a.put o.dst (arrV xs)) w) : wpListIn F n P ops Q (o :: rest) a w := by
  obtain ⟨t', hb⟩ := hb
  refine wpListIn_plain hg fun K hK => ?_
  have := run_loadVar_row (P := P) w g t' t _ _ _ hb hu rfl (by simpa using hi)
  unfold Oper.wpIn
  refine ⟨by simp [Oper.about, ho], ?_⟩
  rw [Oper.semAt_plain F _ _ (by rw [ho]; intro c hc'; cases hc')]
  simp [execOp, ho, hx, Instr.loadAt, Instr.sureAddr, this]
  exact hK _ _ h
theorem wpListIn_storeN {F : Fence} {n : Nat} {P : Program} {w : World} {ops : Array Oper} {rest : List Oper} {o : Oper} {a : Act} {Q : Exit → Act → World → Prop} (hgd : o.guard = none) (t : TypeId) (x y : Operand) (ho : o.op = .store t x y)
    {g : Nat} (hx : a.eval x = .pointer (some ⟨g, 0, none⟩)) {xs ys : List Value} (hy : a.eval y = arrV ys) (hb : Blk w g xs) (hl : xs.length = ys.length) (h1 : ∀ v ∈ ys, v.oneCell' = true) (hi : (P.info? t).map (·.size) = some ys.length)
    (h : ∀ w1, Blk w1 g ys → w.grownBy w1 (some g) → wpListIn F n P ops Q rest (a.put o.dst undef) w1) : wpListIn F n P ops Q (o :: rest) a w := by
  have hb0 := hb
  obtain ⟨t', hb⟩ := hb
  refine wpListIn_plain hgd fun K hK => ?_
  have := run_storeVar_row (P := P) w g t' t _ ys.toArray hb (by simpa using hi) (by simpa using hl) (by simpa using h1)
  unfold Oper.wpIn
  refine ⟨by simp [Oper.about, ho], ?_⟩
  rw [Oper.semAt_plain F _ _ (by rw [ho]; intro c hc'; cases hc')]
  unfold arrV at hy
  simp [execOp, ho, hx, hy, Instr.storeAt, Instr.sureAddr, this]
  exact hK _ _ (h _ hb0.setRow (setRow_grown _ _ _))
theorem wpListIn_allocN {F : Fence} {n : Nat} {P : Program} {w : World} {ops : Array Oper} {rest : List Oper} {o : Oper} {a : Act} {Q : Exit → Act → World → Prop} (hg : o.guard = none) (t : TypeId) (ho : o.op = .alloc t) (xs : List Value)
    (hz : ∀ w, (zeroValue t).run P w = .ok (arrV xs) w)
    (h : ∀ w1, Blk w1 w.heap.size xs → Below w.heap.size w w1 → w.heap.size < w1.heap.size → wpListIn F n P ops Q rest (a.put o.dst (.pointer (some ⟨w.heap.size, 0, none⟩))) w1) : wpListIn F n P ops Q (o :: rest) a w := by
  refine wpListIn_plain hg fun K hK => ?_
  unfold Oper.wpIn
  refine ⟨by simp [Oper.about, ho], ?_⟩
  rw [Oper.semAt_plain F _ _ (by rw [ho]; intro c hc'; cases hc')]
  simp [execOp, ho, Instr.alloc, hz, go_sem, arrV]
  exact hK _ _ (h _ (Blk.new w xs t) (b1alloc _ _) (by simp))
theorem wpListIn_append_rd {F : Fence} {n : Nat} {P : Program} (w : World) {ops : Array Oper} {rest : List Oper} {o : Oper} {a : Act} {Q : Exit → Act → World → Prop} (hgd : o.guard = none) (s x : Operand) (t : TypeId)
    (ho : o.op = .call { callee := .builtin .append, args := #[s, x], argTypes := #[t, t] })
    (base : Nat) (e : TypeId) (i : TypeInfo) (z : Value) (size bytes : Nat) (ht : P.underlying t = some (.slice e)) (hi : P.info? e = some i) (hz : i.zero = some z)
    (hsize : i.size = size) (hby : i.bytes = bytes) (hzs : z.cells.size = size) (hsz : 0 < size)
    (v : Value) (k : Nat) (xs : List Value) (hs : a.eval s = v) (hown : w.ownsRow base e size v k xs)
    (B : Nat) (A : Option Addr) (m c : Nat) (news : List Value) (hx : a.eval x = .slice A m c) (hl : news.length = m * size) (hr : Rd w B A news) (h1 : ∀ u ∈ news, u.oneCell' = true)
    (h63 : k + m ≤ maxLen) (hbytes : (k + m) * bytes ≤ 140737488355328) (hbase : base ≤ w.heap.size)
    (h : ∀ v' w', w'.ownsRow base e size v' (k + m) (xs ++ news) → w.grownBy w' v.ownBlock → (v'.ownBlock = v.ownBlock ∨ v'.ownBlock = some w.heap.size) → wpListIn F n P ops Q rest (a.put o.dst v') w') : wpListIn F n P ops Q (o :: rest) a w := by
  obtain ⟨v', w', hrun, h2, h3, h4⟩ := run_append_rd (P := P) w base t o.type e i z size bytes ht hi hz hsize hby hzs hsz v k xs hown B A m c news hl hr h1 h63 hbytes hbase
  refine wpListIn_plain hgd fun K hK => ?_
  unfold Oper.wpIn
  refine ⟨by simp [Oper.about, ho, resolve, Target.leads, Sem.run_pure], ?_⟩
  rw [Oper.semAt_plain F _ _ (by rw [ho]; intro c hc'; cases hc')]
  simp [execOp, ho, resolve, invoke, builtin, hs, hx, hrun, Result.andThen]
  exact hK _ _ (h v' w' h2 h3 h4)
/-- the k-th block of 64 bytes of a row that begins there -/
def part (b off k : Nat) : Value := .slice (some ⟨b, off + 64 * k, none⟩) 64 64
theorem fin_take {m k : Nat} (h : k < m) : (List.finRange m).take (k + 1) = (List.finRange m).take k ++ [⟨k, h⟩] := by
  rw [List.take_succ_eq_append_getElem (by simpa using h)]
  simp
/-- all blocks below n but one lie as they lay -/
def KpX (g n : Nat) (W W' : World) : Prop := W.heap.size ≤ W'.heap.size ∧ ∀ j, j < n → j ≠ g → W'.heap[j]? = W.heap[j]?
theorem KpX.refl (g n : Nat) (W : World) : KpX g n W W := ⟨Nat.le_refl _, fun _ _ _ => rfl⟩
theorem KpX.trans {g n : Nat} {A B C : World} (h : KpX g n A B) (k : KpX g n B C) : KpX g n A C := ⟨Nat.le_trans h.1 k.1, fun j hj hn => (k.2 j hj hn).trans (h.2 j hj hn)⟩
theorem KpX.cell {g n : Nat} {W W' : World} (h : KpX g n W W') {b : Nat} (hb : b < n) (hn : b ≠ g) (o : Nat) : W'.cell? ⟨b, o, none⟩ = W.cell? ⟨b, o, none⟩ := World.cell?_of_block (h.2 b hb hn)
theorem KpX.turn {g n : Nat} (W : World) (l : Nat) (o' : Obj) (hl : n ≤ l) : KpX g n W (W.putObj l o') := ⟨(grownBy_putObj' W l o').size, fun j hj _ => World.putObj_heap_other (by omega)⟩
theorem KpX.of_below {g n : Nat} {W W' : World} (h : Below W.heap.size W W') (hn : n ≤ W.heap.size) : KpX g n W W' := ⟨h.size, fun j hj _ => h.block j (by omega)⟩
theorem KpX.of_row {g n : Nat} {W W' : World} (h : W.grownBy W' (some g)) (hn : n ≤ W.heap.size) : KpX g n W W' := ⟨h.size, fun j hj hj' => h.block j (by omega) (fun e => hj' (by cases e; rfl))⟩
theorem keeps_below {W W' : World} (h : Below W.heap.size W W') : KeepsOthers W W' := KeepsOthers.of_grownBy (below_grown h none) (fun j o e => by cases e)
theorem keeps_row {W W' : World} {g : Nat} {xs : List Value} (h : W.grownBy W' (some g)) (hb : Blk W g xs) : KeepsOthers W W' := KeepsOthers.of_grownBy h (fun j o e ho => by
  cases e
  obtain ⟨t, ht⟩ := hb
  rw [ht] at ho
  cases ho
  rfl)
theorem Rd.keepX {g n : Nat} {W W' : World} {A : Option Addr} {xs : List Value} {b off : Nat} (h : Rd W n (some ⟨b, off, none⟩) xs) (k : KpX g n W W') (hb : b ≠ g) : Rd W' n (some ⟨b, off, none⟩) xs := fun hne => by
  obtain ⟨b', off', e, hlt, hc⟩ := h hne
  cases e
  exact ⟨b, off, rfl, hlt, fun i hi => (k.cell hlt hb _).trans (hc i hi)⟩
end Go.Proofs.Ytkapamolligmkaa.Ch
