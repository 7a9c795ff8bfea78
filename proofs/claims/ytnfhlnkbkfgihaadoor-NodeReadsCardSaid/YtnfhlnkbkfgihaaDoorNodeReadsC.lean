/- Texts of this claim, joined: NodLays, Arr, Chunk, SeqOk, SeqSt, RegionIn, Nam1, UtfBackPlain, NodCount, Nam2, Nam3, NodRg, Read, Read2, NodTk, NodDl, Geom, Geom2. -/
import Derived.Test.YtnfhlnkbkfgihaaDoorRows
import Derived.Test.YtnfhlnkbkfgihaaDoorNodeReadsA
import Derived.Test.YtnfhlnkbkfgihaaDoorNodeReadsB
import Derived.Shelf.Unicode.DecodeAny
import Derived.Shelf.Small.Utf8
import Derived.Shelf.Strings.Search3
import Derived.Laws.Rows
import Derived.Laws.Tables
import Derived.Laws.IdiomCopy
import Derived.Laws.MakeOwn
import Derived.RangeFuncNested
import Derived.RangeFuncBound
import Derived.RangeFuncCalls
import Derived.RangeFuncLeaves
import Derived.RangeFuncBox
import Derived.Shelf.Abstract
import Derived.Shelf.RegionOpen
import Derived.WalkKit
import Derived.OwnWalkIn
import Derived.TacticsInMore
import Derived.LoopNIn
import Derived.LoopIn
import Derived.Sort.QuietIn
import Derived.OrdersIn
import Derived.Shelf.Unicode.ValidAny
import Derived.Deep.RegionHeld3
import Derived.Laws.DeepStrings4
import Derived.Laws.Concat
import Derived.Recover
import Derived.RegionTactic
import Derived.ChangeAlike
import Derived.WalkSmall
import Derived.Outline
import Derived.Deep.RegionWith
/- The library's contracts, laid at this program: the decoder of a text's first rune; is a text right; the first byte of a kind. The numbers are r8's. -/
namespace Go.Proofs.YtnfhlnkbkfgihaaDoor.Utf
open Go.RowKit Go.Shelf
set_option linter.unusedVariables false
def laysDec_ren : Go.Shelf.Ren := ⟨fun | 197 => 74 | 260 => 81 | n => n, fun | 9 => 9 | 21 => 21 | 3 => 3 | 4 => 4 | 5 => 5 | 105 => 98 | 119 => 103 | 0 => 0 | 46 => 100 | 139 => 106 | 138 => 105 | n => n, fun | 3 => 0 | 4 => 1 | n => n⟩
theorem laysDec : Go.Proofs.Lays.n197 Tryd.prog laysDec_ren := {
  mixed := by kernel_rfl,
  f197 := Tryd.func74.trans (congrArg some (by kernel_rfl)),
  f260 := Tryd.func81.trans (congrArg some (by kernel_rfl)),
  t0 := Tryd.underlying0,
  a0 := Tryd.isAgg0,
  z0 := Tryd.sizeOf0,
  v0 := Tryd.zeroValue0,
  t3 := Tryd.underlying3,
  a3 := Tryd.isAgg3,
  z3 := Tryd.sizeOf3,
  v3 := Tryd.zeroValue3,
  t4 := Tryd.underlying4,
  a4 := Tryd.isAgg4,
  z4 := Tryd.sizeOf4,
  v4 := Tryd.zeroValue4,
  t5 := Tryd.underlying5,
  a5 := Tryd.isAgg5,
  z5 := Tryd.sizeOf5,
  v5 := Tryd.zeroValue5,
  t9 := Tryd.underlying9,
  a9 := Tryd.isAgg9,
  z9 := Tryd.sizeOf9,
  v9 := Tryd.zeroValue9,
  t21 := Tryd.underlying21,
  a21 := Tryd.isAgg21,
  z21 := Tryd.sizeOf21,
  v21 := Tryd.zeroValue21,
  t46 := Tryd.underlying100,
  a46 := Tryd.isAgg100,
  z46 := Tryd.sizeOf100,
  v46 := Tryd.zeroValue100,
  t105 := Tryd.underlying98,
  a105 := Tryd.isAgg98,
  z105 := Tryd.sizeOf98,
  v105 := Tryd.zeroValue98,
  t119 := Tryd.underlying103,
  a119 := Tryd.isAgg103,
  z119 := Tryd.sizeOf103,
  t138 := Tryd.underlying105,
  a138 := Tryd.isAgg105,
  z138 := Tryd.sizeOf105,
  v138 := Tryd.zeroValue105,
  t139 := Tryd.underlying106,
  a139 := Tryd.isAgg106,
  z139 := Tryd.sizeOf106,
  v139 := Tryd.zeroValue106,
  g3 := by kernel_rfl,
  g4 := by kernel_rfl }
def laysIndex_ren : Go.Shelf.Ren := ⟨fun | 143 => 75 | 219 => 82 | 217 => 83 | 225 => 84 | 224 => 85 | 267 => 86 | 266 => 87 | 314 => 88 | n => n, fun | 9 => 9 | 3 => 3 | 4 => 4 | 5 => 5 | 46 => 100 | 146 => 110 | 51 => 109 | n => n, fun | 1 => 2 | n => n⟩
theorem laysIndex : Go.Proofs.Lays.n143 Tryd.prog laysIndex_ren := {
  mixed := by kernel_rfl,
  f143 := Tryd.func75.trans (congrArg some (by kernel_rfl)),
  f217 := Tryd.func83.trans (congrArg some (by kernel_rfl)),
  f219 := Tryd.func82.trans (congrArg some (by kernel_rfl)),
  f224 := Tryd.func85.trans (congrArg some (by kernel_rfl)),
  f225 := Tryd.func84.trans (congrArg some (by kernel_rfl)),
  f266 := Tryd.func87.trans (congrArg some (by kernel_rfl)),
  f267 := Tryd.func86.trans (congrArg some (by kernel_rfl)),
  f314 := Tryd.func88.trans (congrArg some (by kernel_rfl)),
  t3 := Tryd.underlying3,
  a3 := Tryd.isAgg3,
  z3 := Tryd.sizeOf3,
  v3 := Tryd.zeroValue3,
  t4 := Tryd.underlying4,
  a4 := Tryd.isAgg4,
  z4 := Tryd.sizeOf4,
  v4 := Tryd.zeroValue4,
  t5 := Tryd.underlying5,
  a5 := Tryd.isAgg5,
  z5 := Tryd.sizeOf5,
  v5 := Tryd.zeroValue5,
  t9 := Tryd.underlying9,
  a9 := Tryd.isAgg9,
  z9 := Tryd.sizeOf9,
  v9 := Tryd.zeroValue9,
  t46 := Tryd.underlying100,
  a46 := Tryd.isAgg100,
  z46 := Tryd.sizeOf100,
  v46 := Tryd.zeroValue100,
  t51 := Tryd.underlying109,
  a51 := Tryd.isAgg109,
  z51 := Tryd.sizeOf109,
  v51 := Tryd.zeroValue109,
  t146 := Tryd.underlying110,
  a146 := Tryd.isAgg110,
  z146 := Tryd.sizeOf110,
  v146 := Tryd.zeroValue110,
  g1 := by kernel_rfl }
/-- the library's tables of first bytes lie in memory -/
def Tabs (w : World) : Prop := Lib.Utf8Tabs 0 1 w
theorem Tabs.on {w w' : World} (h : Tabs w) (b : Below w.heap.size w w') : Tabs w' := by
  have l1 := block_lt_of_cell (h.1 0 (by omega))
  have l2 := block_lt_of_cell (h.2 0 (by omega)).1
  exact ⟨fun c hc => (b.cell (p := ⟨_, c, none⟩) l1).trans (h.1 c hc), fun i hi => ⟨(b.cell (p := ⟨_, 2 * i, none⟩) l2).trans (h.2 i hi).1, (b.cell (p := ⟨_, 2 * i + 1, none⟩) l2).trans (h.2 i hi).2⟩⟩
theorem decode_any (l : List UInt8) (w : World) (hne : l ≠ []) (hT : Tabs w) : Calls Tryd.prog 74 #[.string ⟨l.toArray⟩] w fun e w' => e = .returned (.tuple #[.int .i32 ((dec l).1 : Int), .int .i64 ((dec l).2 : Int)]) ∧ Below w.heap.size w w' := by
  have h := Any.utf8_DecodeRuneInString laysDec ⟨l.toArray⟩ w hT
  have hd : Lib.decodeGo ⟨l.toArray⟩ = dec l := by
    unfold Lib.decodeGo
    rw [if_neg (by rw [ba_size]; exact fun e => hne (List.eq_nil_of_length_eq_zero e)), decode_eq]
    rfl
  rw [hd] at h
  exact h
end Go.Proofs.YtnfhlnkbkfgihaaDoor.Utf

/- Arrays by value, of any size, kept as one value: blocks whose cells are known as a list; laws for the operations that make, load and store them whole. -/
namespace Go.Proofs.YtnfhlnkbkfgihaaDoor
open Go.RowKit
set_option linter.unusedVariables false

/-- a block that holds just these cells -/
def Blk (w : World) (g : Nat) (xs : List Value) : Prop := ∃ t, w.heap[g]? = some (.cells xs.toArray t (0, 0))
/-- an array by value -/
def arrV (xs : List Value) : Value := .agg xs.toArray
theorem arrV_cells (xs : List Value) : (arrV xs).cells = xs.toArray := rfl
theorem Blk.lt {w : World} {g : Nat} {xs : List Value} (h : Blk w g xs) : g < w.heap.size := h.elim fun _ h => lt_of_block h
theorem Blk.cell {w : World} {g : Nat} {xs : List Value} (h : Blk w g xs) {k : Nat} (hk : k < xs.length) : w.cell? ⟨g, k, none⟩ = some xs[k] := by
  obtain ⟨t, h⟩ := h
  rw [cell_of_row w g k _ _ _ h]; simp [hk]
theorem Blk.free {w : World} {g : Nat} {xs : List Value} (h : Blk w g xs) (k : Nat) : w.frozen? ⟨g, k, none⟩ = false := by
  obtain ⟨t, h⟩ := h
  exact frozen_of_row w g k _ _ h
theorem Blk.set {w : World} {g : Nat} {xs : List Value} (h : Blk w g xs) {k : Nat} (v : Value) : Blk (w.setCell ⟨g, k, none⟩ v) g (xs.set k v) := by
  obtain ⟨t, h⟩ := h
  refine ⟨t, ?_⟩
  rw [heap_setCell_same w g k _ t v h]
  simp
theorem Blk.other {w : World} {g b k : Nat} {xs : List Value} (h : Blk w g xs) (v : Value) (hn : g ≠ b) : Blk (w.setCell ⟨b, k, none⟩ v) g xs := by
  obtain ⟨t, h⟩ := h
  exact ⟨t, (heap_setCell_other w _ g v (by simpa using hn)).trans h⟩
theorem Blk.alloc {w : World} {g : Nat} {xs : List Value} (h : Blk w g xs) (o : Obj) : Blk (w.alloc o) g xs := by
  obtain ⟨t, hh⟩ := h
  exact ⟨t, (heap_alloc_old w o (lt_of_block hh)).trans hh⟩
theorem Blk.new (w : World) (xs : List Value) (t : TypeId) : Blk (w.alloc (.cells xs.toArray t)) w.heap.size xs := ⟨t, heap_alloc_new w _⟩
theorem Blk.on {w w' : World} {g : Nat} {xs : List Value} (h : Blk w g xs) (b : Below w.heap.size w w') : Blk w' g xs := by
  obtain ⟨t, hh⟩ := h
  exact ⟨t, (b.block g (lt_of_block hh)).trans hh⟩
theorem Blk.below {w w' : World} {g B : Nat} {xs : List Value} (h : Blk w g xs) (b : Below B w w') (hg : g < B) : Blk w' g xs := by
  obtain ⟨t, hh⟩ := h
  exact ⟨t, (b.block g hg).trans hh⟩
theorem Blk.drewN {w : World} {g : Nat} {xs : List Value} (h : Blk w g xs) (n : Nat) : Blk (w.drewN n) g xs := h
theorem Blk.grown {w w' : World} {g : Nat} {xs : List Value} {row : Option Nat} (h : Blk w g xs) (hg : w.grownBy w' row) (hne : some g ≠ row) : Blk w' g xs := by
  obtain ⟨t, hh⟩ := h
  exact ⟨t, (hg.block g (lt_of_block hh) hne).trans hh⟩
theorem Blk.setRow {w : World} {g : Nat} {xs ys : List Value} (h : Blk w g xs) : Blk (w.setRow g ys.toArray) g ys := by
  obtain ⟨t, h⟩ := h
  exact ⟨t, setRow_heap w g _ _ t _ h⟩
theorem Blk.setRow_other {w : World} {g b : Nat} {xs : List Value} {ys : Array Value} (h : Blk w g xs) (hn : g ≠ b) : Blk (w.setRow b ys) g xs := by
  obtain ⟨t, h⟩ := h
  exact ⟨t, (Go.setRow_other w b g ys hn).trans h⟩
theorem below_setRow {B : Nat} {a w : World} (h : Below B a w) {g : Nat} (hg : B ≤ g) (cs : Array Value) : Below B a (w.setRow g cs) :=
  ⟨h.os, h.tape, h.output, by simpa [World.setRow] using h.size, fun j hj => (Go.setRow_other w g j cs (by omega)).trans (h.block j hj)⟩
theorem Blk.rd {w : World} {g : Nat} {xs : List Value} (h : Blk w g xs) : Rd w w.heap.size (some ⟨g, 0, none⟩) xs := fun hne =>
  ⟨g, 0, rfl, h.lt, fun i hi => by rw [Nat.zero_add]; exact h.cell hi⟩

section
variable {P : Program}
/-- one operation that yields a value, by its run -/
theorem wpList_run {w w' : World} {ops : Array Oper} {rest : List Oper} {o : Oper} {a : Act} {Q : Exit → Act → World → Prop} (hg : o.guard = none) (v : Value)
    (hrun : (execOp a.eval o).run P w = .ok (.value v) w') (h : wpList P ops Q rest (a.put o.dst v) w') : wpList P ops Q (o :: rest) a w := by
  refine wpList_plain hg fun K hK => ?_
  unfold Oper.wp
  rw [hrun]
  exact hK _ _ h
theorem wpList_alloc {w : World} {ops : Array Oper} {rest : List Oper} {o : Oper} {a : Act} {Q : Exit → Act → World → Prop} (hg : o.guard = none) (t : TypeId) (ho : o.op = .alloc t) (xs : List Value)
    (hz : ∀ w, (zeroValue t).run P w = .ok (arrV xs) w)
    (h : wpList P ops Q rest (a.put o.dst (.pointer (some ⟨w.heap.size, 0, none⟩))) (w.alloc (.cells xs.toArray t))) : wpList P ops Q (o :: rest) a w := by
  refine wpList_run hg _ ?_ h
  unfold execOp
  simp only [ho]
  simp [Instr.alloc, hz, go_sem, arrV]
theorem wpList_box {w : World} {ops : Array Oper} {rest : List Oper} {o : Oper} {a : Act} {Q : Exit → Act → World → Prop} (hg : o.guard = none) (t : TypeId) (x : Operand) (ho : o.op = .box t x) (xs : List Value)
    (hx : a.eval x = arrV xs)
    (h : wpList P ops Q rest (a.put o.dst (.pointer (some ⟨w.heap.size, 0, none⟩))) (w.alloc (.cells xs.toArray t))) : wpList P ops Q (o :: rest) a w := by
  refine wpList_run hg _ ?_ h
  unfold execOp
  simp only [ho, hx]
  simp [Instr.box, go_sem, arrV]
theorem wpList_loadA {w : World} {ops : Array Oper} {rest : List Oper} {o : Oper} {a : Act} {Q : Exit → Act → World → Prop} (hg : o.guard = none) (t : TypeId) (x : Operand) (ho : o.op = .load t x)
    {g : Nat} (hx : a.eval x = .pointer (some ⟨g, 0, none⟩)) {xs : List Value} (hb : Blk w g xs) {n : Nat} {e : TypeId} (hu : P.underlying t = some (.array n e)) (hi : (P.info? t).map (·.size) = some xs.length)
    (h : wpList P ops Q rest (a.put o.dst (arrV xs)) w) : wpList P ops Q (o :: rest) a w := by
  obtain ⟨t', hb⟩ := hb
  refine wpList_run hg (arrV xs) ?_ h
  unfold execOp
  simp only [ho, hx]
  have := run_loadVar_row (P := P) w g t' t _ _ _ hb hu rfl (by simpa using hi)
  simp [Instr.loadAt, Instr.sureAddr, this, arrV]
theorem wpList_storeA {w : World} {ops : Array Oper} {rest : List Oper} {o : Oper} {a : Act} {Q : Exit → Act → World → Prop} (hgd : o.guard = none) (t : TypeId) (x y : Operand) (ho : o.op = .store t x y)
    {g : Nat} (hx : a.eval x = .pointer (some ⟨g, 0, none⟩)) {xs ys : List Value} (hy : a.eval y = arrV ys) (hb : Blk w g xs) (hl : xs.length = ys.length) (h1 : ∀ v ∈ ys, v.oneCell' = true) (hi : (P.info? t).map (·.size) = some ys.length)
    (h : wpList P ops Q rest (a.put o.dst undef) (w.setRow g ys.toArray)) : wpList P ops Q (o :: rest) a w := by
  obtain ⟨t', hb⟩ := hb
  refine wpList_plain hgd fun K hK => ?_
  have := run_storeVar_row (P := P) w g t' t _ ys.toArray hb (by simpa using hi) (by simpa using hl) (by simpa using h1)
  unfold Oper.wp execOp
  simp only [ho, hx, hy]
  simp [Instr.storeAt, Instr.sureAddr, this, arrV]
  exact hK _ _ h
/-! the same, the world behind them by what is known of it -/
theorem setRow_grown (w : World) (g : Nat) (cs : Array Value) : w.grownBy (w.setRow g cs) (some g) :=
  ⟨rfl, rfl, rfl, by simp [World.setRow], fun k _ hk => Go.setRow_other w g k cs (fun e => hk (by rw [e]))⟩
theorem wpList_allocN {w : World} {ops : Array Oper} {rest : List Oper} {o : Oper} {a : Act} {Q : Exit → Act → World → Prop} (hg : o.guard = none) (t : TypeId) (ho : o.op = .alloc t) (xs : List Value)
    (hz : ∀ w, (zeroValue t).run P w = .ok (arrV xs) w)
    (h : ∀ w1, Blk w1 w.heap.size xs → Below w.heap.size w w1 → w.heap.size < w1.heap.size → wpList P ops Q rest (a.put o.dst (.pointer (some ⟨w.heap.size, 0, none⟩))) w1) : wpList P ops Q (o :: rest) a w :=
  wpList_alloc hg t ho xs hz (h _ (Blk.new w xs t) (b1alloc _ _) (by simp))
theorem wpList_boxN {w : World} {ops : Array Oper} {rest : List Oper} {o : Oper} {a : Act} {Q : Exit → Act → World → Prop} (hg : o.guard = none) (t : TypeId) (x : Operand) (ho : o.op = .box t x) (xs : List Value)
    (hx : a.eval x = arrV xs)
    (h : ∀ w1, Blk w1 w.heap.size xs → Below w.heap.size w w1 → w.heap.size < w1.heap.size → wpList P ops Q rest (a.put o.dst (.pointer (some ⟨w.heap.size, 0, none⟩))) w1) : wpList P ops Q (o :: rest) a w :=
  wpList_box hg t x ho xs hx (h _ (Blk.new w xs t) (b1alloc _ _) (by simp))
theorem wpList_storeN {w : World} {ops : Array Oper} {rest : List Oper} {o : Oper} {a : Act} {Q : Exit → Act → World → Prop} (hgd : o.guard = none) (t : TypeId) (x y : Operand) (ho : o.op = .store t x y)
    {g : Nat} (hx : a.eval x = .pointer (some ⟨g, 0, none⟩)) {xs ys : List Value} (hy : a.eval y = arrV ys) (hb : Blk w g xs) (hl : xs.length = ys.length) (h1 : ∀ v ∈ ys, v.oneCell' = true) (hi : (P.info? t).map (·.size) = some ys.length)
    (h : ∀ w1, Blk w1 g ys → w.grownBy w1 (some g) → wpList P ops Q rest (a.put o.dst undef) w1) : wpList P ops Q (o :: rest) a w :=
  wpList_storeA hgd t x y ho hx hy hb hl h1 hi (h _ hb.setRow (setRow_grown _ _ _))
theorem below_row {B : Nat} {a w w1 : World} {g : Nat} (h : Below B a w) (hg : w.grownBy w1 (some g)) (hB : B ≤ g) (hs : B ≤ w.heap.size) : Below B a w1 :=
  h.grown hg hs (fun k e => by cases e; exact hB)
/-! many cells of a block -/
def splice (xs : List Value) (o : Nat) : List Value → List Value
  | [] => xs
  | v :: r => splice (xs.set o v) (o + 1) r
theorem Blk.setCells {g : Nat} : ∀ (cs : List Value) (o : Nat) {w : World} {xs : List Value}, Blk w g xs → Blk (w.setCells g o cs) g (splice xs o cs)
  | [], _, _, _, h => h
  | v :: r, o, _, _, h => Blk.setCells r (o + 1) (h.set v)
theorem setCells_grown (g : Nat) : ∀ (cs : List Value) (o : Nat) (w : World), w.grownBy (w.setCells g o cs) (some g)
  | [], _, w => ⟨rfl, rfl, rfl, Nat.le_refl _, fun _ _ _ => rfl⟩
  | v :: r, o, w => grown_trans (grown_set w ⟨g, o, none⟩ v) (setCells_grown g r (o + 1) _)
/-- the builtin copy into a block that is known whole -/
theorem wpList_copyN {w : World} {ops : Array Oper} {rest : List Oper} {o : Oper} {a : Act} {Q : Exit → Act → World → Prop} (hgd : o.guard = none) (d s : Operand) (t t' : TypeId)
    (ho : o.op = .call { callee := .builtin .copy, args := #[d, s], argTypes := #[t, t'] }) {g off dLen dCap : Nat} {ad : Addr} {sLen sCap : Nat} (hd : a.eval d = .slice (some ⟨g, off, none⟩) dLen dCap) (hs : a.eval s = .slice (some ad) sLen sCap)
    (cs : List Value) (hn : cs.length = Nat.min sLen dLen) {e : TypeId} (hu : P.underlying t = some (.slice e)) (hi : (P.info? e).map (·.size) = some 1) {xs : List Value} (hb : Blk w g xs) (hfit : off + cs.length ≤ xs.length)
    (hsrc : ∀ j v, cs[j]? = some v → w.cell? (ad.add j) = some v) (h1 : ∀ v ∈ cs, v.oneCell' = true)
    (h : ∀ w1, Blk w1 g (splice xs off cs) → w.grownBy w1 (some g) → wpList P ops Q rest (a.put o.dst (goInt cs.length)) w1) : wpList P ops Q (o :: rest) a w := by
  refine wpList_plain hgd fun K hK => ?_
  have hr := run_copy_cells (P := P) w t t' o.type e g off dLen dCap ad sLen sCap cs hu hi hn hsrc (fun j hj => by rw [hb.cell (show off + j < xs.length by omega)]; rfl) (fun j _ => hb.free _) h1
  unfold Oper.wp execOp
  simp only [ho, resolve, invoke, builtin, Sem.run_bind, Sem.run_pure, Result.andThen_ok, List.map_toArray, List.map_cons, List.map_nil, hd, hs, hr]
  exact hK _ _ (h _ (hb.setCells cs off) (setCells_grown g cs off w))
/-- a result that is a block, whole -/
theorem results_arr {fn : Func} {p : Tmp} {t : TypeId} (h : fn.results = #[.cell p t]) (tmps : Array Value) {w : World} {g : Nat} {xs : List Value} (hb : Blk w g xs) {n : Nat} {e : TypeId} (hu : P.underlying t = some (.array n e))
    (hi : (P.info? t).map (·.size) = some xs.length) (hp : tmps[p]? = some (.pointer (some ⟨g, 0, none⟩))) : (results fn tmps).run P w = .ok (arrV xs) w := by
  obtain ⟨t', hb⟩ := hb
  exact results_cell_row h tmps w g t' _ _ _ (by simp [Array.getD_eq_getD_getElem?, hp]) hb hu rfl (by simpa using hi)
end
end Go.Proofs.YtnfhlnkbkfgihaaDoor

/- The library's slices.Chunk at bytes, blocks of 64: its iterator's contract for rows of whole blocks; a caller's side. -/
namespace Go.Proofs.YtnfhlnkbkfgihaaDoor.Ch
open Go.RowKit Go.Shelf
attribute [local go_sem] Oper.semAt_some
set_option linter.unusedVariables false

theorem wpListIn_loadA {F : Fence} {n : Nat} {P : Program} {w : World} {ops : Array Oper} {rest : List Oper} {o : Oper} {a : Act} {Q : Exit → Act → World → Prop} (hg : o.guard = none) (t : TypeId) (x : Operand) (ho : o.op = .load t x)
    {g : Nat} (hx : a.eval x = .pointer (some ⟨g, 0, none⟩)) {xs : List Value} (hb : Blk w g xs) {k : Nat} {e : TypeId} (hu : P.underlying t = some (.array k e)) (hi : (P.info? t).map (·.size) = some xs.length)
    (h : wpListIn F n P ops Q rest (a.put o.dst (arrV xs)) w) : wpListIn F n P ops Q (o :: rest) a w := by
  obtain ⟨t', hb⟩ := hb
  refine wpListIn_plain hg fun K hK => ?_
  have := run_loadVar_row (P := P) w g t' t _ _ _ hb hu rfl (by simpa using hi)
  unfold Oper.wpIn
  refine ⟨by simp [Oper.about, ho], ?_⟩
  rw [Oper.semAt_plain F _ _ (by rw [ho]; intro c hc'; cases hc')]
  simp [execOp, ho, hx, Instr.loadAt, Instr.sureAddr, this]
  exact hK _ _ h
theorem wpListIn_storeN {F : Fence} {n : Nat} {P : Program} {w : World} {ops : Array Oper} {rest : List Oper} {o : Oper} {a : Act} {Q : Exit → Act → World → Prop} (hgd : o.guard = none) (t : TypeId) (x y : Operand) (ho : o.op = .store t x y)
    {g : Nat} (hx : a.eval x = .pointer (some ⟨g, 0, none⟩)) {xs ys : List Value} (hy : a.eval y = arrV ys) (hb : Blk w g xs) (hl : xs.length = ys.length) (h1 : ∀ v ∈ ys, v.oneCell' = true) (hi : (P.info? t).map (·.size) = some ys.length)
    (h : ∀ w1, Blk w1 g ys → w.grownBy w1 (some g) → wpListIn F n P ops Q rest (a.put o.dst undef) w1) : wpListIn F n P ops Q (o :: rest) a w := by
  have hb0 := hb
  obtain ⟨t', hb⟩ := hb
  refine wpListIn_plain hgd fun K hK => ?_
  have := run_storeVar_row (P := P) w g t' t _ ys.toArray hb (by simpa using hi) (by simpa using hl) (by simpa using h1)
  unfold Oper.wpIn
  refine ⟨by simp [Oper.about, ho], ?_⟩
  rw [Oper.semAt_plain F _ _ (by rw [ho]; intro c hc'; cases hc')]
  unfold arrV at hy
  simp [execOp, ho, hx, hy, Instr.storeAt, Instr.sureAddr, this]
  exact hK _ _ (h _ hb0.setRow (setRow_grown _ _ _))
theorem wpListIn_allocN {F : Fence} {n : Nat} {P : Program} {w : World} {ops : Array Oper} {rest : List Oper} {o : Oper} {a : Act} {Q : Exit → Act → World → Prop} (hg : o.guard = none) (t : TypeId) (ho : o.op = .alloc t) (xs : List Value)
    (hz : ∀ w, (zeroValue t).run P w = .ok (arrV xs) w)
    (h : ∀ w1, Blk w1 w.heap.size xs → Below w.heap.size w w1 → w.heap.size < w1.heap.size → wpListIn F n P ops Q rest (a.put o.dst (.pointer (some ⟨w.heap.size, 0, none⟩))) w1) : wpListIn F n P ops Q (o :: rest) a w := by
  refine wpListIn_plain hg fun K hK => ?_
  unfold Oper.wpIn
  refine ⟨by simp [Oper.about, ho], ?_⟩
  rw [Oper.semAt_plain F _ _ (by rw [ho]; intro c hc'; cases hc')]
  simp [execOp, ho, Instr.alloc, hz, go_sem, arrV]
  exact hK _ _ (h _ (Blk.new w xs t) (b1alloc _ _) (by simp))
theorem wpListIn_append_rd {F : Fence} {n : Nat} {P : Program} (w : World) {ops : Array Oper} {rest : List Oper} {o : Oper} {a : Act} {Q : Exit → Act → World → Prop} (hgd : o.guard = none) (s x : Operand) (t : TypeId)
    (ho : o.op = .call { callee := .builtin .append, args := #[s, x], argTypes := #[t, t] })
    (base : Nat) (e : TypeId) (i : TypeInfo) (z : Value) (size bytes : Nat) (ht : P.underlying t = some (.slice e)) (hi : P.info? e = some i) (hz : i.zero = some z)
    (hsize : i.size = size) (hby : i.bytes = bytes) (hzs : z.cells.size = size) (hsz : 0 < size)
    (v : Value) (k : Nat) (xs : List Value) (hs : a.eval s = v) (hown : w.ownsRow base e size v k xs)
    (B : Nat) (A : Option Addr) (m c : Nat) (news : List Value) (hx : a.eval x = .slice A m c) (hl : news.length = m * size) (hr : Rd w B A news) (h1 : ∀ u ∈ news, u.oneCell' = true)
    (h63 : k + m ≤ maxLen) (hbytes : (k + m) * bytes ≤ 140737488355328) (hbase : base ≤ w.heap.size)
    (h : ∀ v' w', w'.ownsRow base e size v' (k + m) (xs ++ news) → w.grownBy w' v.ownBlock → (v'.ownBlock = v.ownBlock ∨ v'.ownBlock = some w.heap.size) → wpListIn F n P ops Q rest (a.put o.dst v') w') : wpListIn F n P ops Q (o :: rest) a w := by
  obtain ⟨v', w', hrun, h2, h3, h4⟩ := run_append_rd (P := P) w base t o.type e i z size bytes ht hi hz hsize hby hzs hsz v k xs hown B A m c news hl hr h1 h63 hbytes hbase
  refine wpListIn_plain hgd fun K hK => ?_
  unfold Oper.wpIn
  refine ⟨by simp [Oper.about, ho, resolve, Target.leads, Sem.run_pure], ?_⟩
  rw [Oper.semAt_plain F _ _ (by rw [ho]; intro c hc'; cases hc')]
  simp [execOp, ho, resolve, invoke, builtin, hs, hx, hrun, Result.andThen]
  exact hK _ _ (h v' w' h2 h3 h4)
/-- the k-th block of 64 bytes of a row that begins there -/
def part (b off k : Nat) : Value := .slice (some ⟨b, off + 64 * k, none⟩) 64 64
theorem fin_take {m k : Nat} (h : k < m) : (List.finRange m).take (k + 1) = (List.finRange m).take k ++ [⟨k, h⟩] := by
  rw [List.take_succ_eq_append_getElem (by simpa using h)]
  simp
/-- all blocks below n but one lie as they lay -/
def KpX (g n : Nat) (W W' : World) : Prop := W.heap.size ≤ W'.heap.size ∧ ∀ j, j < n → j ≠ g → W'.heap[j]? = W.heap[j]?
theorem KpX.refl (g n : Nat) (W : World) : KpX g n W W := ⟨Nat.le_refl _, fun _ _ _ => rfl⟩
theorem KpX.trans {g n : Nat} {A B C : World} (h : KpX g n A B) (k : KpX g n B C) : KpX g n A C := ⟨Nat.le_trans h.1 k.1, fun j hj hn => (k.2 j hj hn).trans (h.2 j hj hn)⟩
theorem KpX.cell {g n : Nat} {W W' : World} (h : KpX g n W W') {b : Nat} (hb : b < n) (hn : b ≠ g) (o : Nat) : W'.cell? ⟨b, o, none⟩ = W.cell? ⟨b, o, none⟩ := World.cell?_of_block (h.2 b hb hn)
theorem KpX.turn {g n : Nat} (W : World) (l : Nat) (o' : Obj) (hl : n ≤ l) : KpX g n W (W.putObj l o') := ⟨(grownBy_putObj' W l o').size, fun j hj _ => World.putObj_heap_other (by omega)⟩
theorem KpX.of_below {g n : Nat} {W W' : World} (h : Below W.heap.size W W') (hn : n ≤ W.heap.size) : KpX g n W W' := ⟨h.size, fun j hj _ => h.block j (by omega)⟩
theorem KpX.of_row {g n : Nat} {W W' : World} (h : W.grownBy W' (some g)) (hn : n ≤ W.heap.size) : KpX g n W W' := ⟨h.size, fun j hj hj' => h.block j (by omega) (fun e => hj' (by cases e; rfl))⟩
theorem keeps_below {W W' : World} (h : Below W.heap.size W W') : KeepsOthers W W' := KeepsOthers.of_grownBy (below_grown h none) (fun j o e => by cases e)
theorem keeps_row {W W' : World} {g : Nat} {xs : List Value} (h : W.grownBy W' (some g)) (hb : Blk W g xs) : KeepsOthers W W' := KeepsOthers.of_grownBy h (fun j o e ho => by
  cases e
  obtain ⟨t, ht⟩ := hb
  rw [ht] at ho
  cases ho
  rfl)
theorem Rd.keepX {g n : Nat} {W W' : World} {A : Option Addr} {xs : List Value} {b off : Nat} (h : Rd W n (some ⟨b, off, none⟩) xs) (k : KpX g n W W') (hb : b ≠ g) : Rd W' n (some ⟨b, off, none⟩) xs := fun hne => by
  obtain ⟨b', off', e, hlt, hc⟩ := h hne
  cases e
  exact ⟨b, off, rfl, hlt, fun i hi => (k.cell hlt hb _).trans (hc i hi)⟩
end Go.Proofs.YtnfhlnkbkfgihaaDoor.Ch

/- A range over an iterator that hands new memory to each round: what is handed is as the iterator says in the world of that round. No statement is proved here. -/
namespace Go.Proofs.YtnfhlnkbkfgihaaDoor.Ch
open Go.RowKit
set_option linter.unusedVariables false
/-- an iterator's contract: of each value that it hands, Ok holds in the world in which it hands it -/
def SeqOk {α : Type} (n : Nat) (P : Program) (g : Nat) (lb : Array Value) (encs : α → Array Value) (Ok : World → α → Prop) (Kp : World → World → Prop) (S Sp : List α → Prop) (N : Nat) (w : World) : Prop :=
  ∀ (l : Nat) (J Jx : List α → World → Prop) (W : World), Below w.heap.size w W → AbidesFrom W.heap.size J → AbidesFrom W.heap.size Jx →
    (∀ pre x W1, J pre W1 → Ok W1 x → pre.length < N → YieldAt Fence.wide (n - 1) P l (encs x) W1 fun e W' =>
      (e = .returned (.bool true) ∧ J (pre ++ [x]) W' ∧ Kp W1 W') ∨ (e = .returned (.bool false) ∧ Jx (pre ++ [x]) W')) →
    J [] W → CallsIn Fence.wide n P g (#[.func (.yield l) #[] #[]] ++ lb) W fun e W' => (∃ v, e = .returned v) ∧ ((∃ xs, S xs ∧ J xs W') ∨ (∃ pre, Sp pre ∧ Jx pre W'))
/-- the loop's own two blocks: its record, and its rounds' deferred calls -/
def Own2 (l D : Nat) (r : Loop) (W : World) : Prop := W.heap[l]? = some (.loop r) ∧ W.heap[D]? = some (.deferred (some []))
theorem Own2.lt {l D : Nat} {r : Loop} {W : World} (h : Own2 l D r W) : l < W.heap.size := (Array.getElem?_eq_some_iff.1 h.1).1
theorem Own2.put {l D : Nat} {r : Loop} {W : World} (h : Own2 l D r W) (hne : l ≠ D) (r' : Loop) : Own2 l D r' (W.putObj l (.loop r')) := ⟨World.putObj_heap_same h.lt, (World.putObj_heap_other (Ne.symm hne)).trans h.2⟩
theorem Own2.keeps {l D : Nat} {r : Loop} {W W' : World} (h : Own2 l D r W) (k : KeepsOthers W W') : Own2 l D r W' := ⟨k.same _ _ h.1 rfl, k.same _ _ h.2 rfl⟩
theorem Own2.grown {l D : Nat} {r : Loop} {W W' : World} {row : Option Nat} (h : Own2 l D r W) (hg : W.grownBy W' row) (hr : ∀ j, row = some j → ∃ o : Obj, W.heap[j]? = some o ∧ o.isWalk = true) : Own2 l D r W' := by
  have hl : ∀ j, row = some j → l ≠ j ∧ D ≠ j := fun j e => by
    obtain ⟨o, ho, hw⟩ := hr j e
    refine ⟨fun h1 => ?_, fun h1 => ?_⟩ <;> subst h1
    · rw [h.1] at ho; cases ho; cases hw
    · rw [h.2] at ho; cases ho; cases hw
  exact ⟨(hg.block l h.lt (fun e => (hl l e.symm).1 rfl)).trans h.1, (hg.block D (Array.getElem?_eq_some_iff.1 h.2).1 (fun e => (hl D e.symm).2 rfl)).trans h.2⟩
theorem range_ok {α : Type} {P : Program} {n : Nat} {g : Operand} {ps : Array Tmp} {assign body : Code} {Q : Exit → Act → World → Prop} {a : Act} {w : World}
    (h1 : 1 ≤ n) {gf : Nat} {lb : Array Value} (hg : a.eval g = .func (.func gf) #[] lb) (eg : ∀ args w, (callFunc gf args).run P w = .ok (.enter gf args) w)
    {encs : α → Array Value} {Ok : World → α → Prop} {Kp : World → World → Prop} {S Sp : List α → Prop} {N : Nat} {w0 : World} (hseq : SeqOk (n - 1) P gf lb encs Ok Kp S Sp N w0)
    (hKt : ∀ {A B C : World}, Kp A B → Kp B C → Kp A C) (hKb : ∀ (W : World) (l : Nat) (o o' : Obj), w.heap.size ≤ l → W.heap[l]? = some o → o.isCells = false → o.isWalk = false → Kp W (W.putObj l o'))
    (hb0 : Below w0.heap.size w0 w) (hps : ∀ x, (encs x).size = ps.size)
    (I : List α → World → Prop) (Ix : Code → List α → World → Prop) (hI : OwnFrom w.heap.size I) (hIx : ∀ c, OwnFrom w.heap.size (Ix c)) (h0 : I [] w) (M : List α → α → Act → World → Prop) (hM : ∀ pre x a (W : World) (l : Nat) (o o' : Obj), w.heap.size ≤ l → W.heap[l]? = some o → o.isCells = false → M pre x a W → M pre x a (W.putObj l o'))
    (hassign : ∀ (l : Nat) (pre : List α) (x : α) (W : World), I pre W → Ok W x → pre.length < N →
      assign.wpIn (Fence.wide.inRound l) (n - 1 - 1) P (Exit.then (fun a' W' => KeepsOthers W W' ∧ Kp W W' ∧ M pre x a' W') (fun _ _ _ => False)) { tmps := (ps.zip (encs x)).foldl (fun t (p, v) => t.setIfInBounds p v) a.tmps, defers := [] } W)
    (hbody : ∀ (l : Nat) (pre : List α) (x : α) (a' : Act) (W : World), M pre x a' W → pre.length < N → body.wpIn (Fence.wide.inRound l) (n - 1 - 1) P (ownPostK Kp I Ix (pre ++ [x]) W) a' W)
    (hdone : ∀ (D : Nat) (xs : List α) (W : World), w.heap.size ≤ D → S xs → I xs W → W.heap[D]? = some (.deferred (some [])) → Q .normal { a with defers := { target := .collected D, args := #[] } :: a.defers } W)
    (hstop : ∀ (D : Nat) (c : Code) (pre : List α) (W : World), w.heap.size ≤ D → Sp pre → Ix c pre W → W.heap[D]? = some (.deferred (some [])) → c.wpIn Fence.wide n P Q { a with defers := { target := .collected D, args := #[] } :: a.defers } W) :
    (Code.rangeFunc g ps assign body).wpIn Fence.wide n P Q a w := by
  refine wpIn_rangeFunc fun fn hfn => ?_
  obtain ⟨D, hD⟩ : ∃ D, D = w.heap.size := ⟨_, rfl⟩
  obtain ⟨L, hL⟩ : ∃ L, L = w.heap.size + 1 := ⟨_, rfl⟩
  obtain ⟨rec, hrec⟩ : ∃ rec : LoopState → Option Code → Loop, ∀ st pe, rec st pe = { state := st, pending := pe, fn, tmps := a.tmps, params := ps, assign, body, defers := w.heap.size } := ⟨fun st pe => _, fun st pe => rfl⟩
  obtain ⟨W1, hW1⟩ : ∃ W1, W1 = (w.alloc (.deferred (some []))).alloc (.loop (rec .ready none)) := ⟨_, rfl⟩
  have hne : L ≠ D := by omega
  have hO1 : Own2 L D (rec .ready none) W1 := by
    rw [hW1, hL, hD]
    refine ⟨?_, (Below.heap_alloc _ _ _ (by simp)).trans (World.alloc_heap_new w _)⟩
    have := World.alloc_heap_new (w.alloc (.deferred (some []))) (.loop (rec .ready none))
    rwa [World.size_alloc] at this
  have hB1 : Below w0.heap.size w0 W1 := by rw [hW1]; exact bt hb0 (b2alloc w _ _)
  have hI1 : I [] W1 := by rw [hW1]; exact hI.alloc _ (hI.alloc _ h0)
  have hsz1 : w.heap.size ≤ W1.heap.size := by have := hO1.lt; omega
  refine ⟨L, [{ target := .collected D, args := #[] }], W1, { target := .fn (.func gf) lb, args := #[.func (.yield L) #[] #[]] }, W1, gf, #[.func (.yield L) #[] #[]] ++ lb, W1, ?_, ?_, ?_, ?_, fun _ => h1, ?_⟩
  · rw [hW1, hL, hD, hrec]; exact run_enterLoop_outer _ _ _ _ _
  · simp only [resolve, hg]; simp [go_sem, hL]
  · intro f' hf'; trivial
  · simp [invoke, go_sem, eg]
  have hturn : ∀ {A : World} {row : Option Nat}, (∀ r, row = some r → W1.heap.size ≤ r ∧ ∃ o : Obj, A.heap[r]? = some o ∧ o.isWalk = true) → ∀ r, row = some r → w.heap.size ≤ r ∧ ∃ o : Obj, A.heap[r]? = some o ∧ o.isCells = false :=
    fun hr r e => by obtain ⟨hb, o, ho, hw⟩ := hr r e; exact ⟨by omega, o, ho, Obj.not_cells_of_walk hw⟩
  refine (hseq L (fun pre W => I pre W ∧ Own2 L D (rec .ready none) W) (fun pre W => ∃ c, Ix c pre W ∧ Own2 L D (rec .done (some c)) W) W1 hB1
    (fun s A B row hs hgr hr => ⟨hI s A B row hs.1 hgr (hturn hr), hs.2.grown hgr (fun j e => (hr j e).2)⟩)
    (fun s A B row hs hgr hr => by obtain ⟨c, h2, h3⟩ := hs; exact ⟨c, hIx c s A B row h2 hgr (hturn hr), h3.grown hgr (fun j e => (hr j e).2)⟩) ?_ ⟨hI1, hO1⟩).mono ?_
  · rintro pre x W ⟨hi, ho⟩ hok hlen
    have hy := run_yield (P := P) (args := encs x) ho.1 (by rw [hrec]; exact hps x)
    rw [hrec] at hy
    refine ⟨fn, _, assign, body, hy, roundIn_of_wpIn hfn (wpIn_mono (hassign L pre x W hi hok hlen) ?_)⟩
    rintro e0 a2 W2 hp0
    cases e0 <;> first | exact hp0.elim | skip
    obtain ⟨hk0, hkp0, hm0⟩ := hp0
    have ho0 := ho.keeps hk0
    refine ⟨_, run_beginRound (P := P) ho0.1 (by rw [hrec]), ?_⟩
    have ho2 := ho0.put hne { rec .ready none with state := .busy }
    have hk2 : Kp W (W2.putObj L (.loop { rec .ready none with state := .busy })) := hKt hkp0 (hKb _ _ _ _ (by omega) ho0.1 rfl rfl)
    have hm2 : M pre x a2 (W2.putObj L (.loop { rec .ready none with state := .busy })) := hM _ _ _ _ _ _ _ (by omega) ho0.1 rfl hm0
    refine wpIn_mono (hbody L pre x a2 _ hm2 hlen) ?_
    have leave : ∀ (c : Code) (W3 : World), KeepsOthers (W2.putObj L (.loop { rec .ready none with state := .busy })) W3 → Ix c (pre ++ [x]) W3 →
        ∃ v w', (Instr.endRound L (some c)).run P W3 = .ok v w' ∧ ((Ending.returned v = .returned (.bool true) ∧ (I (pre ++ [x]) w' ∧ Own2 L D (rec .ready none) w') ∧ Kp W w') ∨ (Ending.returned v = .returned (.bool false) ∧ ∃ c, Ix c (pre ++ [x]) w' ∧ Own2 L D (rec .done (some c)) w')) := by
      intro c W3 hk3 hx3
      have ho3 := ho2.keeps hk3
      refine ⟨_, _, run_endRound (P := P) (some c) ho3.1, .inr ⟨rfl, c, (hIx c).putObj _ hx3 (by omega) ho3.1 rfl, ?_⟩⟩
      have := ho3.put hne { rec .ready none with state := .done, pending := some c }
      rw [hrec] at this ⊢
      rw [hrec]
      exact this
    rintro e a3 W3 hp
    cases e with
    | normal =>
      obtain ⟨hk3, hkp3, hi3⟩ := hp
      have ho3 := ho2.keeps hk3
      refine ⟨_, _, run_endRound (P := P) none ho3.1, .inl ⟨rfl, ⟨hI.putObj _ hi3 (by omega) ho3.1 rfl, ?_⟩, hKt (hKt hk2 hkp3) (hKb _ _ _ _ (by omega) ho3.1 rfl rfl)⟩⟩
      have := ho3.put hne (rec .ready none)
      rw [hrec] at this ⊢
      exact this
    | ret => exact leave _ _ hp.1 hp.2
    | exit id => exact leave _ _ hp.1 hp.2
    | goto t => exact leave _ _ hp.1 hp.2
    | panic ch => exact hp.elim
    | outgrown => exact hp.elim
  · rintro e W2 ⟨⟨v, rfl⟩, h2⟩
    rcases h2 with ⟨xs, hS, hi, ho⟩ | ⟨pre, hSp, c, hi, ho⟩
    · have hr := run_endLoop (P := P) ho.1 (by rw [hrec]; simp)
      rw [hrec] at hr
      refine ⟨none, _, hr, ?_⟩
      rw [hD]
      rw [hD] at ho
      exact hdone _ xs _ (Nat.le_refl _) hS (hI.putObj _ hi (by omega) ho.1 rfl) ((World.putObj_heap_other (by omega)).trans ho.2)
    · have hr := run_endLoop (P := P) ho.1 (by rw [hrec]; simp)
      rw [hrec] at hr
      refine ⟨some c, _, hr, ?_⟩
      rw [hD]
      rw [hD] at ho
      exact hstop _ c pre _ (Nat.le_refl _) hSp ((hIx c).putObj _ hi (by omega) ho.1 rfl) ((World.putObj_heap_other (by omega)).trans ho.2)
end Go.Proofs.YtnfhlnkbkfgihaaDoor.Ch

/- A range over an iterator that keeps state of its own in a cell: between two rounds it may turn that cell. No statement is proved here. -/
namespace Go.Proofs.YtnfhlnkbkfgihaaDoor.Ch
open Go.RowKit
set_option linter.unusedVariables false
/-- such an iterator's contract: Tw is what it does to the world by itself -/
def SeqSt {α : Type} (n : Nat) (P : Program) (g : Nat) (lb : Array Value) (encs : α → Array Value) (Ok : World → α → Prop) (Kp : World → World → Prop) (Tw : World → World → Prop) (S Sp : List α → Prop) (N : Nat) (w : World) : Prop :=
  ∀ (l : Nat) (J Jx : List α → World → Prop) (W : World), Below w.heap.size w W → AbidesFrom W.heap.size J → AbidesFrom W.heap.size Jx → (∀ pre A B, J pre A → Tw A B → J pre B) →
    (∀ pre x W1, J pre W1 → Ok W1 x → pre.length < N → YieldAt Fence.wide (n - 1) P l (encs x) W1 fun e W' =>
      (e = .returned (.bool true) ∧ J (pre ++ [x]) W' ∧ Kp W1 W') ∨ (e = .returned (.bool false) ∧ Jx (pre ++ [x]) W')) →
    J [] W → CallsIn Fence.wide n P g (#[.func (.yield l) #[] #[]] ++ lb) W fun e W' => (∃ v, e = .returned v) ∧ ((∃ xs, S xs ∧ J xs W') ∨ (∃ pre, Sp pre ∧ Jx pre W'))
theorem range_st {α : Type} {P : Program} {n : Nat} {g : Operand} {ps : Array Tmp} {assign body : Code} {Q : Exit → Act → World → Prop} {a : Act} {w : World}
    (h1 : 1 ≤ n) {gf : Nat} {lb : Array Value} (hg : a.eval g = .func (.func gf) #[] lb) (eg : ∀ args w, (callFunc gf args).run P w = .ok (.enter gf args) w)
    {encs : α → Array Value} {Ok : World → α → Prop} {Kp Tw : World → World → Prop} {S Sp : List α → Prop} {N : Nat} {w0 : World} (hseq : SeqSt (n - 1) P gf lb encs Ok Kp Tw S Sp N w0)
    (hKt : ∀ {A B C : World}, Kp A B → Kp B C → Kp A C) (hKb : ∀ (W : World) (l : Nat) (o o' : Obj), w.heap.size ≤ l → W.heap[l]? = some o → o.isCells = false → o.isWalk = false → Kp W (W.putObj l o'))
    (hb0 : Below w0.heap.size w0 w) (hps : ∀ x, (encs x).size = ps.size)
    (I : List α → World → Prop) (Ix : Code → List α → World → Prop) (hI : OwnFrom w.heap.size I) (hIx : ∀ c, OwnFrom w.heap.size (Ix c)) (h0 : I [] w) (hIT : ∀ pre A B, I pre A → Tw A B → I pre B) (hOT : ∀ (A B : World) (l : Nat) (o : Obj), w.heap.size ≤ l → A.heap[l]? = some o → Tw A B → B.heap[l]? = some o) (M : List α → α → Act → World → Prop) (hM : ∀ pre x a (W : World) (l : Nat) (o o' : Obj), w.heap.size ≤ l → W.heap[l]? = some o → o.isCells = false → M pre x a W → M pre x a (W.putObj l o'))
    (hassign : ∀ (l : Nat) (pre : List α) (x : α) (W : World), I pre W → Ok W x → pre.length < N →
      assign.wpIn (Fence.wide.inRound l) (n - 1 - 1) P (Exit.then (fun a' W' => KeepsOthers W W' ∧ Kp W W' ∧ M pre x a' W') (fun _ _ _ => False)) { tmps := (ps.zip (encs x)).foldl (fun t (p, v) => t.setIfInBounds p v) a.tmps, defers := [] } W)
    (hbody : ∀ (l : Nat) (pre : List α) (x : α) (a' : Act) (W : World), M pre x a' W → pre.length < N → body.wpIn (Fence.wide.inRound l) (n - 1 - 1) P (ownPostK Kp I Ix (pre ++ [x]) W) a' W)
    (hdone : ∀ (D : Nat) (xs : List α) (W : World), w.heap.size ≤ D → S xs → I xs W → W.heap[D]? = some (.deferred (some [])) → Q .normal { a with defers := { target := .collected D, args := #[] } :: a.defers } W)
    (hstop : ∀ (D : Nat) (c : Code) (pre : List α) (W : World), w.heap.size ≤ D → Sp pre → Ix c pre W → W.heap[D]? = some (.deferred (some [])) → c.wpIn Fence.wide n P Q { a with defers := { target := .collected D, args := #[] } :: a.defers } W) :
    (Code.rangeFunc g ps assign body).wpIn Fence.wide n P Q a w := by
  refine wpIn_rangeFunc fun fn hfn => ?_
  obtain ⟨D, hD⟩ : ∃ D, D = w.heap.size := ⟨_, rfl⟩
  obtain ⟨L, hL⟩ : ∃ L, L = w.heap.size + 1 := ⟨_, rfl⟩
  obtain ⟨rec, hrec⟩ : ∃ rec : LoopState → Option Code → Loop, ∀ st pe, rec st pe = { state := st, pending := pe, fn, tmps := a.tmps, params := ps, assign, body, defers := w.heap.size } := ⟨fun st pe => _, fun st pe => rfl⟩
  obtain ⟨W1, hW1⟩ : ∃ W1, W1 = (w.alloc (.deferred (some []))).alloc (.loop (rec .ready none)) := ⟨_, rfl⟩
  have hne : L ≠ D := by omega
  have hO1 : Own2 L D (rec .ready none) W1 := by
    rw [hW1, hL, hD]
    refine ⟨?_, (Below.heap_alloc _ _ _ (by simp)).trans (World.alloc_heap_new w _)⟩
    have := World.alloc_heap_new (w.alloc (.deferred (some []))) (.loop (rec .ready none))
    rwa [World.size_alloc] at this
  have hB1 : Below w0.heap.size w0 W1 := by rw [hW1]; exact bt hb0 (b2alloc w _ _)
  have hI1 : I [] W1 := by rw [hW1]; exact hI.alloc _ (hI.alloc _ h0)
  have hsz1 : w.heap.size ≤ W1.heap.size := by have := hO1.lt; omega
  refine ⟨L, [{ target := .collected D, args := #[] }], W1, { target := .fn (.func gf) lb, args := #[.func (.yield L) #[] #[]] }, W1, gf, #[.func (.yield L) #[] #[]] ++ lb, W1, ?_, ?_, ?_, ?_, fun _ => h1, ?_⟩
  · rw [hW1, hL, hD, hrec]; exact run_enterLoop_outer _ _ _ _ _
  · simp only [resolve, hg]; simp [go_sem, hL]
  · intro f' hf'; trivial
  · simp [invoke, go_sem, eg]
  have hturn : ∀ {A : World} {row : Option Nat}, (∀ r, row = some r → W1.heap.size ≤ r ∧ ∃ o : Obj, A.heap[r]? = some o ∧ o.isWalk = true) → ∀ r, row = some r → w.heap.size ≤ r ∧ ∃ o : Obj, A.heap[r]? = some o ∧ o.isCells = false :=
    fun hr r e => by obtain ⟨hb, o, ho, hw⟩ := hr r e; exact ⟨by omega, o, ho, Obj.not_cells_of_walk hw⟩
  refine (hseq L (fun pre W => I pre W ∧ Own2 L D (rec .ready none) W) (fun pre W => ∃ c, Ix c pre W ∧ Own2 L D (rec .done (some c)) W) W1 hB1
    (fun s A B row hs hgr hr => ⟨hI s A B row hs.1 hgr (hturn hr), hs.2.grown hgr (fun j e => (hr j e).2)⟩)
    (fun s A B row hs hgr hr => by obtain ⟨c, h2, h3⟩ := hs; exact ⟨c, hIx c s A B row h2 hgr (hturn hr), h3.grown hgr (fun j e => (hr j e).2)⟩) (fun pre A B hs ht => ⟨hIT pre A B hs.1 ht, hOT A B L _ (by omega) hs.2.1 ht, hOT A B D _ (by omega) hs.2.2 ht⟩) ?_ ⟨hI1, hO1⟩).mono ?_
  · rintro pre x W ⟨hi, ho⟩ hok hlen
    have hy := run_yield (P := P) (args := encs x) ho.1 (by rw [hrec]; exact hps x)
    rw [hrec] at hy
    refine ⟨fn, _, assign, body, hy, roundIn_of_wpIn hfn (wpIn_mono (hassign L pre x W hi hok hlen) ?_)⟩
    rintro e0 a2 W2 hp0
    cases e0 <;> first | exact hp0.elim | skip
    obtain ⟨hk0, hkp0, hm0⟩ := hp0
    have ho0 := ho.keeps hk0
    refine ⟨_, run_beginRound (P := P) ho0.1 (by rw [hrec]), ?_⟩
    have ho2 := ho0.put hne { rec .ready none with state := .busy }
    have hk2 : Kp W (W2.putObj L (.loop { rec .ready none with state := .busy })) := hKt hkp0 (hKb _ _ _ _ (by omega) ho0.1 rfl rfl)
    have hm2 : M pre x a2 (W2.putObj L (.loop { rec .ready none with state := .busy })) := hM _ _ _ _ _ _ _ (by omega) ho0.1 rfl hm0
    refine wpIn_mono (hbody L pre x a2 _ hm2 hlen) ?_
    have leave : ∀ (c : Code) (W3 : World), KeepsOthers (W2.putObj L (.loop { rec .ready none with state := .busy })) W3 → Ix c (pre ++ [x]) W3 →
        ∃ v w', (Instr.endRound L (some c)).run P W3 = .ok v w' ∧ ((Ending.returned v = .returned (.bool true) ∧ (I (pre ++ [x]) w' ∧ Own2 L D (rec .ready none) w') ∧ Kp W w') ∨ (Ending.returned v = .returned (.bool false) ∧ ∃ c, Ix c (pre ++ [x]) w' ∧ Own2 L D (rec .done (some c)) w')) := by
      intro c W3 hk3 hx3
      have ho3 := ho2.keeps hk3
      refine ⟨_, _, run_endRound (P := P) (some c) ho3.1, .inr ⟨rfl, c, (hIx c).putObj _ hx3 (by omega) ho3.1 rfl, ?_⟩⟩
      have := ho3.put hne { rec .ready none with state := .done, pending := some c }
      rw [hrec] at this ⊢
      rw [hrec]
      exact this
    rintro e a3 W3 hp
    cases e with
    | normal =>
      obtain ⟨hk3, hkp3, hi3⟩ := hp
      have ho3 := ho2.keeps hk3
      refine ⟨_, _, run_endRound (P := P) none ho3.1, .inl ⟨rfl, ⟨hI.putObj _ hi3 (by omega) ho3.1 rfl, ?_⟩, hKt (hKt hk2 hkp3) (hKb _ _ _ _ (by omega) ho3.1 rfl rfl)⟩⟩
      have := ho3.put hne (rec .ready none)
      rw [hrec] at this ⊢
      exact this
    | ret => exact leave _ _ hp.1 hp.2
    | exit id => exact leave _ _ hp.1 hp.2
    | goto t => exact leave _ _ hp.1 hp.2
    | panic ch => exact hp.elim
    | outgrown => exact hp.elim
  · rintro e W2 ⟨⟨v, rfl⟩, h2⟩
    rcases h2 with ⟨xs, hS, hi, ho⟩ | ⟨pre, hSp, c, hi, ho⟩
    · have hr := run_endLoop (P := P) ho.1 (by rw [hrec]; simp)
      rw [hrec] at hr
      refine ⟨none, _, hr, ?_⟩
      rw [hD]
      rw [hD] at ho
      exact hdone _ xs _ (Nat.le_refl _) hS (hI.putObj _ hi (by omega) ho.1 rfl) ((World.putObj_heap_other (by omega)).trans ho.2)
    · have hr := run_endLoop (P := P) ho.1 (by rw [hrec]; simp)
      rw [hrec] at hr
      refine ⟨some c, _, hr, ?_⟩
      rw [hD]
      rw [hD] at ho
      exact hstop _ c pre _ (Nat.le_refl _) hSp ((hIx c).putObj _ hi (by omega) ho.1 rfl) ((World.putObj_heap_other (by omega)).trans ho.2)
end Go.Proofs.YtnfhlnkbkfgihaaDoor.Ch

/- A region that draws its order, in a round of a range over a function: what is shown of it outside the fence holds within. -/
namespace Go.Proofs.YtnfhlnkbkfgihaaDoor
open Go.RowKit
set_option linter.unusedVariables false

section
variable {P : Program} {Q Q' : Exit → Act → World → Prop} {r n : Nat}
theorem fnW (f : FuncId) : (Fence.wide.inRound r).fn f := trivial
theorem oper_in {o : Oper} {a : Act} {w : World} {K K' : Act → World → Prop} (hd : ∀ c, o.op ≠ .defer c) (hno : ¬ LetsOut Q) (hk : ∀ a w, K a w → K' a w) (hq : ∀ e a w, Q e a w → Q' e a w) (h : o.wp P a w K Q) :
    o.wpIn (Fence.wide.inRound r) n P a w K' Q' := by
  refine ⟨fun f _ => trivial, ?_⟩
  rw [Oper.semAt_plain _ _ _ hd]
  unfold Oper.wp at h
  generalize (execOp a.eval o).run P w = x at *
  cases x with
  | halt hx w' =>
    cases hx <;> first | exact hq _ _ _ h | exact h.elim
  | ok nx w' =>
    cases nx with
    | value v => exact hk _ _ h
    | skip => exact hk _ _ h
    | defer d => exact hk _ _ h
    | enter f args =>
      refine ⟨fun h => by simp [Fence.wide] at h, (CallsIn.inRound r (callsIn_wide.2 h)).mono ?_⟩
      intro e w2 he
      cases e with
      | returned v => exact hk _ _ he
      | panicked c => exact hq _ _ _ he
      | outgrown => exact absurd he hno
    | row row args =>
      refine ⟨fun h => by simp [Fence.wide] at h, fun c cs _ => ?_⟩
      obtain ⟨v, w2, hv, hs⟩ := h c cs
      exact ⟨v, w2, hk _ _ hv, stepsIn_wide.2 hs⟩
    | _ => exact h.elim
theorem any_in {md : Region.Mode} {ops : Array Oper} (hd : ∀ (j : Nat) (o : Oper), ops[j]? = some o → ∀ c : Call, o.op ≠ Op.defer c) (hno : ¬ LetsOut Q) (hq : ∀ e a w, Q e a w → Q' e a w) :
    ∀ (g : Nat) (listed : Array Bool) (a : Act) (w : World), wpAny P md ops Q g listed a w → wpAnyIn (Fence.wide.inRound r) n P md ops Q' g listed a w
  | 0, listed, a, w, h => ⟨h.1, hq _ _ _ h.2⟩
  | g + 1, listed, a, w, h => by
    refine ⟨fun h0 => hq _ _ _ (h.1 h0), fun i hi => ?_⟩
    have h1 := h.2 i hi
    unfold wpOp at h1
    unfold wpOpIn
    cases ho : ops[i]? with
    | none => rw [ho] at h1; exact any_in hd hno hq g _ _ _ h1
    | some o =>
      rw [ho] at h1
      simp only at h1 ⊢
      split
      · rename_i hw
        rw [if_pos hw] at h1
        rcases h1 with h1 | h1
        · exact oper_in (hd i o ho) hno (fun a w h => any_in hd hno hq g _ a w h) hq h1
        · exact absurd h1.2 hno
      · rename_i hw
        rw [if_neg hw] at h1
        exact ⟨fun f _ => trivial, any_in hd hno hq g _ _ _ h1⟩
/-- no operation defers a call -/
def noDefer (l : List Oper) : Bool := l.all fun o => match o.op with | .defer _ => false | _ => true
theorem noDefer_spec {l : List Oper} (h : noDefer l = true) : ∀ (j : Nat) (o : Oper), l.toArray[j]? = some o → ∀ c : Call, o.op ≠ Op.defer c := by
  intro j o ho c hc
  have := List.all_eq_true.1 h o (by rw [List.getElem?_toArray] at ho; exact List.mem_of_getElem? ho)
  rw [hc] at this
  cases this
/-- only to the end, and no panic -/
def Nrm (Q : Exit → Act → World → Prop) (e : Exit) (a : Act) (w : World) : Prop := e = .normal ∧ Q .normal a w
theorem Nrm.no (Q : Exit → Act → World → Prop) : ¬ LetsOut (Nrm Q) := by rintro ⟨a, w, h, _⟩; cases h
theorem Nrm.all {Q : Exit → Act → World → Prop} : ∀ e a w, Nrm Q e a w → Q e a w := by rintro e a w ⟨rfl, h⟩; exact h
theorem region_inb_tail_in {id : Nat} {a : Act} {w : World} {l : List Oper} (k : Nat) (hm : P.follows .mixedOrders = true) (hB : Region.lexTailB .any l.toArray k = true) (hdf : noDefer l = true)
    (h : wpQuiet P l.toArray (InB w) (fun a' => ∀ w', InB w w' → wpList P l.toArray (Nrm Q) (l.drop k) a' w') (l.take k) a) : (Code.region id l.toArray true).wpIn (Fence.wide.inRound r) n P Q a w := by
  simp only [Region.lexTailB, Bool.and_eq_true, decide_eq_true_eq] at hB
  obtain ⟨⟨⟨⟨hsel, hn⟩, hs⟩, hc⟩, hlex⟩ := hB
  have hn' : k < l.length := by simpa using hn
  have htl : (l.take k).length = k := by simp; omega
  have hdl : (l.drop k).length = l.toArray.size - k := by simp
  have inv0 : HeadInv .any l.toArray k (Array.replicate l.toArray.size false) :=
    ⟨by simp, fun j oj _ hl => (by rw [getD_replicate_false] at hl; cases hl), fun t _ ht => getD_in (by simpa using ht) (getD_replicate_false _ _)⟩
  have H := headQ_lex (md := .any) (g := l.toArray.size - k) hsel hs hc hn (l.take k) 0 _ a (fun j hj => by
    have hj' : j < k := by rw [htl] at hj; exact hj
    simp [hj']) (by simpa using htl) inv0 (by rw [htl]; exact hlex) h
  refine wpIn_region_any hm (any_in (noDefer_spec hdf) (Nrm.no Q) Nrm.all _ _ _ _ ?_)
  have := any_of_headQ (Q' := Nrm Q) (g := l.toArray.size - k) (fun listed a' w' hw' hL => by
    have := wpAny_of_seq (md := .any) (Q' := Nrm Q) (l.drop k) k listed a' w' (fun j => by simp [List.getElem?_drop]) (by rw [hdl]; exact hL.1) (hL.2 w' hw')
    rwa [hdl] at this) _ _ _ _ (InB.start w) H
  rw [htl, show k + (l.toArray.size - k) = l.toArray.size by omega] at this
  exact this
/-- a region that draws, in a round: its orders as outside the fence -/
theorem region_any_in {id : Nat} {a : Act} {w : World} {l : List Oper} (hm : P.follows .mixedOrders = true) (hdf : noDefer l = true)
    (h : wpAny P .any l.toArray (Nrm Q) l.toArray.size (Array.replicate l.toArray.size false) a w.drew) : (Code.region id l.toArray true).wpIn (Fence.wide.inRound r) n P Q a w :=
  wpIn_region_any hm (any_in (noDefer_spec hdf) (Nrm.no Q) Nrm.all _ _ _ _ h)
end
theorem step_app {P : Program} (w : World) {ops : Array Oper} {o : Oper} {a : Act} {K : Act → World → Prop} {Q : Exit → Act → World → Prop} {E : Prop} (hgd : o.guard = none) (s x : Operand) (t : TypeId)
    (ho : o.op = .call { callee := .builtin .append, args := #[s, x], argTypes := #[t, t] })
    (base : Nat) (e : TypeId) (i : TypeInfo) (z : Value) (size bytes : Nat) (ht : P.underlying t = some (.slice e)) (hi : P.info? e = some i) (hz : i.zero = some z)
    (hsize : i.size = size) (hby : i.bytes = bytes) (hzs : z.cells.size = size) (hsz : 0 < size)
    (v : Value) (n : Nat) (xs : List Value) (hs : a.eval s = v) (hown : w.ownsRow base e size v n xs)
    (A : Option Addr) (m c : Nat) (news : List Value) (hx : a.eval x = .slice A m c) (hl : news.length = m * size) (hr : Rd w w.heap.size A news) (h1 : ∀ u ∈ news, u.oneCell' = true)
    (h63 : n + m ≤ maxLen) (hbytes : (n + m) * bytes ≤ 140737488355328) (hbase : base ≤ w.heap.size)
    (h : ∀ v' w', w'.ownsRow base e size v' (n + m) (xs ++ news) → w.grownBy w' v.ownBlock → K (a.put o.dst v') w') :
    if Region.wanted o (yielded ops a.tmps) = true then Oper.wp P o a w K Q else E := by
  have hw : Region.wanted o (yielded ops a.tmps) = true := by simp [Region.wanted, hgd]
  rw [if_pos hw]
  exact wp_append_rd w s x t ho base e i z size bytes ht hi hz hsize hby hzs hsz v n xs hs hown w.heap.size A m c news hx hl hr h1 h63 hbytes hbase fun v' w' h2 h3 _ => h v' w' h2 h3
end Go.Proofs.YtnfhlnkbkfgihaaDoor

/- A range over strings.SplitSeq(s, "."): its iterator hands the pieces of a text, and turns the cell that it keeps the rest in. No statement is proved here. -/
namespace Go.Proofs.YtnfhlnkbkfgihaaDoor.Nam
open Go.RowKit Go.Shelf
open Go.Proofs.YtnfhlnkbkfgihaaDoor.Ch (SeqSt range_st)
set_option linter.unusedVariables false
set_option maxRecDepth 100000
attribute [local go_sem] Oper.semAt_some
/-- the place of the first point -/
def ptN : List UInt8 → Nat
  | [] => 0
  | c :: r => if c = 46 then 0 else ptN r + 1
theorem idx_no : ∀ (l : List UInt8), (∀ c ∈ l, c ≠ 46) → Lib.indexByte l 46 = -1
  | [], _ => rfl
  | c :: r, h => by
    have h1 := idx_no r (fun d hd => h d (by simp [hd]))
    have h2 : (c == (46 : UInt8)) = false := by simpa using h c (by simp)
    unfold Lib.indexByte
    rw [h2, h1]; rfl
theorem idx_yes : ∀ (l : List UInt8), 46 ∈ l → Lib.indexByte l 46 = (ptN l : Int) ∧ ptN l < l.length ∧ l = l.take (ptN l) ++ 46 :: l.drop (ptN l + 1) ∧ ∀ c ∈ l.take (ptN l), c ≠ 46
  | [], h => absurd h (by simp)
  | c :: r, h => by
    by_cases hc : c = 46
    · subst hc
      have e : ptN (46 :: r) = 0 := if_pos rfl
      rw [e]
      exact ⟨by unfold Lib.indexByte; rw [if_pos (by rfl)]; rfl, by simp, by simp, fun c hc => by simp at hc⟩
    · have hr : 46 ∈ r := by
        rcases List.mem_cons.1 h with e | e
        · exact absurd e.symm hc
        · exact e
      obtain ⟨h1, h2, h3, h4⟩ := idx_yes r hr
      have e : ptN (c :: r) = ptN r + 1 := if_neg hc
      have hb : (c == (46 : UInt8)) = false := by simpa using hc
      have hn : (((ptN r : Nat) : Int) == -1) = false := by
        have : ((ptN r : Nat) : Int) ≠ -1 := by omega
        exact beq_no this
      rw [e]
      refine ⟨?_, by simp; omega, ?_, fun d hd => ?_⟩
      · unfold Lib.indexByte
        rw [hb, h1, hn]
        simp
      · rw [List.take_succ_cons, List.drop_succ_cons, List.cons_append, ← h3]
      · rw [List.take_succ_cons] at hd
        rcases List.mem_cons.1 hd with e | e
        · rw [e]; exact hc
        · exact h4 d e
theorem pieces_at {l : List UInt8} (h : 46 ∈ l) : pieces l = l.take (ptN l) :: pieces (l.drop (ptN l + 1)) := by
  obtain ⟨_, _, h3, h4⟩ := idx_yes l h
  have := pieces_cut (l.take (ptN l)) (l.drop (ptN l + 1)) h4
  rw [← h3] at this
  exact this
theorem no_pt {l : List UInt8} (h : ¬ 46 ∈ l) : ∀ c ∈ l, c ≠ 46 := fun c hc e => h (e ▸ hc)
theorem pieces_few : ∀ l : List UInt8, (pieces l).length ≤ l.length + 1
  | [] => by simp [pieces]
  | c :: r => by
    have h := pieces_few r
    rw [pieces_cons]
    split
    · simp; omega
    · split
      · simp
      · rename_i p ps e
        rw [e] at h
        simp at h ⊢
        omega
theorem sindex_yes (l : List UInt8) (w : World) (h : 46 ∈ l) : Calls Tryd.prog 75 #[.string ⟨l.toArray⟩, .string ⟨#[46]⟩] w fun e w' => e = .returned (.int .i64 (ptN l : Int)) ∧ w' = w := by
  have hh := Any.strings_Index_one Utf.laysIndex ⟨l.toArray⟩ 46 w
  rw [show (⟨l.toArray⟩ : ByteArray).data.toList = l from rfl, (idx_yes l h).1] at hh
  exact hh
theorem sindex_no (l : List UInt8) (w : World) (h : ¬ 46 ∈ l) : Calls Tryd.prog 75 #[.string ⟨l.toArray⟩, .string ⟨#[46]⟩] w fun e w' => e = .returned (.int .i64 (-1)) ∧ w' = w := by
  have hh := Any.strings_Index_one Utf.laysIndex ⟨l.toArray⟩ 46 w
  rw [show (⟨l.toArray⟩ : ByteArray).data.toList = l from rfl, idx_no l (no_pt h)] at hh
  exact hh
/-- three blocks stay as they are -/
def Kp3 (Bs Be Bv : Nat) (A B : World) : Prop := A.heap.size ≤ B.heap.size ∧ ∀ j, (j = Bs ∨ j = Be ∨ j = Bv) → B.heap[j]? = A.heap[j]?
/-- how long the rest is -/
def lenAt (W : World) (B : Nat) : Nat := match W.cell? ⟨B, 0, none⟩ with
  | some (.string s) => s.size
  | _ => 0
theorem lenAt_box {W : World} {B : Nat} {l : List UInt8} (h : Box W B (.string ⟨l.toArray⟩)) : lenAt W B = l.length := by
  unfold lenAt
  rw [h.cell]
  exact Utf.ba_size l
theorem take_one_more (pre : List (List UInt8)) (x : List UInt8) (r : List (List UInt8)) : pre ++ [x] = (pre ++ x :: r).take (pre.length + 1) := by
  rw [show pre ++ x :: r = (pre ++ [x]) ++ r by simp, List.take_left' (by simp)]
theorem box_other {w : World} {g b : Nat} {u : Value} (h : Box w g u) (v : Value) (hn : g ≠ b) : Box (w.setCell ⟨b, 0, none⟩ v) g u := h.elim fun t hh => ⟨t, (heap_setCell_other w _ g v (by simpa using hn)).trans hh⟩
set_option maxHeartbeats 1000000 in
theorem split_in (n : Nat) (hn : 1 ≤ n) (lp Bs Be Bv : Nat) (s : List UInt8) (hl : s.length ≤ 1000000) (w : World) (hBs : Box w Bs (.string ⟨s.toArray⟩)) (hBe : Box w Be (.string ⟨#[46]⟩)) (hBv : Box w Bv (.int .i64 0)) (hn1 : Be ≠ Bs) (hn2 : Bv ≠ Bs)
    (J Jx : List (List UInt8) → World → Prop)
    (hY : ∀ pre x W, J pre W → x.length ≤ s.length → pre.length < s.length + 1 → YieldAt Fence.wide (n - 1) Tryd.prog lp #[.string ⟨x.toArray⟩] W fun e W' =>
      (e = .returned (.bool true) ∧ J (pre ++ [x]) W' ∧ Kp3 Bs Be Bv W W') ∨ (e = .returned (.bool false) ∧ Jx (pre ++ [x]) W'))
    (W : World) (hW : Below w.heap.size w W) (hJt : ∀ pre (A : World) v, J pre A → J pre (A.setCell ⟨Bs, 0, none⟩ v)) (h0 : J [] W) :
    CallsIn Fence.wide n Tryd.prog 73 #[.func (.yield lp) #[] #[], .pointer (some ⟨Be, 0, none⟩), .pointer (some ⟨Bs, 0, none⟩), .pointer (some ⟨Bv, 0, none⟩)] W fun e W' => (∃ v, e = .returned v) ∧
      ((∃ ys, ys = pieces s ∧ J ys W') ∨ (∃ pre, (∃ m, pre = (pieces s).take m ∧ 1 ≤ m) ∧ Jx pre W')) := by
  have hS0 := hBs.below hW hBs.lt
  have hE0 := hBe.below hW hBe.lt
  have hV0 := hBv.below hW hBv.lt
  have hpf := Lib.hid (pieces_few s)
  have hn1' := Lib.hid hn1
  have hn2' := Lib.hid hn2
  have e0 := hE0.cell
  have s0 := hS0.cell
  have v0 := hV0.cell
  refine callsIn_of_wp Tryd.func73 rfl trivial ?_ rfl
  simp only [Tryd.ntmps73, List.size_toArray, List.length_cons, List.length_nil, Nat.reduceAdd, Nat.reduceSub, Array.replicate_succ, Array.replicate_zero, List.push_toArray, List.append_toArray, List.nil_append, List.cons_append]
  gi_wp2_with fail
  gi_loopw [7, 8] (fun i f wr => ∃ (pre : List (List UInt8)) (r : List UInt8), Hid (pieces s = pre ++ pieces r ∧ r.length ≤ s.length) ∧ Box wr Bs (.string ⟨r.toArray⟩) ∧ Box wr Be (.string ⟨#[46]⟩) ∧ Box wr Bv (.int .i64 0) ∧ J pre wr) (fun _ _ wr => lenAt wr Bs)
  case atStart => exact ⟨[], s, Lib.hid ⟨rfl, Nat.le_refl _⟩, hS0, hE0, hV0, h0⟩
  case round =>
    obtain ⟨pre, r, hp, hS, hE, hV, hJ⟩ := hrel
    have e1 := hE.cell
    have s1 := hS.cell
    have v1 := hV.cell
    have hsb : Bs < wr.heap.size := hS.lt
    clear e0 s0 v0 h0 hS0 hE0 hV0
    have hrl : r.length ≤ 1000000 := by have := hp.out.2; omega
    by_cases h46 : 46 ∈ r
    · have hI := Lib.hid (fun W => sindex_yes r W h46)
      obtain ⟨_, i2, i3, i4⟩ := idx_yes r h46
      have hpc := Lib.hid (pieces_at h46)
      have hlen := Lib.hid (show (r.drop (ptN r + 1)).length = r.length - (ptN r + 1) from List.length_drop)
      have hex := Lib.hid (Utf.ex_take r (ptN r))
      have hed := Lib.hid (Utf.ex_drop r (ptN r + 1))
      obtain ⟨i, hi⟩ : ∃ i, i = ptN r := ⟨_, rfl⟩
      rw [← hi] at hI i2 hpc hlen hex hed
      have hi0 : ¬ (i : Int) < 0 := by omega
      have hsz : (⟨r.toArray⟩ : ByteArray).size = r.length := Utf.ba_size r
      have hpre := Lib.hid (show pre.length < s.length + 1 by
        have h1 := congrArg List.length hp.out.1
        rw [List.length_append, hpc.out, List.length_cons] at h1
        have := hpf.out; omega)
      have hw0 : IntKind.i64.wrap ((i : Int) + 0) = (i : Int) := by rw [Int.add_zero]; exact wrap_small (by omega) (by omega)
      have hw1 : IntKind.i64.wrap ((i : Int) + 1) = (i : Int) + 1 := wrap_small (by omega) (by omega)
      clear hi i3 i4
      gi_wp2_with fail
      refine ⟨trivial, (callsIn_wide.2 (hI.out _)).mono ?_⟩
      rintro ee w2 ⟨rfl, rfl⟩
      have hYk := hY pre (r.take i) w2 hJ (by have := hp.out.2; rw [List.length_take]; omega) hpre.out
      obtain ⟨fn, tmps, assign, body, hy, hRr⟩ := hYk
      rw [← hex.out] at hy
      gi_wp2_with fail
      refine hRr.mono ?_
      rintro e7 w7 (⟨rfl, hJ7, hk7⟩ | ⟨rfl, hJx7⟩)
      · have hS7 : Box w7 Bs (.string ⟨r.toArray⟩) := hS.elim fun T hT => ⟨T, (hk7.2 _ (.inl rfl)).trans hT⟩
        have hE7 : Box w7 Be (.string ⟨#[46]⟩) := hE.elim fun T hT => ⟨T, (hk7.2 _ (.inr (.inl rfl))).trans hT⟩
        have hV7 : Box w7 Bv (.int .i64 0) := hV.elim fun T hT => ⟨T, (hk7.2 _ (.inr (.inr rfl))).trans hT⟩
        clear e1 s1 v1
        have e1 := hE7.cell
        have s1 := hS7.cell
        have v1 := hV7.cell
        have f1 := hS7.free
        gi_wp2_with fail
        case roundEnd =>
          rw [hed.out]
          refine ⟨⟨pre ++ [r.take i], r.drop (i + 1), Lib.hid ⟨by rw [hp.out.1, hpc.out]; simp, by rw [hlen.out]; have := hp.out.2; omega⟩, hS7.set _, box_other hE7 _ hn1'.out, box_other hV7 _ hn2'.out, hJt _ _ _ hJ7⟩, ?_⟩
          rw [lenAt_box (hS7.set _), lenAt_box hS, hlen.out]
          omega
      · gi_wp2_with fail
        refine bodyPost_ret (results_none rfl _ _ _) rfl ?_
        exact ⟨⟨_, rfl⟩, .inr ⟨_, ⟨pre.length + 1, by rw [hp.out.1, hpc.out]; exact take_one_more _ _ _, by omega⟩, hJx7⟩⟩
    · have hI := Lib.hid (fun W => sindex_no r W h46)
      have hpc := Lib.hid (pieces_one r (no_pt h46))
      have hpre := Lib.hid (show pre.length < s.length + 1 by
        have h1 := congrArg List.length hp.out.1
        rw [List.length_append, hpc.out, List.length_singleton] at h1
        have := hpf.out; omega)
      have hm1 : (-1 : Int) < 0 := by decide
      gi_wp2_with fail
      refine ⟨trivial, (callsIn_wide.2 (hI.out _)).mono ?_⟩
      rintro ee w2 ⟨rfl, rfl⟩
      have hYk := hY pre r w2 hJ hp.out.2 hpre.out
      obtain ⟨fn, tmps, assign, body, hy, hRr⟩ := hYk
      gi_wp2_with fail
      refine hRr.mono ?_
      rintro e7 w7 (⟨rfl, hJ7, hk7⟩ | ⟨rfl, hJx7⟩)
      · gi_wp2_with fail
        go_end0
        exact ⟨⟨_, rfl⟩, .inl ⟨_, by rw [hp.out.1, hpc.out], hJ7⟩⟩
      · gi_wp2_with fail
        go_end0
        exact ⟨⟨_, rfl⟩, .inr ⟨_, ⟨pre.length + 1, by rw [hp.out.1, hpc.out]; exact take_one_more _ _ [], by omega⟩, hJx7⟩⟩
/-- the three boxes of such an iterator -/
structure SpAt (w : World) (Bs : Nat) (s : List UInt8) : Prop where
  text : Box w Bs (.string ⟨s.toArray⟩)
  sep : Box w (Bs + 1) (.string ⟨#[46]⟩)
  save : Box w (Bs + 2) (.int .i64 0)
def Tw1 (Bs : Nat) (A B : World) : Prop := ∃ v, B = A.setCell ⟨Bs, 0, none⟩ v
theorem split_ok (n : Nat) (hn : 1 ≤ n) (Bs : Nat) (s : List UInt8) (hl : s.length ≤ 1000000) (w : World) (h : SpAt w Bs s) :
    SeqSt n Tryd.prog 73 #[.pointer (some ⟨Bs + 1, 0, none⟩), .pointer (some ⟨Bs, 0, none⟩), .pointer (some ⟨Bs + 2, 0, none⟩)] (fun x : List UInt8 => #[.string ⟨x.toArray⟩]) (fun _ x => x.length ≤ s.length) (Kp3 Bs (Bs + 1) (Bs + 2)) (Tw1 Bs) (fun ys => ys = pieces s) (fun pre => ∃ m, pre = (pieces s).take m ∧ 1 ≤ m) (s.length + 1) w := fun lp J Jx W hW _ _ hT hY h0 =>
  split_in n hn lp Bs (Bs + 1) (Bs + 2) s hl w h.text h.sep h.save (by omega) (by omega) J Jx hY W hW (fun pre A v hJ => hT pre A _ hJ ⟨v, rfl⟩) h0
theorem splitseq_any (s : List UInt8) (w : World) : Calls Tryd.prog 59 #[.string ⟨s.toArray⟩, .string ⟨#[46]⟩] w fun e w' => e = .returned (.func (.func 73) #[] #[.pointer (some ⟨w.heap.size + 1, 0, none⟩), .pointer (some ⟨w.heap.size, 0, none⟩), .pointer (some ⟨w.heap.size + 2, 0, none⟩)]) ∧ SpAt w' w.heap.size s ∧ Below w.heap.size w w' := by
  have hmf : ∀ (fn : Fn) (first cap : Array Value) (w : World), (Instr.makeFunc fn first cap).run Tryd.prog w = .ok (.func fn first cap) w := fun _ _ _ _ => rfl
  have h0 := ((Box.new w 9 (.string ⟨s.toArray⟩)).alloc (.cells #[.string ⟨#[46]⟩] 9)).alloc (.cells #[.int .i64 0] 3)
  have h1 := (Box.new (w.alloc (.cells #[.string ⟨s.toArray⟩] 9)) 9 (.string ⟨#[46]⟩)).alloc (.cells #[.int .i64 0] 3)
  have h2 := Box.new ((w.alloc (.cells #[.string ⟨s.toArray⟩] 9)).alloc (.cells #[.string ⟨#[46]⟩] 9)) 3 (.int .i64 0)
  simp only [World.size_alloc] at h1 h2
  have key : Calls Tryd.prog 67 #[.string ⟨s.toArray⟩, .string ⟨#[46]⟩, .int .i64 0] w fun e w' => e = .returned (.func (.func 73) #[] #[.pointer (some ⟨w.heap.size + 1, 0, none⟩), .pointer (some ⟨w.heap.size, 0, none⟩), .pointer (some ⟨w.heap.size + 2, 0, none⟩)]) ∧ SpAt w' w.heap.size s ∧ Below w.heap.size w w' := by
    go_enter Tryd.func67, Tryd.ntmps67
    go_wp2
    go_ret
    exact ⟨rfl, ⟨h0, h1, h2⟩, b3alloc _ _ _ _⟩
  go_enter Tryd.func59, Tryd.ntmps59
  go_wp2_with (go_at_call 67; refine key.mono ?_; rintro e w1 ⟨rfl, hs, b1⟩)
  go_ret
  exact ⟨rfl, hs, b1⟩
end Go.Proofs.YtnfhlnkbkfgihaaDoor.Nam

/- Texts as runes, the plain law: what is read of written runes; letters made small; what is cut off. -/
namespace Go.Proofs.YtnfhlnkbkfgihaaDoor.Utf
set_option linter.unusedVariables false
def encs (rs : List Nat) : List UInt8 := rs.flatMap enc
theorem encs_nil : encs [] = [] := rfl
theorem encs_cons (r : Nat) (rs : List Nat) : encs (r :: rs) = enc r ++ encs rs := rfl
theorem encs_append (a b : List Nat) : encs (a ++ b) = encs a ++ encs b := List.flatMap_append
theorem encs_snoc (a : List Nat) (r : Nat) : encs (a ++ [r]) = encs a ++ enc r := by rw [encs_append]; simp [encs]
/-- what was read is what stands there -/
theorem scan_bytes : ∀ (n : Nat) (l : List UInt8), l.length ≤ n → encs (scan l).1 = l.take (scan l).2
  | 0, l, h => by
    obtain rfl : l = [] := List.eq_nil_of_length_eq_zero (by omega)
    rw [scan_nil]; rfl
  | n + 1, l, h => by
    by_cases hf : (first l).2 = 0
    · rw [scan_no l hf]; rfl
    · have hs := first_size l hf
      rw [scan_yes l hf]
      simp only
      rw [encs_cons, scan_bytes n _ (by rw [List.length_drop]; omega), (first_right l hf).2, List.take_add]
theorem scan_right : ∀ (n : Nat) (l : List UInt8), l.length ≤ n → ∀ r ∈ (scan l).1, right r = true
  | 0, l, h => by
    obtain rfl : l = [] := List.eq_nil_of_length_eq_zero (by omega)
    rw [scan_nil]; simp
  | n + 1, l, h => by
    by_cases hf : (first l).2 = 0
    · rw [scan_no l hf]; simp
    · have hs := first_size l hf
      rw [scan_yes l hf]
      intro r hr
      rcases List.mem_cons.1 hr with rfl | hr
      · exact (first_right l hf).1
      · exact scan_right n _ (by rw [List.length_drop]; omega) r hr
theorem right_le {r : Nat} (h : right r = true) : r ≤ 1114111 ∧ (r < 55296 ∨ 57343 < r) := by unfold right at h; exact of_decide_eq_true h
theorem g_cons0 (a : UInt8) (t : List UInt8) : g (a :: t) 0 = a.toNat := rfl
theorem g_cons1 (a b : UInt8) (t : List UInt8) : g (a :: b :: t) 1 = b.toNat := rfl
theorem g_cons2 (a b c : UInt8) (t : List UInt8) : g (a :: b :: c :: t) 2 = c.toNat := rfl
theorem g_cons3 (a b c d : UInt8) (t : List UInt8) : g (a :: b :: c :: d :: t) 3 = d.toNat := rfl
theorem u8n {a : Nat} (h : a < 256) : (UInt8.ofNat a).toNat = a := by rw [UInt8.toNat_ofNat', Nat.mod_eq_of_lt (by omega)]
/-- a rune is read of its bytes, whatever stands behind -/
theorem first_enc (r : Nat) (t : List UInt8) (hr : right r = true) : first (enc r ++ t) = (r, width r) := by
  have h := right_le hr
  have key : ∀ (l : List UInt8) (n : Nat), n = width r → n = sizeOf1 (g l 0) → n ≤ l.length → conts l n → va l (headOf (g l 0)) (n - 1) = r → l.take n = enc r → 1 ≤ n → first l = (r, width r) := by
    intro l n h1 h2 h3 h4 h5 h6 h7
    unfold first
    rw [← h2, if_neg (by omega), if_neg (by omega), if_neg (fun x => x h4), h5, if_pos ⟨hr, h6.symm⟩, h1]
  have htk : ∀ n, n = width r → (enc r ++ t).take n = enc r := fun n hn => by rw [hn, ← enc_len, List.take_left']; rfl
  rcases (show r < 128 ∨ (128 ≤ r ∧ r < 2048) ∨ (2048 ≤ r ∧ r < 65536) ∨ 65536 ≤ r by omega) with c | ⟨c0, c⟩ | ⟨c0, c⟩ | c0
  · have hw : width r = 1 := by unfold width; rw [if_pos c]
    have he : enc r = [UInt8.ofNat r] := by unfold enc; rw [if_pos c]
    have g0 : g (enc r ++ t) 0 = r := by rw [he]; show (UInt8.ofNat r).toNat = r; exact u8n (by omega)
    refine key _ 1 hw.symm ?_ (by rw [he]; simp) (fun j h1 h2 => by omega) ?_ (htk 1 hw.symm) (by omega)
    · rw [g0]; unfold sizeOf1; rw [if_neg (by omega), if_neg (by omega), if_neg (by omega)]
    · rw [g0]; show headOf r = r; unfold headOf; rw [if_neg (by omega), if_neg (by omega), if_neg (by omega)]
  · have hw : width r = 2 := by unfold width; rw [if_neg (by omega), if_pos c]
    have he : enc r = [UInt8.ofNat (192 + r / 64), UInt8.ofNat (128 + r % 64)] := by unfold enc; rw [if_neg (by omega), if_pos c]
    have g0 : g (enc r ++ t) 0 = 192 + r / 64 := by rw [he]; exact u8n (by omega)
    have g1 : g (enc r ++ t) 1 = 128 + r % 64 := by rw [he]; exact u8n (by omega)
    refine key _ 2 hw.symm ?_ (by rw [he]; simp) ((conts_2 _).2 (by unfold cont; omega)) ?_ (htk 2 hw.symm) (by omega)
    · rw [g0]; unfold sizeOf1; rw [if_neg (by omega), if_neg (by omega), if_pos (by omega)]
    · have hh : headOf (192 + r / 64) = r / 64 := by unfold headOf; rw [if_neg (by omega), if_neg (by omega), if_pos (by omega)]; omega
      rw [g0, hh]
      show r / 64 * 64 + (g (enc r ++ t) 1 - 128) = r
      rw [g1]; omega
  · have hw : width r = 3 := by unfold width; rw [if_neg (by omega), if_neg (by omega), if_pos c]
    have he : enc r = [UInt8.ofNat (224 + r / 4096), UInt8.ofNat (128 + r / 64 % 64), UInt8.ofNat (128 + r % 64)] := by unfold enc; rw [if_neg (by omega), if_neg (by omega), if_pos c]
    have g0 : g (enc r ++ t) 0 = 224 + r / 4096 := by rw [he]; exact u8n (by omega)
    have g1 : g (enc r ++ t) 1 = 128 + r / 64 % 64 := by rw [he]; exact u8n (by omega)
    have g2 : g (enc r ++ t) 2 = 128 + r % 64 := by rw [he]; exact u8n (by omega)
    refine key _ 3 hw.symm ?_ (by rw [he]; simp) ((conts_3 _).2 (by unfold cont; omega)) ?_ (htk 3 hw.symm) (by omega)
    · rw [g0]; unfold sizeOf1; rw [if_neg (by omega), if_pos (by omega)]
    · have hh : headOf (224 + r / 4096) = r / 4096 := by unfold headOf; rw [if_neg (by omega), if_pos (by omega)]; omega
      rw [g0, hh]
      show (r / 4096 * 64 + (g (enc r ++ t) 1 - 128)) * 64 + (g (enc r ++ t) 2 - 128) = r
      rw [g1, g2]; omega
  · have hw : width r = 4 := by unfold width; rw [if_neg (by omega), if_neg (by omega), if_neg (by omega)]
    have he : enc r = [UInt8.ofNat (240 + r / 262144), UInt8.ofNat (128 + r / 4096 % 64), UInt8.ofNat (128 + r / 64 % 64), UInt8.ofNat (128 + r % 64)] := by unfold enc; rw [if_neg (by omega), if_neg (by omega), if_neg (by omega)]
    have g0 : g (enc r ++ t) 0 = 240 + r / 262144 := by rw [he]; exact u8n (by omega)
    have g1 : g (enc r ++ t) 1 = 128 + r / 4096 % 64 := by rw [he]; exact u8n (by omega)
    have g2 : g (enc r ++ t) 2 = 128 + r / 64 % 64 := by rw [he]; exact u8n (by omega)
    have g3 : g (enc r ++ t) 3 = 128 + r % 64 := by rw [he]; exact u8n (by omega)
    refine key _ 4 hw.symm ?_ (by rw [he]; simp) ((conts_4 _).2 (by unfold cont; omega)) ?_ (htk 4 hw.symm) (by omega)
    · rw [g0]; unfold sizeOf1; rw [if_pos (by omega)]
    · have hh : headOf (240 + r / 262144) = r / 262144 := by unfold headOf; rw [if_pos (by omega)]; omega
      rw [g0, hh]
      show ((r / 262144 * 64 + (g (enc r ++ t) 1 - 128)) * 64 + (g (enc r ++ t) 2 - 128)) * 64 + (g (enc r ++ t) 3 - 128) = r
      rw [g1, g2, g3]; omega
theorem width_pos (r : Nat) : 1 ≤ width r := by unfold width; split <;> (try split) <;> (try split) <;> omega
/-- runes are read of their bytes as they were -/
theorem scan_encs : ∀ (rs : List Nat), (∀ r ∈ rs, right r = true) → scan (encs rs) = (rs, (encs rs).length)
  | [], _ => scan_nil
  | r :: rs, h => by
    have hr := h r (List.mem_cons_self ..)
    have hf := first_enc r (encs rs) hr
    have hp := width_pos r
    rw [encs_cons, scan_yes _ (by rw [hf]; simp only; omega), hf]
    simp only
    have hd : (enc r ++ encs rs).drop (width r) = encs rs := by rw [← enc_len, List.drop_left]
    rw [hd, scan_encs rs (fun x hx => h x (List.mem_cons_of_mem _ hx)), List.length_append, enc_len]
theorem whole_encs (rs : List Nat) (h : ∀ r ∈ rs, right r = true) : wholeB (encs rs) = true := by
  unfold wholeB; rw [scan_encs rs h]; simp
/-- letters made small -/
def low (r : Nat) : Nat := if upB (r : Int) = true then r + 32 else r
theorem up_iff (r : Int) : upB r = true ↔ (65 ≤ r ∧ r ≤ 90 ∨ 192 ≤ r ∧ r ≤ 222 ∧ r ≠ 215) := by unfold upB; simp only [decide_eq_true_eq]
theorem low_low (r : Nat) : low (low r) = low r := by
  unfold low
  by_cases h : upB (r : Int) = true
  · have h1 := (up_iff _).1 h
    have h2 : ¬ upB ((r + 32 : Nat) : Int) = true := fun h2 => by
      have := (up_iff _).1 h2
      omega
    rw [if_pos h, if_neg h2]
  · rw [if_neg h, if_neg h]
theorem low_right {r : Nat} (h : right r = true) : right (low r) = true := by
  have h1 := right_le h
  unfold low
  split
  · rename_i hu
    have := (up_iff _).1 hu
    unfold right
    exact decide_eq_true (by omega)
  · exact h
def foldL (l : List UInt8) : List UInt8 := if (scan l).2 = l.length then encs ((scan l).1.map low) else []
theorem fold_fold (l : List UInt8) : foldL (foldL l) = foldL l := by
  unfold foldL
  by_cases h : (scan l).2 = l.length
  · rw [if_pos h]
    have hr : ∀ r ∈ (scan l).1.map low, right r = true := fun r hr => by
      obtain ⟨x, hx, rfl⟩ := List.mem_map.1 hr
      exact low_right (scan_right _ l (Nat.le_refl _) x hx)
    rw [scan_encs _ hr, if_pos rfl]
    simp only [List.map_map]
    congr 1
    exact List.map_congr_left (fun x _ => low_low x)
  · rw [if_neg h, scan_nil]; rfl
/-- the first n runes -/
def cutL (l : List UInt8) (n : Int) : List UInt8 := if n < 1 ∨ ¬ (scan l).2 = l.length then [] else encs ((scan l).1.take n.toNat)
def countL (l : List UInt8) : Int := if (scan l).2 = l.length then ((scan l).1.length : Int) else -1
theorem cut_pre (l : List UInt8) (n : Int) : cutL l n = l.take (cutL l n).length := by
  unfold cutL
  split
  · rfl
  · rename_i h
    have hw : (scan l).2 = l.length := Classical.byContradiction fun e => h (.inr e)
    have hb := scan_bytes _ l (Nat.le_refl _)
    rw [hw, List.take_length] at hb
    have : l = encs ((scan l).1.take n.toNat) ++ encs ((scan l).1.drop n.toNat) := by rw [← encs_append, List.take_append_drop, hb]
    conv => rhs; arg 2; rw [this]
    rw [List.take_left]
theorem cut_count (l : List UInt8) (n : Int) : countL (cutL l n) ≤ max n 0 := by
  unfold cutL
  split
  · rename_i h
    unfold countL; rw [scan_nil]; simp; omega
  · rename_i h
    have hr : ∀ r ∈ (scan l).1.take n.toNat, right r = true := fun r hr => scan_right _ l (Nat.le_refl _) r (List.mem_of_mem_take hr)
    unfold countL
    rw [scan_encs _ hr, if_pos rfl]
    simp only [List.length_take]
    omega
end Go.Proofs.YtnfhlnkbkfgihaaDoor.Utf

/- The walk of Count (and is a text right), at r8's seat. -/
namespace Go.Proofs.YtnfhlnkbkfgihaaDoor.Utf
open Go.RowKit Go.Shelf
set_option linter.unusedVariables false
set_option maxRecDepth 100000
def laysValid_ren : Go.Shelf.Ren := ⟨fun | 196 => 69 | 259 => 78 | n => n, fun | 9 => 9 | 4 => 4 | 3 => 3 | 5 => 5 | 12 => 12 | 119 => 103 | 0 => 0 | 46 => 100 | 139 => 106 | 138 => 105 | 53 => 66 | n => n, fun | 3 => 0 | 4 => 1 | n => n⟩
theorem laysValid : Go.Proofs.Lays.n196 Tryd.prog laysValid_ren := {
  mixed := by kernel_rfl,
  f196 := Tryd.func69.trans (congrArg some (by kernel_rfl)),
  f259 := Tryd.func78.trans (congrArg some (by kernel_rfl)),
  t0 := Tryd.underlying0,
  a0 := Tryd.isAgg0,
  z0 := Tryd.sizeOf0,
  v0 := Tryd.zeroValue0,
  t3 := Tryd.underlying3,
  a3 := Tryd.isAgg3,
  z3 := Tryd.sizeOf3,
  v3 := Tryd.zeroValue3,
  t4 := Tryd.underlying4,
  a4 := Tryd.isAgg4,
  z4 := Tryd.sizeOf4,
  v4 := Tryd.zeroValue4,
  t5 := Tryd.underlying5,
  a5 := Tryd.isAgg5,
  z5 := Tryd.sizeOf5,
  v5 := Tryd.zeroValue5,
  t9 := Tryd.underlying9,
  a9 := Tryd.isAgg9,
  z9 := Tryd.sizeOf9,
  v9 := Tryd.zeroValue9,
  t12 := Tryd.underlying12,
  a12 := Tryd.isAgg12,
  z12 := Tryd.sizeOf12,
  v12 := Tryd.zeroValue12,
  t46 := Tryd.underlying100,
  a46 := Tryd.isAgg100,
  z46 := Tryd.sizeOf100,
  v46 := Tryd.zeroValue100,
  t53 := Tryd.underlying66,
  a53 := Tryd.isAgg66,
  z53 := Tryd.sizeOf66,
  v53 := Tryd.zeroValue66,
  t119 := Tryd.underlying103,
  a119 := Tryd.isAgg103,
  z119 := Tryd.sizeOf103,
  t138 := Tryd.underlying105,
  a138 := Tryd.isAgg105,
  z138 := Tryd.sizeOf105,
  v138 := Tryd.zeroValue105,
  t139 := Tryd.underlying106,
  a139 := Tryd.isAgg106,
  z139 := Tryd.sizeOf106,
  v139 := Tryd.zeroValue106,
  g3 := by kernel_rfl,
  g4 := by kernel_rfl }
theorem validGo_eq : ∀ (n : Nat) (l : List UInt8), l.length ≤ n → Lib.validGoD n l = decide ((scan l).2 = l.length)
  | 0, l, h => by
    obtain rfl : l = [] := List.eq_nil_of_length_eq_zero (by omega)
    rw [scan_nil]; rfl
  | n + 1, l, h => by
    rw [Lib.validGoD]
    by_cases hn : l = []
    · subst hn; rw [if_pos rfl, scan_nil]; rfl
    · rw [if_neg hn]
      have hd : Lib.decodeL l = dec l := by unfold Lib.decodeL; rw [decode_eq]; rfl
      rw [hd]
      have hpos : 0 < l.length := by cases l with | nil => exact absurd rfl hn | cons a t => simp
      by_cases hf : (first l).2 = 0
      · have hde := (dec_none hn).1 hf
        rw [hde, if_pos ⟨rfl, rfl⟩, scan_no l hf]
        exact (decide_eq_false (by simp only; omega)).symm
      · have hds := dec_some hn hf
        have hs := first_size l hf
        rw [if_neg (fun h2 => hf ((dec_none hn).2 (by rw [← h2.1, ← h2.2]))), hds, validGo_eq n _ (by rw [List.length_drop]; omega), scan_yes l hf]
        refine decide_eq_decide.2 ?_
        rw [List.length_drop]
        simp only
        omega
theorem valid_any (l : List UInt8) (w : World) (hl : l.length ≤ 1000000) (hT : Tabs w) : Calls Tryd.prog 69 #[.string ⟨l.toArray⟩] w fun e w' => e = .returned (.bool (decide ((scan l).2 = l.length))) ∧ Below w.heap.size w w' := by
  have h := Any.utf8_ValidString laysValid ⟨l.toArray⟩ w (by rw [ba_size]; omega) hT
  have hd : Lib.validD (⟨l.toArray⟩ : ByteArray).data.toList = decide ((scan l).2 = l.length) := by
    unfold Lib.validD
    exact validGo_eq _ _ (Nat.le_refl _)
  rw [hd] at h
  exact h
set_option maxHeartbeats 1000000 in
theorem count_any (s : List UInt8) (w : World) (hl : s.length ≤ 1000000) (hT : Tabs w) : Calls Tryd.prog 61 #[.string ⟨s.toArray⟩] w fun e w' => e = .returned (.int .i64 (countL s)) ∧ Below w.heap.size w w' := by
  have hv := valid_any s w hl hT
  obtain ⟨C, hC⟩ : ∃ C, C = countL s := ⟨_, rfl⟩
  rw [← hC]
  by_cases hw : (scan s).2 = s.length
  · rw [decide_eq_true hw] at hv
    have Hv := Lib.hid hv
    have hCs := Lib.hid (show C = ((scan s).1.length : Int) from hC.trans (if_pos hw))
    have hsz : (⟨s.toArray⟩ : ByteArray).size = s.length := ba_size s
    have hde := Lib.hid (fun pos => decode_eq s pos)
    have hnxt := Lib.hid (fun w pos (h : pos < s.length) (ty : TypeId) => run_next_any (P := Tryd.prog) w ⟨s.toArray⟩ pos ty (by rw [ba_size]; exact h))
    have hend := Lib.hid (fun w pos (h : ¬ pos < s.length) (ty : TypeId) => run_next_end (P := Tryd.prog) w ⟨s.toArray⟩ pos ty (by rw [ba_size]; exact h))
    have hstep := Lib.hid (fun rs k (hk : k ≤ s.length) (h : scan s = (rs ++ (scan (s.drop k)).1, k + (scan (s.drop k)).2)) hf => scan_step hk h hf)
    have Hw := Lib.hid hw
    obtain ⟨S, hS⟩ : ∃ S : ByteArray, S = ⟨s.toArray⟩ := ⟨_, rfl⟩
    rw [← hS] at hsz hnxt hend hde Hv ⊢
    clear hS hv hC hw
    go_enter Tryd.func61, Tryd.ntmps61
    go_wp2_with (go_at_call 69; refine (Hv.out).mono ?_; rintro e w1 ⟨rfl, b1⟩)
    go_loopw [2] (fun n w' => ∃ (pos : Nat) (rs : List Nat), w' = w1.iter S pos ∧ n = .int .i64 (rs.length : Int) ∧ Hid (scan s = (rs ++ (scan (s.drop pos)).1, pos + (scan (s.drop pos)).2)) ∧ pos ≤ s.length ∧ rs.length ≤ pos) (fun _ w' => s.length - w'.iterPos w1.heap.size)
    case atStart => exact ⟨0, [], rfl, rfl, Lib.hid (by simp), by omega, by simp⟩
    case round =>
      obtain ⟨pos, rs, rfl, rfl, hp, hle, hrk⟩ := hrel
      by_cases hlt : pos < s.length
      · have hnx := hnxt.out w1 pos hlt
        rw [hde.out pos] at hnx
        have hne : s.drop pos ≠ [] := fun e => by have := congrArg List.length e; rw [List.length_drop] at this; simp at this; omega
        have hf : (first (s.drop pos)).2 ≠ 0 := fun h0 => by
          have h2 := hp.out
          rw [scan_no _ h0] at h2
          have h3 := Hw.out
          rw [h2] at h3
          simp only at h3
          omega
        obtain ⟨q1, q2⟩ := hstep.out rs pos hle hp.out hf
        have hs := first_size _ hf
        rw [← dec_some hne hf] at q1 q2 hs
        have Q1 := Lib.hid q1
        have q3 := hs.1
        obtain ⟨D, hD⟩ : ∃ D, D = dec (s.drop pos) := ⟨_, rfl⟩
        rw [← hD] at hnx Q1 q2 q3
        clear hD hne hf hs q1
        obtain ⟨r, wd⟩ := D
        simp only at hnx Q1 q2 q3
        have hw1 : wrap64 ((rs.length : Int) + 1) = (rs.length : Int) + 1 := by unfold wrap64; omega
        go_wp2_with fail
        go_roundw
        case rel => exact ⟨pos + wd, rs ++ [r], rfl, by rw [List.length_append, List.length_singleton]; go_num, Q1, q2, by rw [List.length_append, List.length_singleton]; omega⟩
        case measure => simp; omega
      · obtain rfl : pos = s.length := by omega
        have hnx := hend.out w1 s.length (by omega)
        have he := Lib.hid (show C = (rs.length : Int) by
          rw [hCs.out]
          have h2 := hp.out
          rw [List.drop_length, scan_nil] at h2
          rw [h2]
          simp)
        go_wp2_with fail
        go_ret
        exact ⟨ret_int he.out.symm, bt b1 (below_lit _ _)⟩
  · rw [decide_eq_false hw] at hv
    have Hv := Lib.hid hv
    have hCs := Lib.hid (show C = -1 from hC.trans (if_neg hw))
    obtain ⟨S, hS⟩ : ∃ S : ByteArray, S = ⟨s.toArray⟩ := ⟨_, rfl⟩
    rw [← hS] at Hv ⊢
    clear hS hv hC hw
    go_enter Tryd.func61, Tryd.ntmps61
    go_wp2_with (go_at_call 69; refine (Hv.out).mono ?_; rintro e w1 ⟨rfl, b1⟩)
    go_ret
    exact ⟨ret_int hCs.out.symm, b1⟩
theorem rcount_any (s : List UInt8) (w : World) (hl : s.length ≤ 1000000) : Calls Tryd.prog 51 #[.string ⟨s.toArray⟩] w fun e w' => e = .returned (.int .i64 (countL s)) ∧ Below w.heap.size w w' := by
  have hru := rrunes_any s w hl
  obtain ⟨C, hC⟩ : ∃ C, C = countL s := ⟨_, rfl⟩
  rw [← hC]
  obtain ⟨S, hS⟩ : ∃ S : ByteArray, S = ⟨s.toArray⟩ := ⟨_, rfl⟩
  rw [← hS] at hru ⊢
  by_cases hw : (scan s).2 = s.length
  · rw [show runesR s = ((scan s).1, 0, 0) from if_pos hw] at hru
    have hCs := Lib.hid (show C = ((scan s).1.length : Int) from hC.trans (if_pos hw))
    obtain ⟨rs, hrs⟩ : ∃ rs, rs = (scan s).1 := ⟨_, rfl⟩
    rw [← hrs] at hru hCs
    have Hru := Lib.hid hru
    clear hS hru hC hw hrs
    go_enter Tryd.func51, Tryd.ntmps51
    go_wp2_with (go_at_call 63; refine (Hru.out).mono ?_; rintro e w2 ⟨v2, rfl, own2, b2⟩; obtain ⟨A2, c2, rfl⟩ := own_form own2)
    go_ret
    exact ⟨ret_int hCs.out.symm, b2⟩
  · rw [show runesR s = ([], (scan s).2, 4) from if_neg hw] at hru
    have hCs := Lib.hid (show C = -1 from hC.trans (if_neg hw))
    have Hru := Lib.hid hru
    clear hS hru hC hw
    go_enter Tryd.func51, Tryd.ntmps51
    go_wp2_with (go_at_call 63; refine (Hru.out).mono ?_; rintro e w2 ⟨v2, rfl, own2, b2⟩; obtain ⟨A2, c2, rfl⟩ := own_form own2)
    go_ret
    exact ⟨ret_int hCs.out.symm, b2⟩
end Go.Proofs.YtnfhlnkbkfgihaaDoor.Utf

/- May a text be a name: the program's Right. No statement is proved here. -/
namespace Go.Proofs.YtnfhlnkbkfgihaaDoor.Nam
open Go.RowKit Go.Shelf
open Go.Proofs.YtnfhlnkbkfgihaaDoor.Ch (SeqSt range_st)
open Go.Proofs.YtnfhlnkbkfgihaaDoor.Utf (Tabs part_any count_any countL)
set_option linter.unusedVariables false
set_option maxRecDepth 100000
attribute [local go_sem] Oper.semAt_some
/-- so many runes, and points -/
def sumN (ps : List (List UInt8)) : Nat := (ps.map fun p => cnt p + 1).sum
theorem sumN_snoc (ps : List (List UInt8)) (p : List UInt8) : sumN (ps ++ [p]) = sumN ps + (cnt p + 1) := by simp [sumN]
theorem sumN_le : ∀ (n : Nat) (l : List UInt8), l.length ≤ n → (pieces l).all Utf.part = true → sumN (pieces l) = cnt l + 1 := fun n l hn h => (whole_pieces n l hn h).2.symm
theorem cnt_le (l : List UInt8) : cnt l ≤ l.length := (Utf.scan_le l.length l (Nat.le_refl _)).2.1
theorem count_part {l : List UInt8} (h : Utf.part l = true) : countL l = (cnt l : Int) := by
  unfold countL; rw [if_pos (part_whole h).1]; rfl
/-- what the range has seen -/
structure RInv (w : World) (B : Nat) (ps : List (List UInt8)) (X : World) : Prop where
  res : Box X w.heap.size (.bool false)
  num : Box X (w.heap.size + 1) (.int .i64 (ps.length : Int))
  sum : Box X (w.heap.size + 2) (.int .i64 (sumN ps : Int))
  bel : Below w.heap.size w X
  all : ps.all Utf.part = true
  lim : sumN ps ≤ ps.length * 100001
  siz : B ≤ X.heap.size
theorem RInv.own {w : World} {B : Nat} (hB : w.heap.size + 3 ≤ B) : OwnFrom B (RInv w B) := fun ps X X' row h hg hr =>
  ⟨h.res.kept hg (fun e => by have := (hr _ e.symm).1; omega), h.num.kept hg (fun e => by have := (hr _ e.symm).1; omega), h.sum.kept hg (fun e => by have := (hr _ e.symm).1; omega), h.bel.grown hg (by have := h.bel.size; omega) (fun r e => by have := (hr r e).1; omega), h.all, h.lim, Nat.le_trans h.siz hg.size⟩
theorem RInv.tw {w : World} {n : Nat} {ps : List (List UInt8)} {A B : World} {Bs : Nat} (h : RInv w n ps A) (hB : w.heap.size + 3 ≤ Bs) (ht : Tw1 Bs A B) : RInv w n ps B := by
  obtain ⟨v, rfl⟩ := ht
  exact ⟨box_other h.res v (by omega), box_other h.num v (by omega), box_other h.sum v (by omega), bset h.bel (by omega) v, h.all, h.lim, by simpa using h.siz⟩
theorem kp3_below {Bs Be Bv : Nat} {A B : World} (h : Below A.heap.size A B) (h1 : Bs < A.heap.size) (h2 : Be < A.heap.size) (h3 : Bv < A.heap.size) : Kp3 Bs Be Bv A B :=
  ⟨h.size, fun j hj => by rcases hj with rfl | rfl | rfl <;> exact h.block _ (by assumption)⟩
set_option maxHeartbeats 1000000 in
theorem nright_any (s : List UInt8) (w : World) (hl : s.length ≤ 100000) (hT : Tabs w) : Calls Tryd.prog 47 #[.string ⟨s.toArray⟩] w fun e w' => e = .returned (.bool (nameB s)) ∧ Below w.heap.size w w' := by
  obtain ⟨NB, hNB⟩ : ∃ b, b = nameB s := ⟨_, rfl⟩
  rw [← hNB]
  have HNB := Lib.hid hNB
  clear hNB
  refine (callsIn_wide (n := 8)).1 ?_
  refine callsIn_of_wp_marks Tryd.func47 rfl trivial ?_ rfl
  simp only [Tryd.ntmps47, List.size_toArray, List.length_cons, List.length_nil, Nat.reduceAdd, Nat.reduceSub, Array.replicate_succ, Array.replicate_zero, List.push_toArray, List.append_toArray, List.nil_append, List.cons_append]
  gi_wp2_with fail
  obtain ⟨w0, hw0⟩ : ∃ w0, w0 = ((w.alloc (.cells #[.bool false] 4)).alloc (.cells #[.int .i64 0] 3)).alloc (.cells #[.int .i64 0] 3) := ⟨_, rfl⟩
  have HW0 := Lib.hid hw0
  have b0 : Below w.heap.size w w0 := by rw [hw0]; exact b3alloc _ _ _ _
  have r0 : Box w0 w.heap.size (.bool false) := by rw [hw0]; exact ((Box.new w 4 (.bool false)).alloc _).alloc _
  have r1 : Box w0 (w.heap.size + 1) (.int .i64 0) := by
    rw [hw0]
    have := (Box.new (w.alloc (.cells #[.bool false] 4)) 3 (.int .i64 0)).alloc (.cells #[.int .i64 0] 3)
    simpa using this
  have r2 : Box w0 (w.heap.size + 2) (.int .i64 0) := by
    rw [hw0]
    have := Box.new ((w.alloc (.cells #[.bool false] 4)).alloc (.cells #[.int .i64 0] 3)) 3 (.int .i64 0)
    simpa using this
  rw [show w.heap.size + 1 + 1 = w.heap.size + 2 from rfl]
  rw [← hw0]
  have hs0 : w.heap.size + 3 = w0.heap.size := by rw [hw0]; simp
  clear hw0
  refine ⟨trivial, (callsIn_wide.2 (splitseq_any s _)).mono ?_⟩
  rintro e1 w1 ⟨rfl, hSp, b1⟩
  have b01 := bt b0 b1
  have lS := hSp.text.lt
  have lE := hSp.sep.lt
  have lV := hSp.save.lt
  have q0 := r0.below b1 (by omega)
  have q1 := r1.below b1 (by omega)
  have q2 := r2.below b1 (by omega)
  have hI : OwnFrom w1.heap.size (RInv w w1.heap.size) := RInv.own (by omega)
  have hfew := Lib.hid (pieces_few s)
  gi_wp2_with fail
  refine range_st (n := 8) (by omega) (gf := 73) (lb := #[.pointer (some ⟨w0.heap.size + 1, 0, none⟩), .pointer (some ⟨w0.heap.size, 0, none⟩), .pointer (some ⟨w0.heap.size + 2, 0, none⟩)]) rfl (enters_of Tryd.func73 (by kernel_rfl) rfl)
    (split_ok 7 (by omega) w0.heap.size s (by omega) w1 hSp)
    (fun h k => ⟨Nat.le_trans h.1 k.1, fun j hj => (k.2 j hj).trans (h.2 j hj)⟩)
    (fun W l o o' hl ho _ _ => ⟨by simp, fun j hj => World.putObj_heap_other (by omega)⟩) (Below.refl _ _) (fun _ => rfl)
    (fun ps X => RInv w w1.heap.size ps X)
    (fun c (pre' : List (List UInt8)) X => (∃ (pre : List (List UInt8)) (x : List UInt8), pre' = pre ++ [x] ∧ c = .ret ∧ Utf.part x = false) ∧ Box X w.heap.size (.bool false) ∧ Below w.heap.size w X)
    hI
    (fun c pre X X' row hx hg hr => ⟨hx.1, hx.2.1.kept hg (fun e => by have := (hr _ e.symm).1; omega), hx.2.2.grown hg (by have := hx.2.2.size; omega) (fun r e => by have := (hr r e).1; omega)⟩)
    ⟨q0, q1, q2, b01, rfl, by simp [sumN], Nat.le_refl _⟩
    (fun pre A B h ht => h.tw (by omega) ht)
    (fun A B l o hl ho ht => by obtain ⟨v, rfl⟩ := ht; exact (heap_setCell_other A _ l v (by simp; omega)).trans ho)
    (fun pre x a' X => a' = { tmps := #[.string ⟨s.toArray⟩, undef, .pointer (some ⟨w.heap.size, 0, none⟩), .pointer (some ⟨w.heap.size + 1, 0, none⟩), .pointer (some ⟨w.heap.size + 2, 0, none⟩), .string ⟨x.toArray⟩, .string ⟨s.toArray⟩, .func (.func 73) #[] #[.pointer (some ⟨w0.heap.size + 1, 0, none⟩), .pointer (some ⟨w0.heap.size, 0, none⟩), .pointer (some ⟨w0.heap.size + 2, 0, none⟩)], .string ⟨x.toArray⟩, undef, undef, undef, undef, undef, undef, undef, undef, undef, undef, undef, undef, undef, undef, undef, undef, undef], defers := [] } ∧ RInv w w1.heap.size pre X ∧ x.length ≤ s.length)
    ?_ ?assign ?body ?done ?stop
  · rintro pre x a' X l o o' hl ho hc ⟨rfl, hIx, hxl⟩
    exact ⟨rfl, hI pre X _ (some l) hIx (grownBy_putObj' X l o') (fun r e => by cases e; exact ⟨hl, o, ho, hc⟩), hxl⟩
  case assign =>
    intro lp pre x X hIx hxl hlen
    simp [List.zip_toArray, List.setIfInBounds_toArray]
    gi_wp2
    exact ⟨KeepsOthers.refl _, ⟨Nat.le_refl _, fun j _ => rfl⟩, by first | trivial | rfl, hIx, hxl⟩
  case body =>
    rintro lp pre x a' X ⟨rfl, hIx, hxl⟩ hlen
    have lX := hIx.siz
    have hpx := part_any x X (by omega)
    gi_wp2_with fail
    refine ⟨trivial, (callsIn_wide.2 hpx).mono ?_⟩
    rintro e2 w2 ⟨rfl, b2⟩
    have I2 := hI pre X w2 none hIx (below_grown b2 none) (fun r e => by cases e)
    have ko2 : KeepsOthers X w2 := KeepsOthers.of_grownBy (below_grown b2 none) (fun _ _ e => by cases e)
    have kp2 : Kp3 w0.heap.size (w0.heap.size + 1) (w0.heap.size + 2) X w2 := kp3_below b2 (by omega) (by omega) (by omega)
    have c0 := I2.num.cell
    have f0 := I2.num.free
    have c1 := I2.sum.cell
    have f1 := I2.sum.free
    have c2 := I2.res.cell
    have f2 := I2.res.free
    cases hp : Utf.part x with
    | false =>
      gi_wp2
      exact ⟨ko2.trans (KeepsOthers.setCell _ _ _), ⟨pre, x, rfl, rfl, hp⟩, I2.res.set _, bset I2.bel (by omega) _⟩
    | true =>
      have hcx := cnt_le x
      have hlim := I2.lim
      have hcn := count_part hp
      obtain ⟨C, hC⟩ : ∃ C, C = cnt x := ⟨_, rfl⟩
      have HCo := Lib.hid (fun W (bW : Below w.heap.size w W) => count_any x W (by omega) (hT.on bW))
      rw [hcn, ← hC] at HCo
      rw [← hC] at hcx
      have hw0 : IntKind.i64.wrap ((C : Int) + 1) = (C : Int) + 1 := wrap_small (by omega) (by omega)
      have hpl : pre.length ≤ 100001 := by omega
      obtain ⟨S, hS⟩ : ∃ S, S = sumN pre := ⟨_, rfl⟩
      rw [← hS] at hlim c1
      have hw1 : IntKind.i64.wrap ((S : Int) + ((C : Int) + 1)) = (S : Int) + ((C : Int) + 1) := wrap_small (by omega) (by omega)
      have HC := Lib.hid hC
      have HS := Lib.hid hS
      have hl2 : w.heap.size + 2 < w2.heap.size := I2.sum.lt
      clear hcn hC hS
      gi_wp2_with fail
      obtain ⟨w3, hw3⟩ : ∃ w3, w3 = w2.setCell ⟨w.heap.size + 1, 0, none⟩ (.int .i64 ((pre.length : Int) + 1)) := ⟨_, rfl⟩
      have n3 : Box w3 (w.heap.size + 1) (.int .i64 ((pre.length : Int) + 1)) := by rw [hw3]; exact I2.num.set _
      have s3 : Box w3 (w.heap.size + 2) (.int .i64 (S : Int)) := by rw [hw3, HS.out]; exact box_other I2.sum _ (by omega)
      have r3 : Box w3 w.heap.size (.bool false) := by rw [hw3]; exact box_other I2.res _ (by omega)
      have b3 : Below w.heap.size w w3 := by rw [hw3]; exact bset I2.bel (by omega) _
      have ko3 : KeepsOthers X w3 := by rw [hw3]; exact ko2.trans (KeepsOthers.setCell _ _ _)
      have kp3 : Kp3 w0.heap.size (w0.heap.size + 1) (w0.heap.size + 2) X w3 := by
        rw [hw3]
        exact ⟨by simpa using kp2.1, fun j hj => (heap_setCell_other w2 _ j _ (by simp; omega)).trans (kp2.2 j hj)⟩
      have z3 : w1.heap.size ≤ w3.heap.size := by rw [hw3]; simpa using I2.siz
      rw [← hw3]
      have c3 := s3.cell
      have f3 := s3.free
      have l3 := s3.lt
      clear hw3 c0 f0 c1 f1 c2 f2
      refine region_inb_tail_in 5 (by kernel_rfl) (by kernel_rfl) (by kernel_rfl) ?_
      simp only [List.take_succ_cons, List.take_zero, List.drop_succ_cons, List.drop_zero]
      have inbNe := InB.some
      have inbW := @wrap_small
      have inbU := IntKind.wrap_u8'
      repeat (refine wpQuiet_step (fun K hK => ?_); go_simp; first | (refine hK _ ?_; clear hK K) | (apply Exists.intro; refine ⟨?_, hK _ ?_⟩; (· (intro w' hw'; first | (go_at_call 61; refine (HCo.out _ (bt b3 hw'.below)).mono ?_; rintro e w1 ⟨rfl, b1⟩; exact ⟨rfl, hw'.on b1⟩) | (have hcw := hw'.cell; go_simp; exact rfl))); clear hK K))
      refine wpQuiet_nil ?_
      intro wq hq
      clear inbNe inbW inbU
      have s4 := s3.below hq.below l3
      have n4 := n3.below hq.below n3.lt
      have r4 := r3.below hq.below r3.lt
      have c4 := s4.cell
      have f4 := s4.free
      have ko4 : KeepsOthers X wq := ko3.trans (KeepsOthers.of_grownBy (below_grown hq.below none) (fun _ _ e => by cases e))
      have kp4 : Kp3 w0.heap.size (w0.heap.size + 1) (w0.heap.size + 2) X wq := ⟨Nat.le_trans kp3.1 hq.below.size, fun j hj => (hq.below.block j (by rcases hj with rfl | rfl | rfl <;> omega)).trans (kp3.2 j hj)⟩
      have b4 := bt b3 hq.below
      have z4 := Nat.le_trans z3 hq.below.size
      have Hall := Lib.hid (show (pre ++ [x]).all Utf.part = true by rw [List.all_append, I2.all]; simp [hp])
      have Hlim := Lib.hid (show sumN (pre ++ [x]) ≤ (pre ++ [x]).length * 100001 by rw [sumN_snoc, ← HS.out, ← HC.out, List.length_append, List.length_singleton]; omega)
      have Hsum := Lib.hid (show (S : Int) + ((C : Int) + 1) = (sumN (pre ++ [x]) : Int) by rw [sumN_snoc, ← HS.out, ← HC.out]; omega)
      clear c3 f3 hlim hw0 hw1 hcx hpl
      go_wp2
      refine ⟨rfl, ko4.trans (KeepsOthers.setCell _ _ _), ⟨by simpa using kp4.1, fun j hj => (heap_setCell_other wq _ j _ (by simp; omega)).trans (kp4.2 j hj)⟩, box_other r4 _ (by omega), ?_, ?_, bset b4 (by omega) _, Hall.out, Hlim.out, by simpa using z4⟩
      · have := box_other n4 (b := w.heap.size + 2) (.int .i64 ((S : Int) + ((C : Int) + 1))) (by omega)
        simpa using this
      · have := s4.set (.int .i64 ((S : Int) + ((C : Int) + 1)))
        rw [Hsum.out] at this ⊢
        exact this
  case done =>
    rintro D xs X hD rfl hIx hKD
    have c0 := hIx.num.cell
    have c1 := hIx.sum.cell
    have c2 := hIx.res.cell
    have f2 := hIx.res.free
    have lR := hIx.res.lt
    have hlim := hIx.lim
    have hXl : (pieces s).length ≤ 100001 := by have := hfew.out; omega
    have Hnb := Lib.hid (show NB = (decide ((pieces s).length ≤ 4) && decide (sumN (pieces s) ≤ 25)) by
      rw [HNB.out]; unfold nameB; rw [hIx.all]; rfl)
    have g0 := grownBy_putObj' X D (.deferred none)
    obtain ⟨M, hM⟩ : ∃ M, M = (pieces s).length := ⟨_, rfl⟩
    obtain ⟨S, hS⟩ : ∃ S, S = sumN (pieces s) := ⟨_, rfl⟩
    rw [← hM] at c0 hXl hlim Hnb
    rw [← hS] at c1 hlim Hnb
    have hw0 : IntKind.i64.wrap ((S : Int) - 1) = (S : Int) - 1 := wrap_small (by omega) (by omega)
    clear hM hS
    by_cases h4 : M ≤ 4
    · have t4 := decide_eq_true (show (M : Int) ≤ 4 by omega)
      have Hfin := Lib.hid (show decide ((S : Int) - 1 ≤ 24) = NB by rw [Hnb.out, decide_eq_true h4, Bool.true_and]; exact decide_eq_decide.2 (by omega))
      gi_wp2_with fail
      have hKD2 : (X.setCell ⟨w.heap.size, 0, none⟩ (.bool (decide ((S : Int) - 1 ≤ 24)))).heap[D]? = some (.deferred (some [])) := (heap_setCell_other X _ D _ (by simp; omega)).trans hKD
      have v8 := ((hIx.res.set (.bool (decide ((S : Int) - 1 ≤ 24)))).kept (grownBy_putObj' _ D (.deferred none)) (fun e => by injection e with e; omega)).cell
      refine ⟨by simp, .inl ⟨_, _, rfl, run_takeDeferred hKD2, ?_⟩⟩
      refine ⟨.bool (decide ((S : Int) - 1 ≤ 24)), (by simp [results, Tryd.results47, go_sem, v8]), ?_⟩
      exact ⟨ret_bool Hfin.out, (bset hIx.bel (by omega) _).trans (belowK_b (w := w) (Nat.le_refl _) _ D _ _ (by have := b01.size; omega) hKD2 rfl rfl)⟩
    · have t4 := decide_eq_false (show ¬ (M : Int) ≤ 4 by omega)
      have Hfin := Lib.hid (show false = NB by rw [Hnb.out, decide_eq_false h4]; rfl)
      gi_wp2_with fail
      have hKD2 : (X.setCell ⟨w.heap.size, 0, none⟩ (.bool false)).heap[D]? = some (.deferred (some [])) := (heap_setCell_other X _ D _ (by simp; omega)).trans hKD
      have v8 := ((hIx.res.set (.bool false)).kept (grownBy_putObj' _ D (.deferred none)) (fun e => by injection e with e; omega)).cell
      refine ⟨by simp, .inl ⟨_, _, rfl, run_takeDeferred hKD2, ?_⟩⟩
      refine ⟨.bool false, (by simp [results, Tryd.results47, go_sem, v8]), ?_⟩
      exact ⟨ret_bool Hfin.out, (bset hIx.bel (by omega) _).trans (belowK_b (w := w) (Nat.le_refl _) _ D _ _ (by have := b01.size; omega) hKD2 rfl rfl)⟩
  case stop =>
    rintro D c pre' X hD ⟨m, hm, hm1⟩ ⟨⟨pre, x, rfl, rfl, hx⟩, hR, hB⟩ hKD
    have hbad : NB = false := by
      rw [HNB.out]
      unfold nameB
      have hmem : x ∈ pieces s := by
        have : x ∈ (pieces s).take m := by rw [← hm]; simp
        exact List.mem_of_mem_take this
      have : (pieces s).all Utf.part = false := List.all_eq_false.2 ⟨x, hmem, by rw [hx]; simp⟩
      rw [this]; rfl
    have g0 := grownBy_putObj' X D (.deferred none)
    have v8 := (hR.kept g0 (fun e => by injection e with e; omega)).cell
    have Hbad := Lib.hid hbad
    clear hbad hm
    gi_wp2_with fail
    refine ⟨by simp, .inl ⟨_, _, rfl, run_takeDeferred hKD, ?_⟩⟩
    refine ⟨.bool false, (by simp [results, Tryd.results47, go_sem, v8]), ?_⟩
    exact ⟨by rw [Hbad.out], hB.trans (belowK_b (w := w) (Nat.le_refl _) _ D _ _ (by have := b01.size; omega) hKD rfl rfl)⟩
end Go.Proofs.YtnfhlnkbkfgihaaDoor.Nam

/- May a text be a name: the document's pieces and Right. No statement is proved here. -/
namespace Go.Proofs.YtnfhlnkbkfgihaaDoor.Nam
open Go.RowKit Go.Shelf
open Go.Proofs.YtnfhlnkbkfgihaaDoor.Utf (Tabs rpart_any rcount_any countL)
set_option linter.unusedVariables false
set_option maxRecDepth 100000
abbrev sv (l : List UInt8) : Value := .string ⟨l.toArray⟩
theorem pieces_len : ∀ (s x : List UInt8), x ∈ pieces s → x.length ≤ s.length
  | [], x, h => by simp [pieces] at h; rw [h]; simp
  | c :: r, x, h => by
    rw [pieces_cons] at h
    split at h
    · rcases List.mem_cons.1 h with e | h
      · rw [e]; simp
      · have := pieces_len r x h; simp; omega
    · cases hp : pieces r with
      | nil => exact absurd hp (pieces_ne r)
      | cons q qs =>
        rw [hp] at h
        simp only at h
        rcases List.mem_cons.1 h with e | h
        · have := pieces_len r q (by rw [hp]; simp)
          rw [e]; simp; omega
        · have := pieces_len r x (by rw [hp]; simp [h]); simp; omega
theorem infoStr : (Tryd.prog.info? 9).map (fun i => (i.zero, i.size, i.bytes)) = some (some (.string ⟨#[]⟩), 1, 16) := by kernel_rfl
theorem pieces_last (l : List UInt8) : ∃ ps p, pieces l = ps ++ [p] := by
  rcases List.eq_nil_or_concat (pieces l) with h | ⟨ps, p, h⟩
  · exact absurd h (pieces_ne l)
  · exact ⟨ps, p, by rw [h, List.concat_eq_append]⟩
theorem cat_str (a : List UInt8) (c : UInt8) : (⟨a.toArray⟩ : ByteArray) ++ ⟨[c].toArray⟩ = ⟨(a ++ [c]).toArray⟩ := by
  apply ByteArray.ext
  simp
theorem own_lit1 (w : World) (e : TypeId) (v : Value) : (w.alloc (.cells #[v] e)).ownsRow w.heap.size e 1 (.slice (some ⟨w.heap.size, 0, none⟩) 1 1) 1 [v] := by
  have := own_lit w e #[v] w.heap.size 1 (Nat.le_refl _) rfl (by unfold maxLen; omega)
  simpa using this
set_option maxHeartbeats 1000000 in
theorem rpieces_any (s : List UInt8) (w : World) (hl : s.length ≤ 100000) : Calls Tryd.prog 49 #[sv s] w fun e w' => ∃ A c, e = .returned (.slice A (pieces s).length c) ∧ w'.ownsRow w.heap.size 9 1 (.slice A (pieces s).length c) (pieces s).length ((pieces s).map sv) ∧ Below w.heap.size w w' := by
  obtain ⟨i0, hi0, hz0, hz1, hz2⟩ := info_parts infoStr
  have hsz : (⟨s.toArray⟩ : ByteArray).size = s.length := Utf.ba_size s
  have hx : ∀ k, k < s.length → ∀ w, (Instr.index 9 (.string ⟨s.toArray⟩) (.int .i64 (k : Int))).run Tryd.prog w = .ok (.int .u8 (Utf.g s k : Int)) w := fun k hk w => Utf.run_ix 9 s k hk Tryd.underlying9 w
  have hex : ∀ k (hk : k < s.length), (⟨s.toArray⟩ : ByteArray).extract k (k + 1) = ⟨[s[k]].toArray⟩ := fun k hk => by
    apply ByteArray.ext
    simp
    rw [List.drop_eq_getElem_cons hk, List.take_succ_cons, List.take_zero]
  have hsl : ∀ k : Nat, k < s.length → ∀ w, (Instr.slice 9 (.string ⟨s.toArray⟩) (some (.int .i64 (k : Int))) (some (.int .i64 ((k : Int) + 1))) none).run Tryd.prog w = .ok (.string ((⟨s.toArray⟩ : ByteArray).extract k (k + 1))) w := fun k hk w => by
    rw [run_slice_string_if (P := Tryd.prog) w 9 ⟨s.toArray⟩ .i64 .i64 (k : Int) ((k : Int) + 1) Tryd.underlying9, if_pos ⟨by omega, by rw [Utf.ba_size]; omega⟩, if_pos ⟨by omega, by omega⟩]
    have e : ((k : Int) + 1).toNat = k + 1 := by omega
    rw [e, Int.toNat_natCast]
  obtain ⟨S, hS⟩ : ∃ S : ByteArray, S = ⟨s.toArray⟩ := ⟨_, rfl⟩
  show Calls Tryd.prog 49 #[.string ⟨s.toArray⟩] w _
  rw [← hS] at hsz hx hex hsl ⊢
  have Hsl := Lib.hid hsl
  have Hx := Lib.hid hx
  have Hex := Lib.hid hex
  clear hS hx hex hsl
  go_enter Tryd.func49, Tryd.ntmps49
  go_wp2_with fail
  go_loopw [3, 4] (fun v i wr => ∃ k : Nat, k ≤ s.length ∧ i = .int .i64 (k : Int) ∧ Below w.heap.size w wr ∧ ∃ ps p, Hid (pieces (s.take k) = ps ++ [p] ∧ ps.length ≤ k ∧ p.length ≤ k) ∧ wr.ownsRow w.heap.size 9 1 v (ps.length + 1) (ps.map sv ++ [sv p])) (fun _ i _ => s.length - (intOf i).toNat)
  case atStart => exact ⟨0, by omega, rfl, b1alloc _ _, [], [], Lib.hid ⟨rfl, by simp, by simp⟩, own_lit1 _ _ _⟩
  case round =>
    obtain ⟨k, hk, rfl, bel, ps, p, hp, hown⟩ := hrel
    obtain ⟨g, c, rfl, hg⟩ := own_some hown (by omega)
    by_cases hlt : k < s.length
    · have hkn : (k : Int) < (s.length : Int) := by omega
      have hge : ¬ (s.length : Int) ≤ (k : Int) := by omega
      have hxk := Hx.out k hlt
      have hgk : Utf.g s k = s[k].toNat := by unfold Utf.g; simp [List.getD, hlt]
      have hsn := Lib.hid (pieces_snoc (s.take k) s[k] ps p hp.out.1)
      have htk := Lib.hid (show s.take (k + 1) = s.take k ++ [s[k]] from List.take_succ_eq_append_getElem hlt)
      have hexk := Hex.out k hlt
      obtain ⟨c0, hc0⟩ : ∃ c0, c0 = s[k] := ⟨_, rfl⟩
      rw [hgk, ← hc0] at hxk
      rw [← hc0] at hsn htk hexk
      have hpl : ps.length ≤ 100000 := by have := hp.out.2; omega
      clear hgk hc0
      by_cases h46 : c0 = 46
      · have t1 := beq_yes (show ((c0.toNat : Int)) = 46 by rw [h46]; rfl)
        have Hb2 := Lib.hid (show (ps.length + 1) + 1 ≤ maxLen ∧ ((ps.length + 1) + 1) * 16 ≤ 140737488355328 from ⟨by simp only [maxLen]; omega, by omega⟩)
        have Hsn := Lib.hid (show pieces (s.take (k + 1)) = (ps ++ [p]) ++ [[]] by rw [htk.out, hsn.out, if_pos h46])
        clear h46
        go_wp2_with (at_builtin; refine wpList_append_rd _ rfl _ _ _ rfl w.heap.size 9 i0 _ 1 16 Tryd.underlying78 hi0 hz0 hz1 hz2 rfl (by omega) _ (ps.length + 1) (ps.map sv ++ [sv p]) rfl (hown.alloc _) (wr.heap.size + 1) (some ⟨wr.heap.size, 0, none⟩) 1 1 [.string ⟨#[]⟩] rfl rfl (Rd.lit wr _ _ _ _ rfl (Nat.lt_succ_self _)) (by simp [Value.oneCell']) Hb2.out.1 Hb2.out.2 (Nat.le_trans bel.size (b1alloc wr _).size) ?_; intro v3 w3 own3 hg3 hat3)
        case roundEnd =>
          refine ⟨⟨k + 1, by omega, by go_num, (bt bel (b1alloc wr _)).grown hg3 (Nat.le_trans bel.size (b1alloc wr _).size) (fun q hq => own_block hown hq), ps ++ [p], [], Lib.hid ⟨Hsn.out, by simp; have := hp.out.2; omega, by simp⟩, ?_⟩, by simp only [intOf]; omega⟩
          simpa using own3
      · have t1 := beq_no (show ¬ ((c0.toNat : Int)) = 46 from fun e => h46 (UInt8.toNat_inj.1 (by rw [show (46 : UInt8).toNat = 46 from rfl]; omega)))
        have Hsn := Lib.hid (show pieces (s.take (k + 1)) = ps ++ [p ++ [c0]] by rw [htk.out, hsn.out, if_neg h46])
        have hcl := hown.cellAt ps.length (by omega)
        rw [List.getElem?_append_right (by simp)] at hcl
        simp only [List.length_map, Nat.sub_self, List.getElem?_cons_zero] at hcl
        have hfr := hown.frozenAt ps.length
        have hlg : g < wr.heap.size := (hown.lt g rfl).2
        have hst := Lib.hid (fun u => hown.stored ps.length u)
        clear h46
        obtain ⟨K, hK⟩ : ∃ K, K = ps.length := ⟨_, rfl⟩
        rw [← hK] at hcl hfr hst hpl ⊢
        obtain ⟨M, hM⟩ : ∃ M, M = K + 1 := ⟨_, rfl⟩
        rw [← hM]
        have hw0 : IntKind.i64.wrap ((M : Int) - 1) = (K : Int) := by rw [wrap_small (by omega) (by omega)]; omega
        have hw1 : IntKind.i64.wrap ((k : Int) + 1) = (k : Int) + 1 := wrap_small (by omega) (by omega)
        have hi1 : (K : Int) < (M : Int) := by omega
        have HK := Lib.hid hK
        have HM := Lib.hid hM
        clear hK hM
        have hsk := Hsl.out k hlt
        have hcat : ∀ w, (Op.stringOp .add (⟨p.toArray⟩ : ByteArray) ⟨#[c0]⟩).run Tryd.prog w = .ok (.string ⟨(p ++ [c0]).toArray⟩) w := fun w => run_string_add_lists w p [c0] (by have := hp.out.2; omega) (by show ((1 : Nat) : Int) ≤ 8388608; decide)
        go_upto_region 7 with (fail)
        refine region_inb_tail 17 (by kernel_rfl) (by kernel_rfl) ?_
        simp only [List.take_succ_cons, List.take_zero, List.drop_succ_cons, List.drop_zero]
        have inbNe := InB.some
        have inbW := @wrap_small
        have inbU := IntKind.wrap_u8'
        repeat (refine wpQuiet_step (fun K hK => ?_); go_simp; first | (refine hK _ ?_; clear hK K) | (apply Exists.intro; refine ⟨?_, hK _ ?_⟩; (· (intro w' hw'; first | (have hcw := hw'.cell; go_simp; exact rfl))); clear hK K))
        refine wpQuiet_nil ?_
        intro wq hq
        clear inbNe inbW inbU
        have hownq := own_on hown hq.below
        have hfq := hownq.frozenAt K
        have hcq := hownq.cellAt K (by have := HM.out; have := HK.out; omega)
        rw [List.getElem?_append_right (by rw [List.length_map]; exact Nat.le_of_eq HK.out.symm)] at hcq
        simp only [List.length_map, ← HK.out, Nat.sub_self, List.getElem?_cons_zero] at hcq
        have hsq := Lib.hid (fun u => hownq.stored K u)
        have hbq := bt bel hq.below
        clear hcl hfr hst hsk hcat hexk hxk hown bel
        go_wp2
        obtain ⟨q1, q2⟩ := hsq.out (.string ⟨(p ++ [c0]).toArray⟩)
        refine ⟨⟨k + 1, by omega, by go_num, bset hbq hg _, ps, p ++ [c0], Lib.hid ⟨Hsn.out, by have := hp.out.2; omega, by have := hp.out.2; simp; omega⟩, ?_⟩, by simp only [intOf]; omega⟩
        rw [show ps.length + 1 = M by rw [HM.out, HK.out]]
        have e : (ps.map sv ++ [sv p]).set K (.string ⟨(p ++ [c0]).toArray⟩) = ps.map sv ++ [sv (p ++ [c0])] := by
          rw [HK.out, List.set_append_right _ _ (by simp)]
          simp
        rw [e] at q1
        have hM2 : ps.length + 1 = M := by rw [HM.out, HK.out]
        rw [hM2] at q1
        exact q1
    · obtain rfl : k = s.length := by omega
      have hkn : ¬ (s.length : Int) < (s.length : Int) := by omega
      have hfin := Lib.hid (show pieces s = ps ++ [p] by have := hp.out.1; rw [List.take_length] at this; exact this)
      have hlen := Lib.hid (show ps.length + 1 = (pieces s).length by rw [hfin.out]; simp)
      go_wp2
      go_ret
      refine ⟨some ⟨g, 0, none⟩, c, by rw [← hlen.out]; rfl, ?_, bel⟩
      rw [← hlen.out, hfin.out]
      simpa using hown
theorem strRow_get {w : World} {base : Nat} {A : Option Addr} {n c : Nat} {ps : List (List UInt8)} (h : w.ownsRow base 9 1 (.slice A n c) n (ps.map sv)) {k : Nat} (hk : k < ps.length) (hn : n = ps.length) : ∃ g, A = some ⟨g, 0, none⟩ ∧ g < w.heap.size ∧ w.cell? ⟨g, k, none⟩ = some (sv ps[k]) := by
  obtain ⟨g, c', e, hg⟩ := own_some h (by omega)
  injection e with e1 e2 e3
  subst e1
  have := h.cellAt k (by omega)
  rw [List.getElem?_map, List.getElem?_eq_getElem hk] at this
  exact ⟨g, rfl, (h.lt g rfl).2, this⟩
set_option maxHeartbeats 1000000 in
theorem rnright_any (s : List UInt8) (w : World) (hl : s.length ≤ 100000) : Calls Tryd.prog 32 #[sv s] w fun e w' => e = .returned (.bool (nameB s)) ∧ Below w.heap.size w w' := by
  obtain ⟨NB, hNB⟩ : ∃ b, b = nameB s := ⟨_, rfl⟩
  rw [← hNB]
  have HNB := Lib.hid (hNB.trans (name_same s))
  have hpc := Lib.hid (rpieces_any s w hl)
  have hco := Lib.hid (fun W => rcount_any s W (by omega))
  obtain ⟨PS, hPS⟩ : ∃ PS, PS = pieces s := ⟨_, rfl⟩
  rw [← hPS] at hpc
  have HPS := Lib.hid hPS
  have hfw := pieces_few s
  rw [← hPS] at hfw
  have hshort := Lib.hid (fun (k : Nat) (hk : k < PS.length) => pieces_len s PS[k] (by rw [← hPS]; exact List.getElem_mem hk))
  clear hNB hPS
  show Calls Tryd.prog 32 #[.string ⟨s.toArray⟩] w _
  go_enter Tryd.func32, Tryd.ntmps32
  go_wp2_with (go_at_call 49; refine (hpc.out).mono ?_; rintro e w1 ⟨A, c, rfl, hown, b1⟩)
  go_loopw [4] (fun i wr => ∃ k : Nat, k ≤ PS.length ∧ i = .int .i64 (k : Int) ∧ Below w1.heap.size w1 wr ∧ Hid (∀ j (hj : j < PS.length), j < k → Utf.part PS[j] = true)) (fun i _ => PS.length - (intOf i).toNat)
  case atStart => exact ⟨0, by omega, rfl, Below.refl _ _, Lib.hid fun j hj h => by omega⟩
  case round =>
    obtain ⟨k, hk, rfl, bel, hall⟩ := hrel
    by_cases hlt : k < PS.length
    · obtain ⟨g, rfl, hg, hc⟩ := strRow_get (own_on hown bel) hlt rfl
      have hkn : (k : Int) < (PS.length : Int) := by omega
      have hpt := Lib.hid (fun W => rpart_any PS[k] W (by have := hshort.out k hlt; omega))
      cases hp : Utf.part PS[k] with
      | false =>
        rw [hp] at hpt
        have Hbad := Lib.hid (show NB = false by
          rw [HNB.out]
          unfold nameR
          have : (pieces s).all Utf.part = false := List.all_eq_false.2 ⟨PS[k], by rw [← HPS.out]; exact List.getElem_mem hlt, by rw [hp]; simp⟩
          rw [this]; rfl)
        go_wp2_with (go_at_call 50; refine (hpt.out _).mono ?_; rintro e w2 ⟨rfl, b2⟩)
        go_ret
        exact ⟨ret_bool Hbad.out.symm, bt b1 (bt bel b2)⟩
      | true =>
        rw [hp] at hpt
        have hp' := Lib.hid hp
        clear hp
        go_wp2_with (go_at_call 50; refine (hpt.out _).mono ?_; rintro e w2 ⟨rfl, b2⟩)
        case roundEnd =>
          exact ⟨⟨k + 1, by omega, by go_num, bt bel b2, Lib.hid fun j hj h => by
            rcases (show j < k ∨ j = k by omega) with h1 | h1
            · exact hall.out j hj h1
            · subst h1; exact hp'.out⟩, by simp only [intOf]; omega⟩
    · obtain rfl : k = PS.length := by omega
      have hkn : ¬ (PS.length : Int) < (PS.length : Int) := by omega
      have hallB : (pieces s).all Utf.part = true := by
        rw [← HPS.out]
        exact List.all_eq_true.2 (fun p hp => by obtain ⟨j, hj, rfl⟩ := List.mem_iff_getElem.1 hp; exact hall.out j hj hj)
      have hN : NB = (decide (PS.length ≤ 4) && decide (countL s ≤ 24)) := by
        rw [HNB.out]
        unfold nameR
        rw [hallB, ← HPS.out, Bool.true_and]
        rfl
      obtain ⟨C, hC⟩ : ∃ C, C = countL s := ⟨_, rfl⟩
      rw [← hC] at hco hN
      have HN := Lib.hid hN
      clear hallB hN hC
      by_cases h4 : PS.length ≤ 4
      · have t4 := decide_eq_true (show (PS.length : Int) ≤ 4 by omega)
        have Hfin := Lib.hid (show decide (C ≤ 24) = NB by rw [HN.out, decide_eq_true h4, Bool.true_and])
        go_wp2_with (go_at_call 51; refine (hco.out _).mono ?_; rintro e w2 ⟨rfl, b2⟩)
        go_ret
        exact ⟨ret_bool Hfin.out, bt b1 (bt bel b2)⟩
      · have t4 := decide_eq_false (show ¬ (PS.length : Int) ≤ 4 by omega)
        have Hfin := Lib.hid (show false = NB by rw [HN.out, decide_eq_false h4]; rfl)
        go_wp2_with fail
        go_ret
        exact ⟨ret_bool Hfin.out, bt b1 bel⟩
end Go.Proofs.YtnfhlnkbkfgihaaDoor.Nam

/- Nodes: may they be a head and a box? No statement is proved here. -/
namespace Go.Proofs.YtnfhlnkbkfgihaaDoor.Nod
open Go.RowKit
open Go.Proofs.YtnfhlnkbkfgihaaDoor.Nam (nameB nright_any rnright_any sv)
open Go.Proofs.YtnfhlnkbkfgihaaDoor.Utf (Tabs)
set_option linter.unusedVariables false
set_option maxRecDepth 100000
theorem emp_no {s : List UInt8} (h : s ≠ []) : s.isEmpty = false := by
  cases s with
  | nil => exact absurd rfl h
  | cons a s => rfl
theorem empty_any (A : Option Addr) (n c : Nat) (w : World) : Calls Tryd.prog 18 #[.slice A n c] w fun e w' => e = .returned (.bool (decide (n = 0))) ∧ w = w' := by
  have Hd := Lib.hid (show decide ((n : Int) = 0) = decide (n = 0) from decide_eq_decide.2 (by omega))
  by_cases h0 : n = 0
  · subst h0
    go_enter Tryd.func18, Tryd.ntmps18
    go_wp2
    go_ret
    exact ⟨rfl, rfl⟩
  · have t0 := beq_no (show ¬ (n : Int) = 0 by omega)
    have Hf := Lib.hid (decide_eq_false h0)
    go_enter Tryd.func18, Tryd.ntmps18
    go_wp2
    go_ret
    exact ⟨ret_bool Hf.out.symm, rfl⟩
set_option maxHeartbeats 1000000 in
theorem rightleaf_any (s x : List UInt8) (A : Option Addr) (n c : Nat) (w : World) (hn : n = x.length) (hx : n ≤ 100000) (hs : s.length ≤ 100000) :
    Calls Tryd.prog 13 #[.string ⟨s.toArray⟩, .slice A n c] w fun e w' => e = .returned (.bool (leafB nameB s x)) ∧ Below w.heap.size w w' := by
  obtain ⟨R, hR⟩ : ∃ R, R = leafB nameB s x := ⟨_, rfl⟩
  rw [← hR]
  by_cases h0 : s = []
  · have hv : R = decide (n = 0) := by rw [hR, leafB, if_pos h0, hn]
    subst h0
    by_cases h1 : n = 0
    · have Hv := Lib.hid (show true = R by rw [hv, decide_eq_true h1])
      subst h1
      clear hv hR hn
      go_enter Tryd.func13, Tryd.ntmps13
      go_wp2
      go_ret
      exact ⟨ret_bool Hv.out, Below.refl _ _⟩
    · have Hv := Lib.hid (show false = R by rw [hv, decide_eq_false h1])
      have t0 := beq_no (show ¬ (n : Int) = 0 by omega)
      clear hv hR hn
      go_enter Tryd.func13, Tryd.ntmps13
      go_wp2
      go_ret
      exact ⟨ret_bool Hv.out, Below.refl _ _⟩
  · have hv : R = (nameB s && (decide (48 ≤ n) && decide (n ≤ 398))) := by rw [hR, leafB, if_neg h0, hn]
    have hne := emp_no h0
    have HN := Lib.hid (fun W => rnright_any s W hs)
    clear hR hn
    cases hm : nameB s with
    | false =>
      have Hv := Lib.hid (show false = R by rw [hv, hm]; rfl)
      rw [hm] at HN
      clear hv hm h0
      go_enter Tryd.func13, Tryd.ntmps13
      go_wp2_with (go_at_call 32; refine (HN.out _).mono ?_; rintro e w1 ⟨rfl, b1⟩)
      go_ret
      first | exact ⟨ret_bool Hv.out, b1⟩ | exact ⟨ret_bool ((decide_eq_false (Int.not_le.2 t2)).trans Hv.out), b1⟩
    | true =>
      rw [hm] at HN hv
      by_cases h1 : 48 ≤ n
      · by_cases h2 : n ≤ 398
        · have Hv := Lib.hid (show true = R by rw [hv, decide_eq_true h1, decide_eq_true h2]; rfl)
          have t0 : ¬ (n : Int) < 48 := by omega
          have t1 : (48 : Int) ≤ (n : Int) := by omega
          have t2 : (n : Int) ≤ 398 := by omega
          clear hv hm h0
          go_enter Tryd.func13, Tryd.ntmps13
          go_wp2_with (go_at_call 32; refine (HN.out _).mono ?_; rintro e w1 ⟨rfl, b1⟩)
          go_ret
          first | exact ⟨ret_bool Hv.out, b1⟩ | exact ⟨ret_bool ((decide_eq_false (Int.not_le.2 t2)).trans Hv.out), b1⟩
        · have Hv := Lib.hid (show false = R by rw [hv, decide_eq_true h1, decide_eq_false h2]; rfl)
          have t1 : (48 : Int) ≤ (n : Int) := by omega
          have t2 : ¬ (n : Int) ≤ 398 := by omega
          clear hv hm h0
          go_enter Tryd.func13, Tryd.ntmps13
          go_wp2_with (go_at_call 32; refine (HN.out _).mono ?_; rintro e w1 ⟨rfl, b1⟩)
          go_ret
          first | exact ⟨ret_bool Hv.out, b1⟩ | exact ⟨ret_bool ((decide_eq_false (Int.not_le.2 t2)).trans Hv.out), b1⟩
      · have Hv := Lib.hid (show false = R by rw [hv, decide_eq_false h1]; rfl)
        have t1 : ¬ (48 : Int) ≤ (n : Int) := by omega
        clear hv hm h0
        go_enter Tryd.func13, Tryd.ntmps13
        go_wp2_with (go_at_call 32; refine (HN.out _).mono ?_; rintro e w1 ⟨rfl, b1⟩)
        go_ret
        first | exact ⟨ret_bool Hv.out, b1⟩ | exact ⟨ret_bool ((decide_eq_false (Int.not_le.2 t2)).trans Hv.out), b1⟩
set_option maxHeartbeats 1000000 in
theorem leaf_any (s x : List UInt8) (A : Option Addr) (n c : Nat) (w : World) (hT : Tabs w) (hn : n = x.length) (hx : n ≤ 100000) (hs : s.length ≤ 100000) :
    Calls Tryd.prog 29 #[.string ⟨s.toArray⟩, .slice A n c] w fun e w' => e = .returned (.bool (leafB nameB s x)) ∧ Below w.heap.size w w' := by
  obtain ⟨R, hR⟩ : ∃ R, R = leafB nameB s x := ⟨_, rfl⟩
  rw [← hR]
  have HS := Lib.hid (fun (k : Int) (W : World) (h0 : 0 ≤ k) (h1 : k ≤ 100000) => size_any k W h0 h1)
  by_cases h0 : s = []
  · have hv : R = decide (n = 0) := by rw [hR, leafB, if_pos h0, hn]
    subst h0
    by_cases h1 : n = 0
    · have Hv := Lib.hid (show true = R by rw [hv, decide_eq_true h1])
      subst h1
      clear hv hR hn hT
      go_enter Tryd.func29, Tryd.ntmps29
      go_wp2
      go_ret
      exact ⟨ret_bool Hv.out, Below.refl _ _⟩
    · have Hv := Lib.hid (show false = R by rw [hv, decide_eq_false h1])
      have t0 := beq_no (show ¬ (n : Int) = 0 by omega)
      clear hv hR hn hT
      go_enter Tryd.func29, Tryd.ntmps29
      go_wp2
      go_ret
      exact ⟨ret_bool Hv.out, Below.refl _ _⟩
  · have hv : R = (nameB s && (decide (48 ≤ n) && decide (n ≤ 398))) := by rw [hR, leafB, if_neg h0, hn]
    have hne := emp_no h0
    have HN := Lib.hid (nright_any s w hs hT)
    clear hR hn hT
    cases hm : nameB s with
    | false =>
      have Hv := Lib.hid (show false = R by rw [hv, hm]; rfl)
      rw [hm] at HN
      clear hv hm h0
      go_enter Tryd.func29, Tryd.ntmps29
      go_wp2_with (go_at_call 47; refine (HN.out).mono ?_; rintro e w1 ⟨rfl, b1⟩)
      go_ret
      first | exact ⟨ret_bool Hv.out, b1⟩ | exact ⟨ret_bool ((decide_eq_false (Int.not_le.2 t2)).trans Hv.out), b1⟩
    | true =>
      rw [hm] at HN hv
      by_cases h1 : 48 ≤ n
      · by_cases h2 : n ≤ 398
        · have Hv := Lib.hid (show true = R by rw [hv, decide_eq_true h1, decide_eq_true h2]; rfl)
          have t1 : (48 : Int) ≤ (n : Int) := by omega
          have t2 : (n : Int) ≤ 398 := by omega
          clear hv hm h0
          go_enter Tryd.func29, Tryd.ntmps29
          go_wp2_with (first | (go_at_call 47; refine (HN.out).mono ?_; rintro e w1 ⟨rfl, b1⟩) | (go_at_call 36; refine (HS.out _ _ (by decide) (by decide)).mono ?_; rintro e w2 ⟨rfl, rfl⟩))
          go_ret
          first | exact ⟨ret_bool Hv.out, b1⟩ | exact ⟨ret_bool ((decide_eq_false (Int.not_le.2 t2)).trans Hv.out), b1⟩
        · have Hv := Lib.hid (show false = R by rw [hv, decide_eq_true h1, decide_eq_false h2]; rfl)
          have t1 : (48 : Int) ≤ (n : Int) := by omega
          have t2 : ¬ (n : Int) ≤ 398 := by omega
          clear hv hm h0
          go_enter Tryd.func29, Tryd.ntmps29
          go_wp2_with (first | (go_at_call 47; refine (HN.out).mono ?_; rintro e w1 ⟨rfl, b1⟩) | (go_at_call 36; refine (HS.out _ _ (by decide) (by decide)).mono ?_; rintro e w2 ⟨rfl, rfl⟩))
          go_ret
          first | exact ⟨ret_bool Hv.out, b1⟩ | exact ⟨ret_bool ((decide_eq_false (Int.not_le.2 t2)).trans Hv.out), b1⟩
      · have Hv := Lib.hid (show false = R by rw [hv, decide_eq_false h1]; rfl)
        have t1 : ¬ (48 : Int) ≤ (n : Int) := by omega
        clear hv hm h0
        go_enter Tryd.func29, Tryd.ntmps29
        go_wp2_with (first | (go_at_call 47; refine (HN.out).mono ?_; rintro e w1 ⟨rfl, b1⟩) | (go_at_call 36; refine (HS.out _ _ (by decide) (by decide)).mono ?_; rintro e w2 ⟨rfl, rfl⟩))
        go_ret
        first | exact ⟨ret_bool Hv.out, b1⟩ | exact ⟨ret_bool ((decide_eq_false (Int.not_le.2 t2)).trans Hv.out), b1⟩
end Go.Proofs.YtnfhlnkbkfgihaaDoor.Nod

/- The walks of wire.Reader. -/
namespace Go.Proofs.YtnfhlnkbkfgihaaDoor.Read
open Go.RowKit
set_option linter.unusedVariables false
set_option maxRecDepth 100000

/-- a reader stands at block g: l is left, its fault is f -/
def RAt (w : World) (g : Nat) (l : List UInt8) (f : Int) : Prop :=
  ∃ A c, w.heap[g]? = some (.cells #[.slice A l.length c, .int .i64 f] 82 (0, 0)) ∧ Rd w g A (l.map e8) ∧ l.length ≤ c ∧ c ≤ maxLen
theorem cell_two {w : World} {g : Nat} {u v : Value} {t : TypeId} (h : w.heap[g]? = some (.cells #[u, v] t (0, 0))) : w.cell? ⟨g, 0, none⟩ = some u ∧ w.cell? ⟨g, 1, none⟩ = some v ∧ w.frozen? ⟨g, 0, none⟩ = false ∧ w.frozen? ⟨g, 1, none⟩ = false := by
  refine ⟨?_, ?_, ?_, ?_⟩ <;> simp [World.cell?, World.frozen?, h]
theorem set_two0 {w : World} {g : Nat} {u v : Value} {t : TypeId} (h : w.heap[g]? = some (.cells #[u, v] t (0, 0))) (x : Value) : (w.setCell ⟨g, 0, none⟩ x).heap[g]? = some (.cells #[x, v] t (0, 0)) := by
  simp [World.setCell, Array.getElem?_modify, h]
theorem set_two1 {w : World} {g : Nat} {u v : Value} {t : TypeId} (h : w.heap[g]? = some (.cells #[u, v] t (0, 0))) (x : Value) : (w.setCell ⟨g, 1, none⟩ x).heap[g]? = some (.cells #[u, x] t (0, 0)) := by
  simp [World.setCell, Array.getElem?_modify, h]

def fewV (f : Int) : Value := .iface 86 (.agg #[.int .i64 f])

def Took (w : World) (g : Nat) (l : List UInt8) (n : Nat) (f : Int) (e : Ending) (w' : World) : Prop :=
  ∃ A, e = .returned (.slice A n n) ∧ Rd w' g A ((l.take n).map e8) ∧ RAt w' g (l.drop n) f ∧ Keep [g] w w'
theorem keep_set (w : World) (g o : Nat) (u : Value) : Keep [g] w (w.setCell ⟨g, o, none⟩ u) := (Keep.refl _ _).set (.inl (by simp)) _
theorem took_of {w : World} {g : Nat} {l : List UInt8} {n c c' : Nat} {f : Int} {A A' : Option Addr} (hh : w.heap[g]? = some (.cells #[.slice A l.length c, .int .i64 f] 82 (0, 0))) (hrd : Rd w g A (l.map e8)) (hn : n ≤ l.length) (hm : c ≤ maxLen)
    (hr' : Rd w g A' ((l.drop n).map e8)) (hc' : l.length - n ≤ c') (hcc : c' ≤ c) : Took w g l n f (.returned (.slice A n n)) (w.setCell ⟨g, 0, none⟩ (.slice A' (l.length - n) c')) := by
  have hb : Below g w (w.setCell ⟨g, 0, none⟩ (.slice A' (l.length - n) c')) := (Below.refl _ _).setCell (by simp) _
  refine ⟨A, rfl, ?_, ⟨A', c', ?_, hr'.below hb, by simpa using hc', by omega⟩, keep_set _ _ _ _⟩
  · rw [List.map_take]; exact (hrd.below hb).take n
  · rw [set_two0 hh]; simp

set_option maxHeartbeats 400000 in
theorem take_yes (g : Nat) (l : List UInt8) (n : Nat) (z : Int) (hz : z = (n : Int)) (f : Int) (w : World) (hr : RAt w g l f) (hn : n ≤ l.length) :
    Calls Tryd.prog 55 #[.pointer (some ⟨g, 0, none⟩), .int .i64 z] w (Took w g l n f) := by
  subst hz
  obtain ⟨A, c, hh, hrd, hc, hm⟩ := hr
  obtain ⟨c0, c1, f0, f1⟩ := cell_two hh
  have Hh := Lib.hid hh
  have hm' := hm
  unfold maxLen at hm
  clear hh
  go_enter Tryd.func55, Tryd.ntmps55
  go_wp2
  · go_ret
    have : l.length = n := by omega
    exact took_of Hh.out hrd hn hm' (Rd.empty (by rw [List.drop_of_length_le (by omega)]; rfl)) (by omega) (by omega)
  · go_ret
    exact took_of Hh.out hrd hn hm' (by rw [List.map_drop]; exact hrd.drop n) (by omega) (by omega)

set_option maxHeartbeats 400000 in
theorem take_no (g : Nat) (l : List UInt8) (z : Int) (hz : z < 0 ∨ (l.length : Int) < z) (h0 : -9223372036854775808 ≤ z) (h1 : z ≤ 9223372036854775807) (f : Int) (w : World) (hr : RAt w g l f) :
    Calls Tryd.prog 55 #[.pointer (some ⟨g, 0, none⟩), .int .i64 z] w fun e w' => e = .panicked [{ v := fewV 4, recovered := false }] ∧ w = w' := by
  obtain ⟨A, c, hh, hrd, hc, hm⟩ := hr
  obtain ⟨c0, c1, f0, f1⟩ := cell_two hh
  clear hh
  unfold maxLen at hm
  rcases hz with hz | hz
  · go_enter Tryd.func55, Tryd.ntmps55
    go_wp2
    exact ⟨rfl, rfl, rfl⟩
  · have hz2 : 0 ≤ z := by omega
    go_enter Tryd.func55, Tryd.ntmps55
    go_wp2
    exact ⟨rfl, rfl, rfl⟩

/-- the deferred closure, where all went well -/
theorem catch_idle (p : Addr) (w : World) :
    CallsD Tryd.prog 65 #[.pointer (some p)] .returning w fun e u' w' => e = .returned (.tuple #[]) ∧ u' = .returning ∧ w' = w := by
  refine callsD_of_wpS Tryd.func65 rfl fun c₀ cs hu => ?_
  apply wpS_seq
  apply wpS_region
  simp [wpOpsS, go_sem, recoverD, hu, Tryd.ntmps65, Exit.thenS]
  refine wpS_of_wp ?_
  simp only [Array.replicate_succ, Array.replicate_zero, List.push_toArray, List.append_toArray, List.nil_append, List.cons_append, List.setIfInBounds_toArray, List.set_cons_succ, List.set_cons_zero]
  go_wp2
  cases c₀
  simp_all [bodyPostS, results, Tryd.results65]
set_option maxHeartbeats 400000 in
theorem catch_panicking (p g : Nat) (l : List UInt8) (f f' : Int) (older : List PanicEntry) (w : World) (hp : w.cell? ⟨p, 0, none⟩ = some (.pointer (some ⟨g, 0, none⟩))) (hr : RAt w g l f) :
    CallsD Tryd.prog 65 #[.pointer (some ⟨p, 0, none⟩)] (.panicking ({ v := fewV f', recovered := false } :: older)) w fun e u' w' =>
      e = .returned (.tuple #[]) ∧ u' = .panicking ({ v := fewV f', recovered := true } :: older) ∧ RAt w' g [] f' ∧ Keep [g] w w' := by
  unfold fewV
  refine callsD_of_wpS Tryd.func65 rfl fun c₀ cs hu => ?_
  apply wpS_seq
  apply wpS_region
  simp [wpOpsS, go_sem, recoverD, hu, Tryd.ntmps65, Exit.thenS]
  refine wpS_of_wp ?_
  simp only [Array.replicate_succ, Array.replicate_zero, List.push_toArray, List.append_toArray, List.nil_append, List.cons_append, List.setIfInBounds_toArray, List.set_cons_succ, List.set_cons_zero]
  obtain ⟨A, c, hh, hrd, hc, hm⟩ := hr
  obtain ⟨c0, c1, f0, f1⟩ := cell_two hh
  clear hu
  have Hh := Lib.hid hh
  clear hh
  have hta : ∀ (v : Value) (w : World), (Instr.typeAssert (.iface 86 v) 20 86 false).run Tryd.prog w = .ok v w := fun _ _ => by kernel_rfl
  have hfd : ∀ (n : Int) (w : World), (Instr.field 86 (.agg #[.int .i64 n]) 0).run Tryd.prog w = .ok (.int .i64 n) w := fun _ _ => by kernel_rfl
  have hpg : p ≠ g := by rintro rfl; rw [hp] at c0; cases c0
  go_wp2
  go_region
  refine ⟨rfl, _, rfl, _, results_none rfl _ _ _, rfl, rfl, ⟨none, 0, ?_, Rd.nil _ _ _, by simp, by unfold maxLen; omega⟩, ((Keep.refl [g] w).set (p := ⟨g, 1, none⟩) (.inl (List.mem_singleton.2 rfl)) _).set (p := ⟨g, 0, none⟩) (.inl (List.mem_singleton.2 rfl)) _⟩
  exact set_two0 (set_two1 Hh.out _) _

theorem RAt.on {w w' : World} {g : Nat} {l : List UInt8} {f : Int} (h : RAt w g l f) (b : Below w.heap.size w w') : RAt w' g l f := by
  obtain ⟨A, c, hh, hrd, hc, hm⟩ := h
  exact ⟨A, c, (b.block g (lt_of_block hh)).trans hh, hrd.below (b.mono (Nat.le_of_lt (lt_of_block hh))), hc, hm⟩
theorem RAt.lt {w : World} {g : Nat} {l : List UInt8} {f : Int} (h : RAt w g l f) : g < w.heap.size := by
  obtain ⟨A, c, hh, _⟩ := h; exact lt_of_block hh
theorem RAt.keep {w w' : World} {g : Nat} {l : List UInt8} {f : Int} {fp : List Nat} (h : RAt w g l f) (k : Keep fp w w') (hf : ∀ j ∈ fp, g < j) : RAt w' g l f := by
  obtain ⟨A, c, hh, hrd, hc, hm⟩ := h
  exact ⟨A, c, (k.block (lt_of_block hh) (fun e => by have := hf g e; omega)).trans hh, hrd.below (k.below (fun j hj => Nat.le_of_lt (hf j hj)) (Nat.le_of_lt (lt_of_block hh))), hc, hm⟩

/-- field, where the closure returns -/
theorem field_yes (g : Nat) (l : List UInt8) (k : FuncId) (caps : Array Value) (w : World) (R : World → Prop) (hr : RAt w g l 0)
    (hcf : ∀ w, Sem.run Tryd.prog (callFunc k caps) w = .ok (.enter k caps) w)
    (hk : Calls Tryd.prog k caps (w.alloc (.cells #[.pointer (some ⟨g, 0, none⟩)] 60)) fun e w' => e = .returned (.tuple #[]) ∧ R w') :
    Calls Tryd.prog 52 #[.pointer (some ⟨g, 0, none⟩), .func (.func k) #[] caps] w fun e w' => e = .returned (.tuple #[]) ∧ R w' := by
  have hmf : ∀ (fn : Fn) (first cap : Array Value) (w : World), (Instr.makeFunc fn first cap).run Tryd.prog w = .ok (.func fn first cap) w := fun _ _ _ _ => rfl
  obtain ⟨A, c, hh, hrd, hc, hm⟩ := hr
  obtain ⟨c0, c1, f0, f1⟩ := cell_two hh
  have hlt := lt_of_block hh
  clear hh
  go_enter_defers Tryd.func52, Tryd.ntmps52
  have Hk := Lib.hid hk
  clear hk
  go_wp2_with fail
  refine (Hk.out).mono ?_
  rintro e w1 ⟨rfl, h1⟩
  have H1 := Lib.hid h1
  clear h1 Hk
  go_wp2
  refine leaves_cons (f := 65) (args := #[.pointer (some ⟨w.heap.size, 0, none⟩)]) (by simp) (by simp [go_sem]) ?_
  refine (catch_idle ⟨w.heap.size, 0, none⟩ _).mono ?_
  rintro e u' w'' ⟨rfl, rfl, rfl⟩
  exact ⟨_, results_none rfl _ _ _, rfl, H1.out⟩

/-- field, where it panics -/
theorem field_no (g : Nat) (l : List UInt8) (f' : Int) (k : FuncId) (caps : Array Value) (w : World) (R : World → Prop) (hr : RAt w g l 0)
    (hcf : ∀ w, Sem.run Tryd.prog (callFunc k caps) w = .ok (.enter k caps) w)
    (hk : Calls Tryd.prog k caps (w.alloc (.cells #[.pointer (some ⟨g, 0, none⟩)] 60)) fun e w' => e = .panicked [{ v := fewV f', recovered := false }] ∧ w'.cell? ⟨w.heap.size, 0, none⟩ = some (.pointer (some ⟨g, 0, none⟩)) ∧ (∃ l', RAt w' g l' 0) ∧ R w') :
    Calls Tryd.prog 52 #[.pointer (some ⟨g, 0, none⟩), .func (.func k) #[] caps] w fun e w' => e = .returned (.tuple #[]) ∧ RAt w' g [] f' ∧ ∃ w1, R w1 ∧ Keep [g] w1 w' := by
  have hmf : ∀ (fn : Fn) (first cap : Array Value) (w : World), (Instr.makeFunc fn first cap).run Tryd.prog w = .ok (.func fn first cap) w := fun _ _ _ _ => rfl
  obtain ⟨A, c, hh, hrd, hc, hm⟩ := hr
  obtain ⟨c0, c1, f0, f1⟩ := cell_two hh
  have hlt := lt_of_block hh
  clear hh
  go_enter_defers Tryd.func52, Tryd.ntmps52
  have Hk := Lib.hid hk
  clear hk
  go_wp2_with fail
  refine (Hk.out).mono ?_
  rintro e w1 ⟨rfl, h1, ⟨l', h2⟩, h3⟩
  have H1 := Lib.hid h1
  have H2 := Lib.hid h2
  have H3 := Lib.hid h3
  clear h1 h2 h3 Hk
  go_wp2
  refine leaves_cons (f := 65) (args := #[.pointer (some ⟨w.heap.size, 0, none⟩)]) (by simp) (by simp [go_sem]) ?_
  refine (catch_panicking w.heap.size g l' 0 f' [] _ H1.out H2.out).mono ?_
  rintro e u' w'' ⟨rfl, rfl, h4, h5⟩
  exact ⟨_, results_none rfl _ _ _, rfl, h4, w1, H3.out, h5⟩
/-- field, behind a fault -/
theorem field_idle (g : Nat) (l : List UInt8) (f : Int) (hf : f ≠ 0) (k : FuncId) (caps : Array Value) (w : World) (hr : RAt w g l f) :
    Calls Tryd.prog 52 #[.pointer (some ⟨g, 0, none⟩), .func (.func k) #[] caps] w fun e w' => e = .returned (.tuple #[]) ∧ Below w.heap.size w w' := by
  obtain ⟨A, c, hh, hrd, hc, hm⟩ := hr
  obtain ⟨c0, c1, f0, f1⟩ := cell_two hh
  have hlt := lt_of_block hh
  have hne := bne_yes hf
  clear hh hf
  go_enter_defers Tryd.func52, Tryd.ntmps52
  go_wp2
  exact ⟨_, results_none rfl _ _ _, rfl, b1alloc _ _⟩
theorem field_nil (k : FuncId) (caps : Array Value) (w : World) :
    Calls Tryd.prog 52 #[.pointer none, .func (.func k) #[] caps] w fun e w' => e = .returned (.tuple #[]) ∧ Below w.heap.size w w' := by
  go_enter_defers Tryd.func52, Tryd.ntmps52
  go_wp2
  exact ⟨_, results_none rfl _ _ _, rfl, b1alloc _ _⟩

def NumY (w : World) (g : Nat) (l : List UInt8) (s : Nat) (f : Int) (e : Ending) (w' : World) : Prop := e = .returned (.int .u64 (Num.getN (l.take s) : Int)) ∧ RAt w' g (l.drop s) f ∧ Keep [g] w w'
def NumN (w : World) (g : Nat) (f : Int) (e : Ending) (w' : World) : Prop := e = .panicked [{ v := fewV 4, recovered := false }] ∧ (∃ l', RAt w' g l' f) ∧ Keep [g] w w'
set_option maxHeartbeats 400000 in
theorem number_yes (g : Nat) (l : List UInt8) (s : Nat) (z : Int) (hz : z = (s : Int)) (f : Int) (w : World) (hr : RAt w g l f) (h1 : 1 ≤ s) (h8 : s ≤ 8) (hs : s ≤ l.length) :
    Calls Tryd.prog 54 #[.pointer (some ⟨g, 0, none⟩), .int .i64 z] w (NumY w g l s f) := by
  subst hz
  have hlen := Lib.hid (show s = (l.take s).length by rw [List.length_take]; omega)
  go_enter Tryd.func54, Tryd.ntmps54
  go_wp2_with fail
  refine (take_yes g l s _ (by rfl) f _ hr hs).mono ?_
  rintro e w1 ⟨A, rfl, h3, h4, h5⟩
  go_wp2_with fail
  refine (Num.get_any A (l.take s) s s g _ hlen.out h3 (by rw [List.length_take]; omega) (by rw [List.length_take]; omega)).mono ?_
  rintro e w2 ⟨rfl, rfl⟩
  have H4 := Lib.hid h4
  have H5 := Lib.hid h5
  clear h4 h5 h3
  go_wp2
  go_ret
  exact ⟨rfl, H4.out, H5.out⟩
set_option maxHeartbeats 400000 in
theorem number_no (g : Nat) (l : List UInt8) (z : Int) (f : Int) (w : World) (hr : RAt w g l f) (h : z < 1 ∨ 8 < z ∨ (l.length : Int) < z) (h0 : -9223372036854775808 ≤ z) (h1 : z ≤ 9223372036854775807) :
    Calls Tryd.prog 54 #[.pointer (some ⟨g, 0, none⟩), .int .i64 z] w (NumN w g f) := by
  by_cases hz : z < 0 ∨ (l.length : Int) < z
  · clear h
    go_enter Tryd.func54, Tryd.ntmps54
    go_wp2_with fail
    refine (take_no g l z hz h0 h1 f _ hr).mono ?_
    rintro e w1 ⟨rfl, rfl⟩
    exact ⟨rfl, rfl, ⟨l, hr⟩, Keep.refl _ _⟩
  · obtain ⟨n, rfl⟩ := Int.eq_ofNat_of_zero_le (show 0 ≤ z by omega)
    have hn : n = 0 ∨ 8 < n := by omega
    have hnl : n ≤ l.length := by omega
    clear h hz
    have hm : n ≤ maxLen := by unfold maxLen; omega
    go_enter Tryd.func54, Tryd.ntmps54
    go_wp2_with fail
    refine (take_yes g l n _ (by rfl) f _ hr hnl).mono ?_
    rintro e w1 ⟨A, rfl, h3, h4, h5⟩
    go_wp2_with fail
    refine (Num.get_no A n n _ hn hm).mono ?_
    rintro e w2 ⟨rfl, rfl⟩
    have H4 := Lib.hid h4
    have H5 := Lib.hid h5
    clear h4 h5 h3 hn hm
    go_wp2
    exact ⟨rfl, rfl, ⟨_, H4.out⟩, H5.out⟩

/-- the closures: what they captured: the reader's variable p, the result's q -/
def CloY (w : World) (g q : Nat) (v : Value) (l : List UInt8) (e : Ending) (w' : World) : Prop := e = .returned (.tuple #[]) ∧ Box w' q v ∧ RAt w' g l 0 ∧ Keep [g, q] w w'
def CloN (w : World) (g q : Nat) (e : Ending) (w' : World) : Prop := e = .panicked [{ v := fewV 4, recovered := false }] ∧ (∃ l', RAt w' g l' 0) ∧ Keep [g] w w'
theorem cloY_of {w w1 : World} {g q : Nat} {v u : Value} {l : List UInt8} (hq : Box w q u) (hgq : g < q) (h4 : RAt w1 g l 0) (h5 : Keep [g] w w1) : CloY w g q v l (.returned (.tuple #[])) (w1.setCell ⟨q, 0, none⟩ v) := by
  have hb := hq.keep h5 (by simp; omega)
  exact ⟨rfl, hb.set v, h4.keep (keep_set w1 q 0 v) (by simpa using hgq), (h5.more (by simp)).set (p := ⟨q, 0, none⟩) (.inl (by simp)) v⟩





















































def CloB (w : World) (g q : Nat) (m l : List UInt8) (e : Ending) (w' : World) : Prop := e = .returned (.tuple #[]) ∧ RAt w' g l 0 ∧ Keep [g, q] w w' ∧ ∃ A c, Box w' q (.slice A m.length c) ∧ w'.ownsRow w.heap.size 5 1 (.slice A m.length c) m.length (m.map e8)
theorem cloB_of {w w1 w2 w3 : World} {g q : Nat} {u : Value} {l m : List UInt8} {A : Option Addr} {c : Nat} (hq : Box w q u) (hgq : g < q) (k1 : Keep [g] w w1) (k2 : Keep [g] w1 w2) (h4 : RAt w2 g l 0) (b3 : Below w2.heap.size w2 w3)
    (h3 : w3.ownsRow w2.heap.size 5 1 (.slice A m.length c) m.length (m.map e8)) : CloB w g q m l (.returned (.tuple #[])) (w3.setCell ⟨q, 0, none⟩ (.slice A m.length c)) := by
  have hs1 := k1.size
  have hs2 := k2.size
  have hlt := hq.lt
  have k13 : Keep [g] w w3 := (k1.trans k2 (Fresh.refl _ _)).trans (Keep.of_below b3 [g]) (Fresh.refl _ _)
  have hb := hq.keep k13 (by simp; omega)
  refine ⟨rfl, (h4.on b3).keep (keep_set w3 q 0 _) (by simpa using hgq), (k13.more (by simp)).set (p := ⟨q, 0, none⟩) (.inl (by simp)) _, A, c, hb.set _, own_base (own_keep h3 (keep_set w3 q 0 _) ?_) (by omega)⟩
  intro j hj e
  simp only [List.mem_singleton] at e
  subst e
  have := (h3.lt _ hj).1
  omega
theorem rd_len {w : World} {g : Nat} {l : List UInt8} {f : Int} (h : RAt w g l f) : l.length ≤ 9223372036854775807 := by
  obtain ⟨A, c, hh, hrd, hc, hm⟩ := h
  unfold maxLen at hm; omega
set_option maxHeartbeats 800000 in
theorem bytesC_yes (g p o q : Nat) (n : Nat) (z : Int) (l : List UInt8) (u : Value) (w : World) (hp : w.cell? ⟨p, 0, none⟩ = some (.pointer (some ⟨g, 0, none⟩))) (hpg : p ≠ g) (hob : Box w o (.int .i64 z)) (hog : g < o) (hq : Box w q u) (hgq : g < q) (hr : RAt w g l 0) (h2 : 2 ≤ l.length) (hn : n = Num.getN (l.take 2)) (hz : (n : Int) ≤ z) (hl : 2 + n ≤ l.length) :
    Calls Tryd.prog 53 #[.pointer (some ⟨p, 0, none⟩), .pointer (some ⟨o, 0, none⟩), .pointer (some ⟨q, 0, none⟩)] w (CloB w g q ((l.drop 2).take n) (l.drop (2 + n))) := by
  have hnb : n < 65536 := by
    have := Num.getN_lt l 2 h2
    rw [← hn] at this; omega
  have Hn := Lib.hid hn
  clear hn
  go_enter Tryd.func53, Tryd.ntmps53
  go_wp2_with fail
  refine (number_yes g l 2 _ (by rfl) 0 _ hr (by omega) (by omega) h2).mono ?_
  rintro e w1 ⟨rfl, h4, h5⟩
  rw [← Hn.out]
  have hop := (hob.keep h5 (by simp; omega)).cell
  have hpc : w1.cell? ⟨p, 0, none⟩ = some (.pointer (some ⟨g, 0, none⟩)) := by
    have hlt : p < w.heap.size := by
      rcases Nat.lt_or_ge p w.heap.size with h | h
      · exact h
      · simp [World.cell?, Array.getElem?_eq_none h] at hp
    rw [World.cell?_of_block (h5.block hlt (by simp; omega)), hp]
  have H5 := Lib.hid h5
  clear h5 hp
  go_wp2_with fail
  refine (take_yes g (l.drop 2) n _ (by rfl) 0 _ h4 (by rw [List.length_drop]; omega)).mono ?_
  rintro e w2 ⟨A, rfl, h6, h7, h8⟩
  rw [List.drop_drop] at h7
  have H7 := Lib.hid h7
  have H8 := Lib.hid h8
  have hlen : n = ((l.drop 2).take n).length := by rw [List.length_take, List.length_drop]; omega
  have h6' := h6.more (Nat.le_of_lt h7.lt)
  have Hlen := Lib.hid hlen
  have hle : ((l.drop 2).take n).length ≤ 65536 := by omega
  clear h7 h8 hlen h4 h6
  go_wp2_with fail
  refine (Sl.clone_any A ((l.drop 2).take n) n n _ Hlen.out h6' (by omega)).mono ?_
  rintro e w3 ⟨A3, c3, rfl, h9, h10⟩
  have hbx := ((hq.keep H5.out (by simp; omega)).keep H8.out (by simp; omega)).below h10 (by
    have := H5.out.size; have := H8.out.size; have := hq.lt; omega)
  have hqc := hbx.cell
  have hqf := hbx.free
  have hfin := Lib.hid (cloB_of hq hgq H5.out H8.out H7.out h10 h9)
  clear h9 h10 h6'
  go_wp2
  go_end0
  have h := hfin.out
  rw [show ((l.drop 2).take n).length = min n (l.length - 2) by simp] at h
  exact h
/-- when there are no bytes -/
def noB (l : List UInt8) (z : Int) : Prop := l.length < 2 ∨ z < (Num.getN (l.take 2) : Int) ∨ l.length < 2 + Num.getN (l.take 2)
set_option maxHeartbeats 800000 in
theorem bytesC_no (g p o q : Nat) (z : Int) (l : List UInt8) (w : World) (hp : w.cell? ⟨p, 0, none⟩ = some (.pointer (some ⟨g, 0, none⟩))) (hpg : p ≠ g) (hob : Box w o (.int .i64 z)) (hog : g < o) (hr : RAt w g l 0) (h : noB l z) :
    Calls Tryd.prog 53 #[.pointer (some ⟨p, 0, none⟩), .pointer (some ⟨o, 0, none⟩), .pointer (some ⟨q, 0, none⟩)] w (CloN w g q) := by
  by_cases h2 : l.length < 2
  · clear h
    go_enter Tryd.func53, Tryd.ntmps53
    go_wp2_with fail
    refine (number_no g l 2 0 _ hr (.inr (.inr (by omega))) (by omega) (by omega)).mono ?_
    rintro e w1 ⟨rfl, h4, h5⟩
    exact ⟨rfl, rfl, h4, h5⟩
  · have h := h.resolve_left h2
    obtain ⟨n, hn⟩ : ∃ n, n = Num.getN (l.take 2) := ⟨_, rfl⟩
    rw [← hn] at h
    have hnb : n < 65536 := by
      have := Num.getN_lt l 2 (by omega)
      rw [← hn] at this; omega
    have hlm := rd_len hr
    have Hn := Lib.hid hn
    have H := Lib.hid h
    clear hn h
    go_enter Tryd.func53, Tryd.ntmps53
    go_wp2_with fail
    refine (number_yes g l 2 _ (by rfl) 0 _ hr (by omega) (by omega) (by omega)).mono ?_
    rintro e w1 ⟨rfl, h4, h5⟩
    rw [← Hn.out]
    have hop := (hob.keep h5 (by simp; omega)).cell
    have hpc : w1.cell? ⟨p, 0, none⟩ = some (.pointer (some ⟨g, 0, none⟩)) := by
      have hlt : p < w.heap.size := by
        rcases Nat.lt_or_ge p w.heap.size with h | h
        · exact h
        · simp [World.cell?, Array.getElem?_eq_none h] at hp
      rw [World.cell?_of_block (h5.block hlt (by simp; omega)), hp]
    have H5 := Lib.hid h5
    clear h5 hp
    by_cases hz : z < (n : Int)
    · have H4 := Lib.hid h4
      clear h4
      go_wp2
      exact ⟨rfl, rfl, ⟨_, H4.out⟩, H5.out⟩
    · have hl : l.length < 2 + n := H.out.resolve_left hz
      go_wp2_with fail
      refine (take_no g (l.drop 2) n (.inr (by rw [List.length_drop]; omega)) (by omega) (by omega) 0 _ h4).mono ?_
      rintro e w2 ⟨rfl, rfl⟩
      exact ⟨rfl, rfl, ⟨_, h4⟩, H5.out⟩

theorem field_bad (g q : Nat) (l : List UInt8) (k : FuncId) (caps : Array Value) (w : World) (hr : RAt w g l 0)
    (hcf : ∀ w, Sem.run Tryd.prog (callFunc k caps) w = .ok (.enter k caps) w)
    (hk : Calls Tryd.prog k caps (w.alloc (.cells #[.pointer (some ⟨g, 0, none⟩)] 60)) (CloN (w.alloc (.cells #[.pointer (some ⟨g, 0, none⟩)] 60)) g q)) :
    Calls Tryd.prog 52 #[.pointer (some ⟨g, 0, none⟩), .func (.func k) #[] caps] w fun e w' => e = .returned (.tuple #[]) ∧ RAt w' g [] 4 ∧ Keep [g] w w' := by
  have hlt := hr.lt
  refine (field_no g l 4 k caps w (fun w' => Keep [g] (w.alloc (.cells #[.pointer (some ⟨g, 0, none⟩)] 60)) w') hr hcf (hk.mono ?_)).mono ?_
  · rintro e w1 ⟨rfl, h1, h2⟩
    refine ⟨rfl, ?_, h1, h2⟩
    rw [World.cell?_of_block (h2.block (by simp) (by simp; omega))]
    simp [go_sem]
  · rintro e w1 ⟨rfl, h2, w2, k1, k2⟩
    exact ⟨rfl, h2, ((Keep.refl [g] w).alloc _).trans (k1.trans k2 (Fresh.refl _ _)) (Fresh.refl _ _)⟩



theorem cf_bytes (caps : Array Value) : ∀ w, Sem.run Tryd.prog (callFunc 53 caps) w = .ok (.enter 53 caps) w := fun w => by simp [go_sem]

/-- what a method does: a value comes back, the reader stands at what is left -/
def Got (w : World) (g : Nat) (v : Value) (l : List UInt8) (f : Int) (e : Ending) (w' : World) : Prop := e = .returned v ∧ RAt w' g l f ∧ Keep [g] w w'
theorem b4alloc (w : World) (o o' o'' o3 : Obj) : Below w.heap.size w ((((w.alloc o).alloc o').alloc o'').alloc o3) := bt (b3alloc w o o' o'') (b1alloc _ _)
theorem got_fin {w W w1 : World} {g q : Nat} {l : List UInt8} {f : Int} (b : Below w.heap.size w W) (hq : w.heap.size ≤ q) (hg : g < w.heap.size) (h2 : RAt w1 g l f) (k : Keep [g, q] W w1) (v : Value) :
    RAt (w1.setCell ⟨q, 0, none⟩ v) g l f ∧ Keep [g] w (w1.setCell ⟨q, 0, none⟩ v) := by
  refine ⟨h2.keep (keep_set w1 q 0 v) (by simp; omega), Keep.set (p := ⟨q, 0, none⟩) ?_ (.inr hq) v⟩
  refine (Keep.of_below b [g]).trans k fun j hj => ?_
  simp only [List.mem_cons, List.not_mem_nil, or_false] at hj ⊢
  rcases hj with rfl | rfl
  · exact .inl rfl
  · exact .inr hq
theorem got_mid {w W w1 : World} {g : Nat} (b : Below w.heap.size w W) (k : Keep [g] W w1) (q : Nat) : Keep [g, q] W w1 := k.more (by simp)
theorem box_of (w : World) (o o2 : Obj) (t : TypeId) (v : Value) : Box ((w.alloc (.cells #[v] t)).alloc o) w.heap.size v := (Box.new w t v).alloc o
/-- the frame that the methods share: behind the closure's call -/
theorem res_cell {fn : Func} {q : Nat} {t : Tmp} {T : TypeId} {v : Value} {tmps : Array Value} {w : World} (h : fn.results = #[.cell t T]) : True := trivial















































































































































def GotB (w : World) (g : Nat) (m l : List UInt8) (f : Int) (e : Ending) (w' : World) : Prop := RAt w' g l f ∧ Keep [g] w w' ∧ ∃ A c, e = .returned (.slice A m.length c) ∧ w'.ownsRow w.heap.size 5 1 (.slice A m.length c) m.length (m.map e8)
set_option maxHeartbeats 800000 in
theorem bytesM_yes (g : Nat) (l : List UInt8) (n : Nat) (z : Int) (w : World) (hr : RAt w g l 0) (hl2 : 2 ≤ l.length) (hn : n = Num.getN (l.take 2)) (hz : (n : Int) ≤ z) (hl : 2 + n ≤ l.length) :
    Calls Tryd.prog 35 #[.pointer (some ⟨g, 0, none⟩), .int .i64 z] w (GotB w g ((l.drop 2).take n) (l.drop (2 + n)) 0) := by
  have Hn := Lib.hid hn
  clear hn
  have hmf : ∀ (fn : Fn) (first cap : Array Value) (w : World), (Instr.makeFunc fn first cap).run Tryd.prog w = .ok (.func fn first cap) w := fun _ _ _ _ => rfl
  have hlt := hr.lt
  go_enter Tryd.func35, Tryd.ntmps35
  go_wp2_with fail
  have hbq : Box (((w.alloc (.cells #[.pointer (some ⟨g, 0, none⟩)] 60)).alloc (.cells #[.int .i64 z] 3)).alloc (.cells #[.slice none 0 0] 25)) (w.heap.size + 2) (.slice none 0 0) := by
    have := Box.new ((w.alloc (.cells #[.pointer (some ⟨g, 0, none⟩)] 60)).alloc (.cells #[.int .i64 z] 3)) 25 (.slice none 0 0)
    simpa using this
  have hbo : Box (((w.alloc (.cells #[.pointer (some ⟨g, 0, none⟩)] 60)).alloc (.cells #[.int .i64 z] 3)).alloc (.cells #[.slice none 0 0] 25)) (w.heap.size + 1) (.int .i64 z) := by
    have := (Box.new (w.alloc (.cells #[.pointer (some ⟨g, 0, none⟩)] 60)) 3 (.int .i64 z)).alloc (.cells #[.slice none 0 0] 25)
    simpa using this
  have hr3 := hr.on (b3alloc w (.cells #[.pointer (some ⟨g, 0, none⟩)] 60) (.cells #[.int .i64 z] 3) (.cells #[.slice none 0 0] 25))
  have hr4 := hr3.on (b1alloc _ (.cells #[.pointer (some ⟨g, 0, none⟩)] 60))
  refine (field_yes g l 53 _ _ _ hr3 (cf_bytes _) ((bytesC_yes g w.heap.size (w.heap.size + 1) (w.heap.size + 2) n z l (.slice none 0 0) _ (by simp [go_sem]) (by omega) (hbo.alloc _) (by omega) (hbq.alloc _) (by omega) hr4 hl2 Hn.out hz hl).mono (fun e w' h => h))).mono ?_
  rintro e w1 ⟨rfl, h2, k12, A1, c1, h1, h9⟩
  have h10 := own_keep h9 (keep_set w1 (w.heap.size + 2) 0 (.slice A1 ((l.drop 2).take n).length c1)) (by
    intro j hj e
    simp only [List.mem_singleton] at e
    subst e
    have := (h9.lt _ hj).1
    simp at this
    omega)
  have H10 := Lib.hid (own_base h10 (show w.heap.size ≤ _ by simp; omega))
  clear h9 h10
  obtain ⟨m, hm⟩ : ∃ m, m = (l.drop 2).take n := ⟨_, rfl⟩
  rw [← hm] at h1 H10
  have Hm := Lib.hid hm
  clear hm
  have hfin := Lib.hid (got_fin (b4alloc w (.cells #[.pointer (some ⟨g, 0, none⟩)] 60) (.cells #[.int .i64 z] 3) (.cells #[.slice none 0 0] 25) (.cells #[.pointer (some ⟨g, 0, none⟩)] 60)) (show w.heap.size ≤ w.heap.size + 2 by omega) hlt h2 k12 (.slice A1 m.length c1))
  have hqc := h1.cell
  have hqf := h1.free
  clear h2 k12 hbq hbo hr3 hr4
  go_wp2
  refine bodyPost_ret (v := .slice A1 m.length c1) (by simp [results, Tryd.results35, go_sem, hqc]) rfl ?_
  rw [← Hm.out]
  exact ⟨hfin.out.1, hfin.out.2, A1, c1, rfl, H10.out⟩
set_option maxHeartbeats 800000 in
theorem bytesM_no (g : Nat) (l : List UInt8) (z : Int) (w : World) (hr : RAt w g l 0) (h : noB l z) :
    Calls Tryd.prog 35 #[.pointer (some ⟨g, 0, none⟩), .int .i64 z] w (GotB w g [] [] 4) := by
  have H := Lib.hid h
  clear h
  have hmf : ∀ (fn : Fn) (first cap : Array Value) (w : World), (Instr.makeFunc fn first cap).run Tryd.prog w = .ok (.func fn first cap) w := fun _ _ _ _ => rfl
  have hlt := hr.lt
  go_enter Tryd.func35, Tryd.ntmps35
  go_wp2_with fail
  have hbq : Box (((w.alloc (.cells #[.pointer (some ⟨g, 0, none⟩)] 60)).alloc (.cells #[.int .i64 z] 3)).alloc (.cells #[.slice none 0 0] 25)) (w.heap.size + 2) (.slice none 0 0) := by
    have := Box.new ((w.alloc (.cells #[.pointer (some ⟨g, 0, none⟩)] 60)).alloc (.cells #[.int .i64 z] 3)) 25 (.slice none 0 0)
    simpa using this
  have hbo : Box (((w.alloc (.cells #[.pointer (some ⟨g, 0, none⟩)] 60)).alloc (.cells #[.int .i64 z] 3)).alloc (.cells #[.slice none 0 0] 25)) (w.heap.size + 1) (.int .i64 z) := by
    have := (Box.new (w.alloc (.cells #[.pointer (some ⟨g, 0, none⟩)] 60)) 3 (.int .i64 z)).alloc (.cells #[.slice none 0 0] 25)
    simpa using this
  have hr3 := hr.on (b3alloc w (.cells #[.pointer (some ⟨g, 0, none⟩)] 60) (.cells #[.int .i64 z] 3) (.cells #[.slice none 0 0] 25))
  have hr4 := hr3.on (b1alloc _ (.cells #[.pointer (some ⟨g, 0, none⟩)] 60))
  refine (field_bad g (w.heap.size + 2) l 53 _ _ hr3 (cf_bytes _) (bytesC_no g w.heap.size (w.heap.size + 1) (w.heap.size + 2) z l _ (by simp [go_sem]) (by omega) (hbo.alloc _) (by omega) hr4 H.out)).mono ?_
  rintro e w1 ⟨rfl, h2, k1⟩
  have h1 := hbq.keep k1 (by simp; omega)
  have k12 := k1.more (fp' := [g, w.heap.size + 2]) (by simp)
  clear k1
  have hfin := Lib.hid (got_fin (b3alloc w (.cells #[.pointer (some ⟨g, 0, none⟩)] 60) (.cells #[.int .i64 z] 3) (.cells #[.slice none 0 0] 25)) (show w.heap.size ≤ w.heap.size + 2 by omega) hlt h2 k12 (.slice none 0 0))
  have hqc := h1.cell
  have hqf := h1.free
  clear h2 k12 hbq hbo hr3 hr4
  go_wp2
  refine bodyPost_ret (v := .slice none 0 0) (by simp [results, Tryd.results35, go_sem, hqc]) rfl ⟨hfin.out.1, hfin.out.2, none, 0, rfl, own_nil _ _ _ _⟩
set_option maxHeartbeats 800000 in
theorem bytesM_idle (g : Nat) (l : List UInt8) (f : Int) (hf : f ≠ 0) (z : Int) (w : World) (hr : RAt w g l f) :
    Calls Tryd.prog 35 #[.pointer (some ⟨g, 0, none⟩), .int .i64 z] w (GotB w g [] l f) := by
  have Hf := Lib.hid hf
  clear hf
  have hmf : ∀ (fn : Fn) (first cap : Array Value) (w : World), (Instr.makeFunc fn first cap).run Tryd.prog w = .ok (.func fn first cap) w := fun _ _ _ _ => rfl
  have hlt := hr.lt
  go_enter Tryd.func35, Tryd.ntmps35
  go_wp2_with fail
  have hbq : Box (((w.alloc (.cells #[.pointer (some ⟨g, 0, none⟩)] 60)).alloc (.cells #[.int .i64 z] 3)).alloc (.cells #[.slice none 0 0] 25)) (w.heap.size + 2) (.slice none 0 0) := by
    have := Box.new ((w.alloc (.cells #[.pointer (some ⟨g, 0, none⟩)] 60)).alloc (.cells #[.int .i64 z] 3)) 25 (.slice none 0 0)
    simpa using this
  have hbo : Box (((w.alloc (.cells #[.pointer (some ⟨g, 0, none⟩)] 60)).alloc (.cells #[.int .i64 z] 3)).alloc (.cells #[.slice none 0 0] 25)) (w.heap.size + 1) (.int .i64 z) := by
    have := (Box.new (w.alloc (.cells #[.pointer (some ⟨g, 0, none⟩)] 60)) 3 (.int .i64 z)).alloc (.cells #[.slice none 0 0] 25)
    simpa using this
  have hr3 := hr.on (b3alloc w (.cells #[.pointer (some ⟨g, 0, none⟩)] 60) (.cells #[.int .i64 z] 3) (.cells #[.slice none 0 0] 25))
  have hr4 := hr3.on (b1alloc _ (.cells #[.pointer (some ⟨g, 0, none⟩)] 60))
  refine (field_idle g l f Hf.out 53 _ _ hr3).mono ?_
  rintro e w1 ⟨rfl, b⟩
  have h1 := hbq.below b hbq.lt
  have h2 := hr3.on b
  have k12 := Keep.of_below b [g, w.heap.size + 2]
  clear b
  have hfin := Lib.hid (got_fin (b3alloc w (.cells #[.pointer (some ⟨g, 0, none⟩)] 60) (.cells #[.int .i64 z] 3) (.cells #[.slice none 0 0] 25)) (show w.heap.size ≤ w.heap.size + 2 by omega) hlt h2 k12 (.slice none 0 0))
  have hqc := h1.cell
  have hqf := h1.free
  clear h2 k12 hbq hbo hr3 hr4
  go_wp2
  refine bodyPost_ret (v := .slice none 0 0) (by simp [results, Tryd.results35, go_sem, hqc]) rfl ⟨hfin.out.1, hfin.out.2, none, 0, rfl, own_nil _ _ _ _⟩
end Go.Proofs.YtnfhlnkbkfgihaaDoor.Read

/- The walks of wire.Reader: Text, Left, Fault, End, Read, and nil readers. -/
namespace Go.Proofs.YtnfhlnkbkfgihaaDoor.Read
open Go.RowKit
set_option linter.unusedVariables false
set_option maxRecDepth 100000

def GotS (w : World) (g : Nat) (m l : List UInt8) (f : Int) (e : Ending) (w' : World) : Prop := e = .returned (.string ⟨m.toArray⟩) ∧ RAt w' g l f ∧ Keep [g] w w'
set_option maxHeartbeats 400000 in
theorem text_of (g : Nat) (l l' m : List UInt8) (f f' : Int) (z : Int) (w : World) (h : Calls Tryd.prog 35 #[.pointer (some ⟨g, 0, none⟩), .int .i64 z] w (GotB w g m l' f')) :
    Calls Tryd.prog 38 #[.pointer (some ⟨g, 0, none⟩), .int .i64 z] w (GotS w g m l' f') := by
  have Hk := Lib.hid h
  clear h
  go_enter Tryd.func38, Tryd.ntmps38
  go_wp2_with fail
  refine (Hk.out).mono ?_
  rintro e w1 ⟨h1, h2, A, c, rfl, h3⟩
  have hcv := run_conv_rd (P := Tryd.prog) 25 9 5 m.length c rfl Tryd.underlying25 Tryd.underlying5 Tryd.underlying9 (Rd.own h3)
  have H1 := Lib.hid h1
  have H2 := Lib.hid h2
  clear h1 h2 h3 Hk
  go_wp2
  go_ret
  exact ⟨rfl, H1.out, H2.out⟩










set_option maxHeartbeats 400000 in
theorem fault_any (g : Nat) (l : List UInt8) (f : Int) (w : World) (hr : RAt w g l f) :
    Calls Tryd.prog 56 #[.pointer (some ⟨g, 0, none⟩)] w fun e w' => e = .returned (.int .i64 f) ∧ w = w' := by
  obtain ⟨A, c, hh, hrd, hc, hm⟩ := hr
  obtain ⟨c0, c1, f0, f1⟩ := cell_two hh
  clear hh
  go_enter Tryd.func56, Tryd.ntmps56
  go_wp2
  go_ret
  exact ⟨rfl, rfl⟩
def endF (l : List UInt8) (f : Int) : Int := if f = 0 ∧ 0 < l.length then 4 else f
set_option maxHeartbeats 400000 in
theorem end_any (g : Nat) (l : List UInt8) (f : Int) (w : World) (hr : RAt w g l f) :
    Calls Tryd.prog 37 #[.pointer (some ⟨g, 0, none⟩)] w fun e w' => e = .returned (.int .i64 (endF l f)) ∧ w = w' := by
  have hr' := hr
  obtain ⟨A, c, hh, hrd, hc, hm⟩ := hr
  obtain ⟨c0, c1, f0, f1⟩ := cell_two hh
  clear hh
  by_cases hf : f = 0
  · subst hf
    by_cases hl : 0 < l.length
    · have He := Lib.hid (show endF l 0 = 4 from if_pos ⟨rfl, hl⟩)
      go_enter Tryd.func37, Tryd.ntmps37
      go_wp2
      go_ret
      exact ⟨ret_int He.out.symm, rfl⟩
    · have He := Lib.hid (show endF l 0 = 0 from if_neg (by omega))
      go_enter Tryd.func37, Tryd.ntmps37
      go_wp2_with fail
      refine (fault_any g l 0 _ hr').mono ?_
      rintro e w1 ⟨rfl, rfl⟩
      go_wp2
      go_ret
      exact ⟨ret_int He.out.symm, rfl⟩
  · have He := Lib.hid (show endF l f = f from if_neg (by omega))
    have hne := beq_no hf
    clear hf
    go_enter Tryd.func37, Tryd.ntmps37
    go_wp2_with fail
    refine (fault_any g l f _ hr').mono ?_
    rintro e w1 ⟨rfl, rfl⟩
    go_wp2
    go_ret
    exact ⟨ret_int He.out.symm, rfl⟩
set_option maxHeartbeats 400000 in
theorem read_any (A : Option Addr) (l : List UInt8) (n c : Nat) (w : World) (hn : n = l.length) (hr : Rd w w.heap.size A (l.map e8)) (hl : l.length ≤ 1000000000000) :
    Calls Tryd.prog 34 #[.slice A n c] w fun e w' => ∃ g, e = .returned (.pointer (some ⟨g, 0, none⟩)) ∧ RAt w' g l 0 ∧ w.heap.size ≤ g ∧ Below w.heap.size w w' := by
  subst hn
  go_enter Tryd.func34, Tryd.ntmps34
  go_wp2_with fail
  refine (Sl.clone_any A l _ c _ rfl hr hl).mono ?_
  rintro e w1 ⟨A1, c1, rfl, h1, h2⟩
  obtain ⟨hcl, hcm⟩ := own_cap h1
  have hrd := Rd.own h1
  have hle := h2.size
  have hfin := Lib.hid (show RAt (w1.alloc (.cells #[.slice A1 l.length c1, .int .i64 0] 82)) w1.heap.size l 0 from ⟨A1, c1, heap_alloc_new w1 _, hrd.below (b1alloc _ _), hcl, hcm⟩)
  clear h1
  go_wp2
  go_ret
  exact ⟨_, rfl, hfin.out, hle, bt h2 (b1alloc _ _)⟩
end Go.Proofs.YtnfhlnkbkfgihaaDoor.Read

/- Nodes: the document's Take, at bytes. No statement is proved here. -/
namespace Go.Proofs.YtnfhlnkbkfgihaaDoor.Nod
open Go.RowKit
open Go.Proofs.YtnfhlnkbkfgihaaDoor.Num (getN)
set_option linter.unusedVariables false
set_option maxRecDepth 100000
/-- what the document's Take answers -/
def TookR (w : World) (B : Nat) (l : List UInt8) (e : Ending) (w' : World) : Option (List UInt8 × List UInt8) → Prop
  | none => e = .returned (.tuple #[.agg #[.int .i64 0, .int .i64 0, .int .u64 0, .slice none 0 0], .int .i64 0, .bool false]) ∧ Below w.heap.size w w'
  | some (m, r) => Below w.heap.size w w' ∧ ∃ A c, e = .returned (.tuple #[.agg #[.int .i64 2, .int .i64 0, .int .u64 0, .slice A m.length c], .int .i64 (2 + (m.length : Int)), .bool true]) ∧ Rd w B A (m.map e8) ∧ m.length ≤ c ∧ c ≤ maxLen ∧ r = l.drop (2 + m.length) ∧ 2 + m.length ≤ l.length
theorem getN_ix {l : List UInt8} (h0 : 0 < l.length) (h1 : 1 < l.length) : getN (l.take 2) = l[0].toNat * 256 + l[1].toNat := by
  have e1 : getN (l.take 2) = getN (l.take 1) * 256 + l[1].toNat := Num.getN_take h1
  have e0 : getN (l.take 1) = getN (l.take 0) * 256 + l[0].toNat := Num.getN_take h0
  rw [e1, e0]
  simp [getN]
theorem tookR_2 {w w' : World} {l : List UInt8} {q c : Nat} {A : Option Addr} (hb : Below w.heap.size w w') (hq : 2 + q ≤ l.length) {B : Nat} (hr : Rd w B A (((l.drop 2).take q).map e8)) (hc : q ≤ c) (hm : c ≤ maxLen) {z : Int} (hz : z = 2 + (q : Int)) :
    TookR w B l (.returned (.tuple #[.agg #[.int .i64 2, .int .i64 0, .int .u64 0, .slice A q c], .int .i64 z, .bool true])) w' (some ((l.drop 2).take q, l.drop (2 + q))) := by
  have e : ((l.drop 2).take q).length = q := by rw [List.length_take, List.length_drop]; omega
  refine ⟨hb, A, c, ?_, hr, by omega, hm, by rw [e], by omega⟩
  rw [e, hz]
def has2 (z : Nat) (l : List UInt8) : Prop := 2 ≤ l.length ∧ getN (l.take 2) ≤ z ∧ 2 + getN (l.take 2) ≤ l.length
theorem rdF_yes {z : Nat} {l : List UInt8} (h : has2 z l) : rdF z l = some ((l.drop 2).take (getN (l.take 2)), l.drop (2 + getN (l.take 2))) := by
  obtain ⟨h1, h2, h3⟩ := h
  unfold rdF
  rw [if_neg (by omega)]
theorem rdF_no {z : Nat} {l : List UInt8} (h : ¬ has2 z l) : rdF z l = none := by
  unfold has2 at h
  unfold rdF
  rw [if_pos (by omega)]
set_option maxHeartbeats 1600000 in
theorem take_any (A : Option Addr) (l : List UInt8) (n cap : Nat) (z : Nat) (hz : z ≤ 100000) (w : World) (hn : n = l.length) (B : Nat) (hB : B ≤ w.heap.size) (hr : Rd w B A (l.map e8)) (hl : l.length ≤ 100000) (hc : l.length ≤ cap) (hcm : cap ≤ maxLen) :
    Calls Tryd.prog 39 #[.slice A n cap, .int .i64 2, .int .i64 (z : Int)] w fun e w' => TookR w B l e w' (rdF z l) := by
  subst hn
  unfold maxLen at hcm
  by_cases h2 : 2 ≤ l.length
  · have hg := getN_ix (l := l) (by omega) (by omega)
    obtain ⟨b, off, rfl, hbb, hc0⟩ := hr.get (k := 0) (by simp; omega)
    obtain ⟨b', off', e', hbb', hc1⟩ := hr.get (k := 1) (by simp; omega)
    have hbb := Nat.lt_of_lt_of_le hbb hB
    injection e' with e'
    injection e' with e1 e2 _
    subst e1 e2
    rw [List.getElem_map] at hc0 hc1
    rw [Nat.add_zero] at hc0
    have hx0 : (l[0].toNat : Int) ≤ 255 := by have := l[0].toNat_lt; omega
    have hx1 : (l[1].toNat : Int) ≤ 255 := by have := l[1].toNat_lt; omega
    obtain ⟨x, hx⟩ : ∃ x, x = l[0] := ⟨_, rfl⟩
    obtain ⟨y, hy⟩ : ∃ y, y = l[1] := ⟨_, rfl⟩
    rw [← hx] at hc0 hx0 hg
    rw [← hy] at hc1 hx1 hg
    clear hx hy hbb'
    have w1 : IntKind.i64.wrap ((x.toNat : Int) * 256) = (x.toNat : Int) * 256 := IntWalk.i64_in _ (by omega)
    have w2 : IntKind.i64.wrap ((x.toNat : Int) * 256 + (y.toNat : Int)) = (x.toNat : Int) * 256 + (y.toNat : Int) := IntWalk.i64_in _ (by omega)
    have w3 : IntKind.i64.wrap (x.toNat : Int) = (x.toNat : Int) := IntWalk.i64_in _ (by omega)
    have w4 : IntKind.i64.wrap (y.toNat : Int) = (y.toNat : Int) := IntWalk.i64_in _ (by omega)
    have b0 : (0 : Int) < (l.length : Int) := by omega
    have b1 : (1 : Int) < (l.length : Int) := by omega
    by_cases h : has2 z l
    · rw [rdF_yes h]
      obtain ⟨_, h3, h4⟩ := h
      rw [hg] at h3 h4 ⊢
      have Hg := Lib.hid hg
      clear hg
      go_enter Tryd.func39, Tryd.ntmps39
      go_wp2
      go_quiet (fail)
      go_wp2
      · refine bodyPost_ret (v := .tuple #[.agg #[.int .i64 2, .int .i64 0, .int .u64 0, .slice (some ⟨b, off, none⟩) (x.toNat * 256 + y.toNat) (0)], .int .i64 (2 + ((x.toNat : Int) * 256 + (y.toNat : Int))), .bool true]) (by simp [results, Tryd.results39, go_sem]) rfl (tookR_2 (by repeat (first | exact b1alloc _ _ | refine bset_new ?_ _ _ | refine bdrew ?_ _)) h4 (Rd.empty (by
          have : x.toNat * 256 + y.toNat = 0 := by omega
          rw [this]; simp)) (by omega) (by unfold maxLen; omega) (by omega))
      · refine bodyPost_ret (v := .tuple #[.agg #[.int .i64 2, .int .i64 0, .int .u64 0, .slice (some ⟨b, off + 2, none⟩) (x.toNat * 256 + y.toNat) (cap - 2)], .int .i64 (2 + ((x.toNat : Int) * 256 + (y.toNat : Int))), .bool true]) (by simp [results, Tryd.results39, go_sem]) rfl (tookR_2 (by repeat (first | exact b1alloc _ _ | refine bset_new ?_ _ _ | refine bdrew ?_ _)) h4 (by
          have := (hr.drop 2).take (x.toNat * 256 + y.toNat)
          rw [Option.map_some, Addr.add_lit] at this
          rw [List.map_take, List.map_drop]
          exact this) (by omega) (by unfold maxLen; omega) (by omega))
    · rw [rdF_no h]
      have hno : (z : Int) < ((x.toNat * 256 + y.toNat : Nat) : Int) ∨ (l.length : Int) - 2 < ((x.toNat * 256 + y.toNat : Nat) : Int) := by
        unfold has2 at h; rw [hg] at h; omega
      clear h hg
      by_cases h3 : (l.length : Int) - 2 < ((x.toNat * 256 + y.toNat : Nat) : Int)
      · go_enter Tryd.func39, Tryd.ntmps39
        go_wp2
        go_quiet (fail)
        go_wp2
        refine bodyPost_ret (v := .tuple #[.agg #[.int .i64 0, .int .i64 0, .int .u64 0, .slice none 0 0], .int .i64 (0), .bool false]) (by simp [results, Tryd.results39, go_sem]) rfl ⟨rfl, by repeat (first | exact b1alloc _ _ | refine bset_new ?_ _ _ | refine bdrew ?_ _)⟩
      · have h4 := hno.resolve_right h3
        clear hno
        go_enter Tryd.func39, Tryd.ntmps39
        go_wp2
        go_quiet (fail)
        go_wp2
        refine bodyPost_ret (v := .tuple #[.agg #[.int .i64 0, .int .i64 0, .int .u64 0, .slice none 0 0], .int .i64 (0), .bool false]) (by simp [results, Tryd.results39, go_sem]) rfl ⟨rfl, by repeat (first | exact b1alloc _ _ | refine bset_new ?_ _ _ | refine bdrew ?_ _)⟩
  · rw [rdF_no (fun h => h2 h.1)]
    go_enter Tryd.func39, Tryd.ntmps39
    go_wp2
    refine bodyPost_ret (v := .tuple #[.agg #[.int .i64 0, .int .i64 0, .int .u64 0, .slice none 0 0], .int .i64 (0), .bool false]) (by simp [results, Tryd.results39, go_sem]) rfl ⟨rfl, b1alloc _ _⟩
end Go.Proofs.YtnfhlnkbkfgihaaDoor.Nod

/- Nodes: DecodeLeaf. No statement is proved here. -/
namespace Go.Proofs.YtnfhlnkbkfgihaaDoor.Nod
open Go.RowKit
open Go.Proofs.YtnfhlnkbkfgihaaDoor.Nam (nameB)
open Go.Proofs.YtnfhlnkbkfgihaaDoor.Utf (Tabs)
open Go.Proofs.YtnfhlnkbkfgihaaDoor.Read (RAt GotB GotS bytesM_yes bytesM_no bytesM_idle text_of end_any read_any)
set_option linter.unusedVariables false
set_option maxRecDepth 100000
theorem bytesS (g : Nat) (l : List UInt8) (f : Int) (z : Nat) (w : World) (hr : RAt w g l f) :
    Calls Tryd.prog 35 #[.pointer (some ⟨g, 0, none⟩), .int .i64 (z : Int)] w (GotB w g (step z l f).1 (step z l f).2.1 (step z l f).2.2) := by
  by_cases hf : f = 0
  · subst hf
    by_cases h : has2 z l
    · have := bytesM_yes g l _ (z : Int) w hr h.1 rfl (by have := h.2.1; omega) h.2.2
      rw [step_yes (rdF_yes h)]
      exact this
    · have := bytesM_no g l (z : Int) w hr (by unfold Read.noB; unfold has2 at h; omega)
      rw [step_no (rdF_no h)]
      exact this
  · have := bytesM_idle g l f hf (z : Int) w hr
    rw [step_idle hf]
    exact this
theorem step_len (z : Nat) (l : List UInt8) (f : Int) : (step z l f).1.length ≤ l.length ∧ (step z l f).2.1.length ≤ l.length := by
  unfold step
  split
  · cases h : rdF z l with
    | none => simp
    | some t =>
      obtain ⟨m, r⟩ := t
      have := congrArg List.length (rdF_some h).1
      rw [List.length_append, fld_len] at this
      simp only
      omega
  · simp
def dl (b : List UInt8) : Option (List UInt8 × List UInt8) := if b = [] then some ([], []) else decLeaf nameB b
def DlRet (w : World) (e : Ending) (w' : World) : Option (List UInt8 × List UInt8) → Prop
  | none => e = .returned (.tuple #[.string ⟨#[]⟩, .slice none 0 0, .int .i64 4]) ∧ Below w.heap.size w w'
  | some (s, x) => ∃ A c, e = .returned (.tuple #[.string ⟨s.toArray⟩, .slice A x.length c, .int .i64 0]) ∧ Rd w' w'.heap.size A (x.map e8) ∧ x.length ≤ c ∧ Below w.heap.size w w'
set_option maxHeartbeats 1000000 in
theorem decleaf_any (b : List UInt8) (A : Option Addr) (c : Nat) (w : World) (hT : Tabs w) (hr : Rd w w.heap.size A (b.map e8)) (hb : b.length ≤ 2000) :
    Calls Tryd.prog 16 #[.slice A b.length c] w fun e w' => DlRet w e w' (dl b) := by
  by_cases h0 : b = []
  · subst h0
    rw [show dl [] = some ([], []) from if_pos rfl]
    go_enter Tryd.func16, Tryd.ntmps16
    go_wp2_with (go_at_call 18; refine (empty_any A 0 c _).mono ?_; rintro e w1 ⟨rfl, rfl⟩)
    go_ret3
    exact ⟨none, 0, rfl, fun h => absurd rfl h, Nat.le_refl _, Below.refl _ _⟩
  have hnz : decide (b.length = 0) = false := decide_eq_false (fun h => h0 (List.eq_nil_of_length_eq_zero h))
  obtain ⟨r, hr0⟩ : ∃ r, r = dl b := ⟨_, rfl⟩
  rw [← hr0]
  have hr1 : r = decLeaf nameB b := by rw [hr0, dl, if_neg h0]
  unfold decLeaf at hr1
  have HE := Lib.hid (fun W => empty_any A b.length c W)
  rw [hnz] at HE
  have HRd := Lib.hid (read_any A b b.length c w rfl hr (by omega))
  have HT := Lib.hid (fun g W (h : RAt W g b 0) => text_of g b _ _ 0 _ (65536 : Int) W (bytesS g b 0 65536 W h))
  obtain ⟨e1, e2⟩ := step_len 65536 b 0
  obtain ⟨⟨S1, L1, F1⟩, hs1⟩ : ∃ t, t = step 65536 b 0 := ⟨_, rfl⟩
  rw [← hs1] at hr1 HT e1 e2
  simp only at hr1 HT e1 e2
  have HB := Lib.hid (fun g W (h : RAt W g L1 F1) => bytesS g L1 F1 65536 W h)
  obtain ⟨e3, e4⟩ := step_len 65536 L1 F1
  obtain ⟨⟨X, L2, F2⟩, hs2⟩ : ∃ t, t = step 65536 L1 F1 := ⟨_, rfl⟩
  rw [← hs2] at hr1 HB e3 e4
  simp only at hr1 HB e3 e4
  have HN := Lib.hid (fun g W (h : RAt W g L2 F2) => end_any g L2 F2 W h)
  obtain ⟨F, hF⟩ : ∃ F, F = endF L2 F2 := ⟨_, rfl⟩
  rw [← hF] at hr1
  have hF' : Read.endF L2 F2 = F := hF.symm
  rw [hF'] at HN
  have HX := Lib.hid (show X.length ≤ 100000 by omega)
  have HL := Lib.hid (fun W (hW : Below w.heap.size w W) A1 c1 => leaf_any S1 X A1 X.length c1 W (hT.on hW) rfl (by omega) (by omega))
  clear hr0 hs1 hs2 hF hF' e1 e2 e3 e4 hb hnz hT hr h0
  by_cases hf : F = 0
  rotate_left
  · have hv := Lib.hid (show r = none by rw [hr1, if_neg (fun h => hf h.1)])
    have t0 := bne_yes hf
    clear hr1 hf
    go_enter Tryd.func16, Tryd.ntmps16
    go_wp2_with (first
      | (go_at_call 18; refine (HE.out _).mono ?_; rintro e w0 ⟨rfl, rfl⟩)
      | (go_at_call 34; refine HRd.out.mono ?_; rintro e w1 ⟨g, rfl, h1, hg1, b1⟩; have HG := Lib.hid hg1; clear hg1)
      | (go_at_call 38; refine (HT.out g _ h1).mono ?_; rintro e w2 ⟨rfl, h2, k2⟩; have b2 := b1.trans (k2.below (fun j hj => by simp at hj; subst hj; exact HG.out) b1.size))
      | (go_at_call 35; refine (HB.out g _ h2).mono ?_; rintro e w3 ⟨h3, k3, A3, c3, rfl, o3⟩; have b3 := b2.trans (k3.below (fun j hj => by simp at hj; subst hj; exact HG.out) b2.size))
      | (go_at_call 37; refine (HN.out g _ h3).mono ?_; rintro e w4 ⟨rfl, rfl⟩)
      | (go_at_call 29; refine (HL.out _ b3 A3 c3).mono ?_; rintro e w5 ⟨rfl, b5⟩))
    go_ret3
    rw [hv.out]
    exact ⟨rfl, b3⟩
  subst hf
  by_cases h1 : S1 = []
  · have hv := Lib.hid (show r = none by rw [hr1, if_neg (fun h => h.2.1 h1)])
    subst h1
    clear hr1
    go_enter Tryd.func16, Tryd.ntmps16
    go_wp2_with (first
      | (go_at_call 18; refine (HE.out _).mono ?_; rintro e w0 ⟨rfl, rfl⟩)
      | (go_at_call 34; refine HRd.out.mono ?_; rintro e w1 ⟨g, rfl, h1, hg1, b1⟩; have HG := Lib.hid hg1; clear hg1)
      | (go_at_call 38; refine (HT.out g _ h1).mono ?_; rintro e w2 ⟨rfl, h2, k2⟩; have b2 := b1.trans (k2.below (fun j hj => by simp at hj; subst hj; exact HG.out) b1.size))
      | (go_at_call 35; refine (HB.out g _ h2).mono ?_; rintro e w3 ⟨h3, k3, A3, c3, rfl, o3⟩; have b3 := b2.trans (k3.below (fun j hj => by simp at hj; subst hj; exact HG.out) b2.size))
      | (go_at_call 37; refine (HN.out g _ h3).mono ?_; rintro e w4 ⟨rfl, rfl⟩)
      | (go_at_call 29; refine (HL.out _ b3 A3 c3).mono ?_; rintro e w5 ⟨rfl, b5⟩))
    go_ret3
    rw [hv.out]
    exact ⟨rfl, b3⟩
  have hne := emp_no h1
  cases hl : leafB nameB S1 X with
  | false =>
    have hv := Lib.hid (show r = none by rw [hr1, if_neg (fun h => by rw [hl] at h; exact absurd h.2.2 (by simp))])
    rw [hl] at HL
    clear hr1 hl h1
    go_enter Tryd.func16, Tryd.ntmps16
    go_wp2_with (first
      | (go_at_call 18; refine (HE.out _).mono ?_; rintro e w0 ⟨rfl, rfl⟩)
      | (go_at_call 34; refine HRd.out.mono ?_; rintro e w1 ⟨g, rfl, h1, hg1, b1⟩; have HG := Lib.hid hg1; clear hg1)
      | (go_at_call 38; refine (HT.out g _ h1).mono ?_; rintro e w2 ⟨rfl, h2, k2⟩; have b2 := b1.trans (k2.below (fun j hj => by simp at hj; subst hj; exact HG.out) b1.size))
      | (go_at_call 35; refine (HB.out g _ h2).mono ?_; rintro e w3 ⟨h3, k3, A3, c3, rfl, o3⟩; have b3 := b2.trans (k3.below (fun j hj => by simp at hj; subst hj; exact HG.out) b2.size))
      | (go_at_call 37; refine (HN.out g _ h3).mono ?_; rintro e w4 ⟨rfl, rfl⟩)
      | (go_at_call 29; refine (HL.out _ b3 A3 c3).mono ?_; rintro e w5 ⟨rfl, b5⟩))
    go_ret3
    rw [hv.out]
    exact ⟨rfl, bt b3 b5⟩
  | true =>
    have hv := Lib.hid (show r = some (S1, X) by rw [hr1, if_pos ⟨rfl, h1, hl⟩])
    rw [hl] at HL
    clear hr1 hl h1
    go_enter Tryd.func16, Tryd.ntmps16
    go_wp2_with (first
      | (go_at_call 18; refine (HE.out _).mono ?_; rintro e w0 ⟨rfl, rfl⟩)
      | (go_at_call 34; refine HRd.out.mono ?_; rintro e w1 ⟨g, rfl, h1, hg1, b1⟩; have HG := Lib.hid hg1; clear hg1)
      | (go_at_call 38; refine (HT.out g _ h1).mono ?_; rintro e w2 ⟨rfl, h2, k2⟩; have b2 := b1.trans (k2.below (fun j hj => by simp at hj; subst hj; exact HG.out) b1.size))
      | (go_at_call 35; refine (HB.out g _ h2).mono ?_; rintro e w3 ⟨h3, k3, A3, c3, rfl, o3⟩; have b3 := b2.trans (k3.below (fun j hj => by simp at hj; subst hj; exact HG.out) b2.size))
      | (go_at_call 37; refine (HN.out g _ h3).mono ?_; rintro e w4 ⟨rfl, rfl⟩)
      | (go_at_call 29; refine (HL.out _ b3 A3 c3).mono ?_; rintro e w5 ⟨rfl, b5⟩))
    go_ret3
    rw [hv.out]
    exact ⟨A3, c3, rfl, (Rd.own o3).on b5, (own_cap o3).1, bt b3 b5⟩
end Go.Proofs.YtnfhlnkbkfgihaaDoor.Nod

/- The walks of the package geom and of its reference. -/
namespace Go.Proofs.YtnfhlnkbkfgihaaDoor.Geom
open Go.RowKit
set_option linter.unusedVariables false

def least (a d : Int) : Int := if 2 ≤ a ∧ a ≤ 4 ∧ 1 ≤ d ∧ d ≤ 3 then d + 2 else 0
theorem least_in {a d : Int} (h1 : 2 ≤ a) (h2 : a ≤ 4) (h3 : 1 ≤ d) (h4 : d ≤ 3) : least a d = d + 2 := if_pos ⟨h1, h2, h3, h4⟩
theorem least_out {a d : Int} (h : a < 2 ∨ 4 < a ∨ d < 1 ∨ 3 < d) : least a d = 0 := if_neg (by omega)
def right (a d g : Int) : Bool := decide (2 ≤ a ∧ a ≤ 4 ∧ 1 ≤ d ∧ d ≤ 3 ∧ d + 2 ≤ g ∧ g ≤ 64)

set_option maxHeartbeats 400000 in
theorem least_any (a d g : Int) (w : World) (ha0 : -9223372036854775808 ≤ a) (ha1 : a ≤ 9223372036854775807) (hd0 : -9223372036854775808 ≤ d) (hd1 : d ≤ 9223372036854775807) :
    Calls Tryd.prog 42 #[.agg #[.int .i64 a, .int .i64 d, .int .i64 g]] w fun e w' => e = .returned (.int .i64 (least a d)) ∧ Below w.heap.size w w' := by
  by_cases h1 : a < 2
  · rw [least_out (by omega)]
    go_enter Tryd.func42, Tryd.ntmps42
    go_wp2
    go_ret
    exact ⟨rfl, below_lit _ _⟩
  by_cases h2 : 4 < a
  · rw [least_out (by omega)]
    go_enter Tryd.func42, Tryd.ntmps42
    go_wp2
    go_ret
    exact ⟨rfl, below_lit _ _⟩
  by_cases h3 : d < 1
  · rw [least_out (by omega)]
    go_enter Tryd.func42, Tryd.ntmps42
    go_wp2
    go_ret
    exact ⟨rfl, below_lit _ _⟩
  by_cases h4 : 3 < d
  · rw [least_out (by omega)]
    go_enter Tryd.func42, Tryd.ntmps42
    go_wp2
    go_ret
    exact ⟨rfl, below_lit _ _⟩
  rw [least_in (by omega) (by omega) (by omega) (by omega)]
  go_enter Tryd.func42, Tryd.ntmps42
  go_wp2
  go_ret
  exact ⟨rfl, below_lit _ _⟩

set_option maxHeartbeats 400000 in
theorem right_any (a d g : Int) (w : World) (ha0 : -9223372036854775808 ≤ a) (ha1 : a ≤ 9223372036854775807) (hd0 : -9223372036854775808 ≤ d) (hd1 : d ≤ 9223372036854775807) (hg0 : -9223372036854775808 ≤ g) (hg1 : g ≤ 9223372036854775807) :
    Calls Tryd.prog 24 #[.agg #[.int .i64 a, .int .i64 d, .int .i64 g]] w fun e w' => e = .returned (.bool (right a d g)) ∧ Below w.heap.size w w' := by
  by_cases h1 : 2 ≤ a ∧ a ≤ 4 ∧ 1 ≤ d ∧ d ≤ 3
  · obtain ⟨h1, h2, h3, h4⟩ := h1
    by_cases h5 : d + 2 ≤ g
    · have hr := Lib.hid (show right a d g = decide (g ≤ 64) by unfold right; simp [h1, h2, h3, h4, h5])
      go_enter Tryd.func24, Tryd.ntmps24
      go_wp2_with fail
      refine (least_any _ _ _ _ (by omega) (by omega) (by omega) (by omega)).mono ?_
      rintro e w1 ⟨rfl, b1⟩
      rw [least_in h1 h2 h3 h4]
      have hc := b1.cell (p := ⟨w.heap.size, 2, none⟩) (by simp)
      simp at hc
      go_wp2
      go_ret
      exact ⟨ret_bool hr.out.symm, (below_lit _ _).trans (b1.mono (by simp))⟩
    · have hr := Lib.hid (show right a d g = false by unfold right; simp; omega)
      go_enter Tryd.func24, Tryd.ntmps24
      go_wp2_with fail
      refine (least_any _ _ _ _ (by omega) (by omega) (by omega) (by omega)).mono ?_
      rintro e w1 ⟨rfl, b1⟩
      rw [least_in h1 h2 h3 h4]
      have hc := b1.cell (p := ⟨w.heap.size, 2, none⟩) (by simp)
      simp at hc
      go_wp2
      go_ret
      exact ⟨ret_bool (by rw [hr.out]), (below_lit _ _).trans (b1.mono (by simp))⟩
  · have hr := Lib.hid (show right a d g = false by unfold right; simp; omega)
    go_enter Tryd.func24, Tryd.ntmps24
    go_wp2_with fail
    refine (least_any _ _ _ _ (by omega) (by omega) (by omega) (by omega)).mono ?_
    rintro e w1 ⟨rfl, b1⟩
    rw [least_out (by omega)]
    have hc := b1.cell (p := ⟨w.heap.size, 2, none⟩) (by simp)
    simp at hc
    go_wp2
    go_ret
    exact ⟨ret_bool (by rw [hr.out]), (below_lit _ _).trans (b1.mono (by simp))⟩
/-- how many nodes lie above depth d, how many leaves at it -/
def nodes (a d : Int) : Int := if d = 1 then 1 else if d = 2 then 1 + a else 1 + a + a * a
def leaves (a d : Int) : Int := if d = 1 then a else if d = 2 then a * a else a * a * a
theorem nine {P : Int → Int → Prop} {a d : Int} (h1 : 2 ≤ a) (h2 : a ≤ 4) (h3 : 1 ≤ d) (h4 : d ≤ 3) (h : P 2 1 ∧ P 3 1 ∧ P 4 1 ∧ P 2 2 ∧ P 3 2 ∧ P 4 2 ∧ P 2 3 ∧ P 3 3 ∧ P 4 3) : P a d := by
  obtain rfl | rfl | rfl : a = 2 ∨ a = 3 ∨ a = 4 := by omega
  all_goals obtain rfl | rfl | rfl : d = 1 ∨ d = 2 ∨ d = 3 := by omega
  all_goals simp [h]
theorem right_yes {a d g : Int} (h : right a d g = true) : 2 ≤ a ∧ a ≤ 4 ∧ 1 ≤ d ∧ d ≤ 3 ∧ d + 2 ≤ g ∧ g ≤ 64 := by simpa [right] using h
/-- the sums on the way -/
def nUp (a : Int) (k : Nat) : Int := if k = 0 then 0 else nodes a k
def lUp (a : Int) (k : Nat) : Int := if k = 0 then 1 else leaves a k
theorem nUp_succ (a : Int) (k : Nat) (hk : k < 3) : nUp a (k + 1) = nUp a k + lUp a k := by
  obtain rfl | rfl | rfl : k = 0 ∨ k = 1 ∨ k = 2 := by omega
  all_goals simp [nUp, lUp, nodes, leaves]
theorem lUp_succ (a : Int) (k : Nat) (hk : k < 3) : lUp a (k + 1) = lUp a k * a := by
  obtain rfl | rfl | rfl : k = 0 ∨ k = 1 ∨ k = 2 := by omega
  all_goals simp [lUp, leaves]
theorem lUp_bd {a : Int} (k : Nat) (hk : k ≤ 3) (h1 : 2 ≤ a) (h2 : a ≤ 4) : 1 ≤ lUp a k ∧ lUp a k ≤ 64 := by
  obtain rfl | rfl | rfl | rfl : k = 0 ∨ k = 1 ∨ k = 2 ∨ k = 3 := by omega
  all_goals obtain rfl | rfl | rfl : a = 2 ∨ a = 3 ∨ a = 4 := by omega
  all_goals decide
theorem nUp_bd {a : Int} (k : Nat) (hk : k ≤ 3) (h1 : 2 ≤ a) (h2 : a ≤ 4) : 0 ≤ nUp a k ∧ nUp a k ≤ 21 := by
  obtain rfl | rfl | rfl | rfl : k = 0 ∨ k = 1 ∨ k = 2 ∨ k = 3 := by omega
  all_goals obtain rfl | rfl | rfl : a = 2 ∨ a = 3 ∨ a = 4 := by omega
  all_goals decide
theorem up_all {a d : Int} (h3 : 1 ≤ d) (h4 : d ≤ 3) : nUp a d.toNat = nodes a d ∧ lUp a d.toNat = leaves a d := by
  obtain rfl | rfl | rfl : d = 1 ∨ d = 2 ∨ d = 3 := by omega
  all_goals exact ⟨rfl, rfl⟩
def nodesOf (a d g : Int) : Int := if right a d g then nodes a d else 0
def leavesOf (a d g : Int) : Int := if right a d g then leaves a d else 0





















































end Go.Proofs.YtnfhlnkbkfgihaaDoor.Geom

/- The walks of the package geom and of its reference: pages, parts, the reference's conditions. -/
namespace Go.Proofs.YtnfhlnkbkfgihaaDoor.Geom
open Go.RowKit
set_option linter.unusedVariables false
abbrev lo : Int := -9223372036854775808
abbrev hi : Int := 9223372036854775807
def pagesOf (a d g : Int) : Int := nodesOf a d g + leavesOf a d g
theorem nodesOf_bd (a d g : Int) : 0 ≤ nodesOf a d g ∧ nodesOf a d g ≤ 21 := by
  unfold nodesOf
  by_cases h : right a d g = true
  · rw [if_pos h]
    obtain ⟨h1, h2, h3, h4, _⟩ := right_yes h
    exact nine (P := fun a d => 0 ≤ nodes a d ∧ nodes a d ≤ 21) h1 h2 h3 h4 (by decide)
  · rw [if_neg h]; omega
theorem leavesOf_bd (a d g : Int) : 0 ≤ leavesOf a d g ∧ leavesOf a d g ≤ 64 := by
  unfold leavesOf
  by_cases h : right a d g = true
  · rw [if_pos h]
    obtain ⟨h1, h2, h3, h4, _⟩ := right_yes h
    exact nine (P := fun a d => 0 ≤ leaves a d ∧ leaves a d ≤ 64) h1 h2 h3 h4 (by decide)
  · rw [if_neg h]; omega
theorem pagesOf_bd (a d g : Int) : 0 ≤ pagesOf a d g ∧ pagesOf a d g ≤ 85 := by
  have := nodesOf_bd a d g; have := leavesOf_bd a d g; unfold pagesOf; omega

























def partsV (a d g : Int) : Value := .agg #[.string ⟨#[114, 111, 111, 116]⟩, .int .i64 2, .string ⟨#[115, 117, 112, 101, 114]⟩, .int .i64 2, .string ⟨#[108, 111, 103]⟩, .int .i64 g, .string ⟨#[97, 114, 101, 97]⟩, .int .i64 (2 * pagesOf a d g)]













def psum (g p : Int) : Nat → Int | 0 => 0 | 1 => 2 | 2 => 4 | 3 => 4 + g | _ => 4 + g + p
def sizeOf (a d g : Int) : Int := if right a d g then 4 + g + 2 * pagesOf a d g else 0











































































end Go.Proofs.YtnfhlnkbkfgihaaDoor.Geom
