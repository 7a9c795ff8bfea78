/- The library's slices.Backward at pending writes: its iterator's contract. -/
import Derived.Test.YtkapamolligmkaaDisk10
import Derived.Test.YtkapamolligmkaaChunk
import Derived.BigFrameIn
namespace Go.Proofs.Ytkapamolligmkaa.Disk
open Go.RowKit Go.Shelf
attribute [local go_sem] Oper.semAt_some
set_option linter.unusedVariables false

theorem wpListIn_load_mid {F : Fence} {n : Nat} {P : Program} {w : World} {ops : Array Oper} {rest : List Oper} {o : Oper} {a : Act} {Q : Exit → Act → World → Prop} (hg : o.guard = none) (t : TypeId) (x : Operand) (ho : o.op = .load t x)
    (g off : Nat) (hx : a.eval x = .pointer (some ⟨g, off, none⟩)) (cs : List Value) (d : TypeDesc) (hc : w.rangeAt g off cs) (hu : P.underlying t = some d) (hd : d.isRow = true) (hi : (P.info? t).map (·.size) = some cs.length)
    (h : wpListIn F n P ops Q rest (a.put o.dst (.agg cs.toArray)) w) : wpListIn F n P ops Q (o :: rest) a w := by
  refine wpListIn_plain hg fun K hK => ?_
  unfold Oper.wpIn
  refine ⟨by simp [Oper.about, ho], ?_⟩
  rw [Oper.semAt_plain F _ _ (by rw [ho]; intro c hc'; cases hc')]
  simp [execOp, ho, hx, Instr.loadAt, Instr.sureAddr, run_loadVar_mid w g off t cs d hc hu hd hi]
  exact hK _ _ h
theorem wpListIn_allocT {F : Fence} {n : Nat} {P : Program} {w : World} {ops : Array Oper} {rest : List Oper} {o : Oper} {a : Act} {Q : Exit → Act → World → Prop} (hg : o.guard = none) (t : TypeId) (ho : o.op = .alloc t) (xs : List Value)
    (hz : ∀ w, (zeroValue t).run P w = .ok (arrV xs) w)
    (h : ∀ w1, BlkT w1 w.heap.size t xs → Below w.heap.size w w1 → wpListIn F n P ops Q rest (a.put o.dst (.pointer (some ⟨w.heap.size, 0, none⟩))) w1) : wpListIn F n P ops Q (o :: rest) a w := by
  refine wpListIn_plain hg fun K hK => ?_
  unfold Oper.wpIn
  refine ⟨by simp [Oper.about, ho], ?_⟩
  rw [Oper.semAt_plain F _ _ (by rw [ho]; intro c hc'; cases hc')]
  simp [execOp, ho, Instr.alloc, hz, go_sem, arrV]
  exact hK _ _ (h _ (heap_alloc_new w _) (b1alloc _ _))
theorem wpListIn_storeT {F : Fence} {n : Nat} {P : Program} {w : World} {ops : Array Oper} {rest : List Oper} {o : Oper} {a : Act} {Q : Exit → Act → World → Prop} (hgd : o.guard = none) (t : TypeId) (x y : Operand) (ho : o.op = .store t x y)
    {g : Nat} {t' : TypeId} (hx : a.eval x = .pointer (some ⟨g, 0, none⟩)) {xs ys : List Value} (hy : a.eval y = arrV ys) (hb : BlkT w g t' xs) (hl : xs.length = ys.length) (h1 : ∀ v ∈ ys, v.oneCell' = true) (hi : (P.info? t).map (·.size) = some ys.length)
    (h : ∀ w1, BlkT w1 g t' ys → w.grownBy w1 (some g) → wpListIn F n P ops Q rest (a.put o.dst undef) w1) : wpListIn F n P ops Q (o :: rest) a w := by
  have hb0 : w.heap[g]? = some (.cells xs.toArray t' (0, 0)) := hb
  refine wpListIn_plain hgd fun K hK => ?_
  have := run_storeVar_row (P := P) w g t' t _ ys.toArray hb0 (by simpa using hi) (by simpa using hl) (by simpa using h1)
  unfold Oper.wpIn
  refine ⟨by simp [Oper.about, ho], ?_⟩
  rw [Oper.semAt_plain F _ _ (by rw [ho]; intro c hc'; cases hc')]
  unfold arrV at hy
  simp [execOp, ho, hx, hy, Instr.storeAt, Instr.sureAddr, this]
  exact hK _ _ (h _ (setRow_heap w g _ _ t' _ hb0) (setRow_grown _ _ _))
/-- a block of cells stays, whatever is turned that is no cells -/
theorem blkT_from {β : Type} {B : Nat} (b : Nat) (t : TypeId) (xs : List Value) : OwnFrom B (fun (_ : β) W => BlkT W b t xs) := fun s W W' row hs hg hr =>
  (hg.block b (lt_of_block hs) (fun e => by
    obtain ⟨_, o, ho, hc⟩ := hr b e.symm
    rw [show W.heap[b]? = _ from hs] at ho
    cases ho; cases hc)).trans hs
/-- the k-th but last -/
def bk (m k : Nat) (h : k < m) : Fin m := ⟨m - 1 - k, by omega⟩
def bkAll (m : Nat) : List (Fin m) := (List.finRange m).reverse
theorem bkAll_len (m : Nat) : (bkAll m).length = m := by simp [bkAll]
theorem bkAll_take {m k : Nat} (h : k < m) : (bkAll m).take (k + 1) = (bkAll m).take k ++ [bk m k h] := by
  rw [List.take_succ_eq_append_getElem (by rw [bkAll_len]; exact h)]
  congr 1
  simp only [bkAll, List.getElem_reverse, List.length_finRange, List.getElem_finRange, bk, Fin.cast_mk]
def encW (l : List Wr) (x : Fin l.length) : Array Value := #[.int .i64 (x.1 : Int), arrV (wcells l[x.1])]
set_option maxRecDepth 100000 in
set_option maxHeartbeats 1000000 in
theorem back1_in (n : Nat) (hn : 1 ≤ n) (n0 l Bs cp : Nat) (Ap : Option Addr) (pend : List Wr) (hp : ∀ x ∈ pend, x.2.length = 512) (hreach : pend.length ≤ 1000000000) (hBs0 : Bs < n0) (J Jx : List (Fin pend.length) → World → Prop)
    (hY : ∀ pre x W, J pre W → pre.length < pend.length → YieldAt Fence.wide (n - 1) Try.prog l (encW pend x) W fun e W' =>
      (e = .returned (.bool true) ∧ J (pre ++ [x]) W' ∧ Below n0 W W') ∨ (e = .returned (.bool false) ∧ Jx (pre ++ [x]) W'))
    (W : World) (hBs : W.cell? ⟨Bs, 0, none⟩ = some (.slice Ap pend.length cp)) (hAp : ∀ k (hk : k < pend.length), ∃ gp, Ap = some ⟨gp, 0, none⟩ ∧ gp < n0 ∧ W.rangeAt gp (k * 513) (wcells pend[k])) (h0 : J [] W) :
    CallsIn Fence.wide n Try.prog 58 #[.func (.yield l) #[] #[], .pointer (some ⟨Bs, 0, none⟩)] W fun e W' => (∃ v, e = .returned v) ∧
      ((∃ ys, ys = bkAll pend.length ∧ J ys W') ∨ (∃ pre, (∃ k, k ≤ pend.length ∧ pre = (bkAll pend.length).take k) ∧ Jx pre W')) := by
  refine callsIn_of_wp Try.func58 rfl trivial ?_ rfl
  simp only [Try.ntmps58, List.size_toArray, List.length_cons, List.length_nil, Nat.reduceAdd, Nat.reduceSub, Array.replicate_succ, Array.replicate_zero, List.push_toArray, List.append_toArray, List.nil_append, List.cons_append]
  gi_wp2
  gi_loopw [3] (fun i wr => ∃ k : Nat, k ≤ pend.length ∧ i = .int .i64 ((pend.length : Int) - 1 - (k : Int)) ∧ J ((bkAll pend.length).take k) wr ∧ Below n0 W wr)
    (fun i _ => (intOf i + 1).toNat)
  case atStart => exact ⟨0, Nat.zero_le _, by go_num, h0, Below.refl _ _⟩
  case round =>
    obtain ⟨k, hk, rfl, hJs, hB⟩ := hrel
    by_cases hlt : k < pend.length
    · have hle : pend.length - 1 - k < pend.length := by omega
      obtain ⟨gp, rfl, hgp, hr0⟩ := hAp (pend.length - 1 - k) hle
      have hcs : wr.cell? ⟨Bs, 0, none⟩ = some (.slice (some ⟨gp, 0, none⟩) pend.length cp) := (hB.cell (p := ⟨Bs, 0, none⟩) hBs0).trans hBs
      have hrg : wr.rangeAt gp ((pend.length - 1 - k) * 513) (wcells pend[pend.length - 1 - k]) := fun j v hv => (hB.cell (p := ⟨gp, _, none⟩) hgp).trans (hr0 j v hv)
      obtain ⟨fn, tmps, assign, body, hy, hR⟩ := hY ((bkAll pend.length).take k) (bk pend.length k hlt) wr hJs (by rw [List.length_take, bkAll_len]; omega)
      unfold encW bk arrV at hy
      obtain ⟨x, hx⟩ : ∃ x, x = pend[pend.length - 1 - k] := ⟨_, rfl⟩
      simp only [← hx] at hy hrg
      have hszw := wcells_szW (hp x (by rw [hx]; exact List.getElem_mem _))
      have huw := Try.underlying89
      obtain ⟨j, hj⟩ : ∃ j, j = pend.length - 1 - k := ⟨_, rfl⟩
      rw [← hj] at hy hrg hle
      have hjI : (pend.length : Int) - 1 - (k : Int) = (j : Int) := by omega
      rw [hjI]
      have Hj := Lib.hid hj
      have hjl : (j : Int) < (pend.length : Int) := by omega
      clear hx hr0 hj hjI hAp
      gi_wp2_with (refine wpListIn_load_mid rfl _ _ rfl gp (j * 513) rfl (wcells x) _ hrg huw rfl hszw ?_)
      refine hR.mono ?_
      rintro e W3 (⟨rfl, hJ3, hk3⟩ | ⟨rfl, hJx3⟩)
      · have H5 := Lib.hid (show (j : Int) - 1 = (pend.length : Int) - 1 - ((k + 1 : Nat) : Int) by have := Hj.out; omega)
        gi_wp2
        go_roundw
        case rel => exact ⟨k + 1, by omega, by rw [H5.out], by rw [bkAll_take hlt]; exact hJ3, hB.trans hk3⟩
        case measure => first | (simp [intOf]; done) | (simp [intOf]; have := Hj.out; omega)
      · gi_wp2
        refine bodyPost_ret (results_none rfl _ _ _) rfl ?_
        exact ⟨⟨_, rfl⟩, .inr ⟨_, ⟨k + 1, by omega, (bkAll_take hlt).symm⟩, hJx3⟩⟩
    · obtain rfl : k = pend.length := by omega
      have hneg : ¬ (0 : Int) ≤ (pend.length : Int) - 1 - (pend.length : Int) := by omega
      gi_wp2
      go_end0
      rw [List.take_of_length_le (by rw [bkAll_len]; exact Nat.le_refl _)] at hJs
      exact ⟨⟨_, rfl⟩, .inl (by first | exact hJs | exact ⟨_, rfl, hJs⟩)⟩
theorem back_stops (n : Nat) (hn : 1 ≤ n) (n0 Bs cp : Nat) (Ap : Option Addr) (pend : List Wr) (hp : ∀ x ∈ pend, x.2.length = 512) (hreach : pend.length ≤ 1000000000) (w : World) (hBs0 : Bs < n0) (hn0 : n0 ≤ w.heap.size) (hBs : w.cell? ⟨Bs, 0, none⟩ = some (.slice Ap pend.length cp))
    (hAp : ∀ k (hk : k < pend.length), ∃ gp, Ap = some ⟨gp, 0, none⟩ ∧ gp < n0 ∧ w.rangeAt gp (k * 513) (wcells pend[k])) :
    SeqStopsK Fence.wide n Try.prog 58 #[.pointer (some ⟨Bs, 0, none⟩)] (encW pend) (Below n0) (fun ys => ys = bkAll pend.length) (fun pre => ∃ k, k ≤ pend.length ∧ pre = (bkAll pend.length).take k) pend.length w := fun l J Jx W hW hJ hJx hY h0 =>
  back1_in n hn n0 l Bs cp Ap pend hp hreach hBs0 J Jx hY W ((hW.cell (p := ⟨Bs, 0, none⟩) (by show Bs < _; omega)).trans hBs)
    (fun k hk => by
      obtain ⟨gp, h1, h2, h3⟩ := hAp k hk
      exact ⟨gp, h1, h2, fun j v hv => (hW.cell (p := ⟨gp, _, none⟩) (by show gp < _; omega)).trans (h3 j v hv)⟩) h0
set_option maxRecDepth 100000 in
set_option maxHeartbeats 400000 in
theorem backward_any (A : Option Addr) (n c : Nat) (w : World) :
    Calls Try.prog 47 #[.slice A n c] w fun e w' => e = .returned (.func (.func 58) #[] #[.pointer (some ⟨w.heap.size, 0, none⟩)]) ∧
      w'.cell? ⟨w.heap.size, 0, none⟩ = some (.slice A n c) ∧ Below w.heap.size w w' ∧ w.heap.size < w'.heap.size := by
  go_enter Try.func47, Try.ntmps47
  go_wp2
  go_ret
  refine ⟨rfl, ?_, b1alloc _ _, ?_⟩
  all_goals simp
end Go.Proofs.Ytkapamolligmkaa.Disk
