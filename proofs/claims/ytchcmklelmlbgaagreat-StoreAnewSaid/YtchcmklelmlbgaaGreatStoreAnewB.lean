/- Texts of this claim, joined: BackQ, DiskRQ, Arr2Q, NumPlainQ, ShaPlainQ, MacPlainQ, StrQ, Ref01Q, Mac1Q, NumQ, SecPlainQ, CrcPlainQ, CrcQ, CrcRefQ, Sec1Q, Sec2Q, Sec3Q, Sec4Q, Sec5Q, Sec6Q. -/
import Derived.Test.YtchcmklelmlbgaaGreatStoreAnewA
import Derived.BigFrameIn
import Derived.WalkMore
import Derived.ScopeJumps
import Derived.Deep.Quiet
import Derived.Laws.IdiomStrings
import Derived.Lib.ConvBytes
import Derived.Test.YtchcmklelmlbgaaGreatRows
import Derived.Outline
import Derived.Deep.QuietTactic
import Derived.BigQuiet
import Derived.Lib.MakeNoZero
import Derived.Laws.Entries
import Derived.Deep.DeepMust
import Derived.Deep.RegionHeld3
import Derived.Deep.RegionWith
/- The library's slices.Backward at pending writes: its iterator's contract. -/
namespace Go.Proofs.YtchcmklelmlbgaaGreat.Disk
open Go.RowKit Go.Shelf
attribute [local go_sem] Oper.semAt_some
set_option linter.unusedVariables false

theorem wpListIn_load_mid {F : Fence} {n : Nat} {P : Program} {w : World} {ops : Array Oper} {rest : List Oper} {o : Oper} {a : Act} {Q : Exit → Act → World → Prop} (hg : o.guard = none) (t : TypeId) (x : Operand) (ho : o.op = .load t x)
    (g off : Nat) (hx : a.eval x = .pointer (some ⟨g, off, none⟩)) (cs : List Value) (d : TypeDesc) (hc : w.rangeAt g off cs) (hu : P.underlying t = some d) (hd : d.isRow = true) (hi : (P.info? t).map (·.size) = some cs.length)
    (h : wpListIn F n P ops Q rest (a.put o.dst (.agg cs.toArray)) w) : wpListIn F n P ops Q (o :: rest) a w := by
  refine wpListIn_plain hg fun K hK => ?_
  unfold Oper.wpIn
  refine ⟨by simp [Oper.about, ho], ?_⟩
  rw [Oper.semAt_plain F _ _ (by rw [ho]; intro c hc'; cases hc')]
  simp [execOp, ho, hx, Instr.loadAt, Instr.sureAddr, run_loadVar_mid w g off t cs d hc hu hd hi]
  exact hK _ _ h
theorem wpListIn_allocT {F : Fence} {n : Nat} {P : Program} {w : World} {ops : Array Oper} {rest : List Oper} {o : Oper} {a : Act} {Q : Exit → Act → World → Prop} (hg : o.guard = none) (t : TypeId) (ho : o.op = .alloc t) (xs : List Value)
    (hz : ∀ w, (zeroValue t).run P w = .ok (arrV xs) w)
    (h : ∀ w1, BlkT w1 w.heap.size t xs → Below w.heap.size w w1 → wpListIn F n P ops Q rest (a.put o.dst (.pointer (some ⟨w.heap.size, 0, none⟩))) w1) : wpListIn F n P ops Q (o :: rest) a w := by
  refine wpListIn_plain hg fun K hK => ?_
  unfold Oper.wpIn
  refine ⟨by simp [Oper.about, ho], ?_⟩
  rw [Oper.semAt_plain F _ _ (by rw [ho]; intro c hc'; cases hc')]
  simp [execOp, ho, Instr.alloc, hz, go_sem, arrV]
  exact hK _ _ (h _ (heap_alloc_new w _) (b1alloc _ _))
theorem wpListIn_storeT {F : Fence} {n : Nat} {P : Program} {w : World} {ops : Array Oper} {rest : List Oper} {o : Oper} {a : Act} {Q : Exit → Act → World → Prop} (hgd : o.guard = none) (t : TypeId) (x y : Operand) (ho : o.op = .store t x y)
    {g : Nat} {t' : TypeId} (hx : a.eval x = .pointer (some ⟨g, 0, none⟩)) {xs ys : List Value} (hy : a.eval y = arrV ys) (hb : BlkT w g t' xs) (hl : xs.length = ys.length) (h1 : ∀ v ∈ ys, v.oneCell' = true) (hi : (P.info? t).map (·.size) = some ys.length)
    (h : ∀ w1, BlkT w1 g t' ys → w.grownBy w1 (some g) → wpListIn F n P ops Q rest (a.put o.dst undef) w1) : wpListIn F n P ops Q (o :: rest) a w := by
  have hb0 : w.heap[g]? = some (.cells xs.toArray t' (0, 0)) := hb
  refine wpListIn_plain hgd fun K hK => ?_
  have := run_storeVar_row (P := P) w g t' t _ ys.toArray hb0 (by simpa using hi) (by simpa using hl) (by simpa using h1)
  unfold Oper.wpIn
  refine ⟨by simp [Oper.about, ho], ?_⟩
  rw [Oper.semAt_plain F _ _ (by rw [ho]; intro c hc'; cases hc')]
  unfold arrV at hy
  simp [execOp, ho, hx, hy, Instr.storeAt, Instr.sureAddr, this]
  exact hK _ _ (h _ (setRow_heap w g _ _ t' _ hb0) (setRow_grown _ _ _))
/-- a block of cells stays, whatever is turned that is no cells -/
theorem blkT_from {β : Type} {B : Nat} (b : Nat) (t : TypeId) (xs : List Value) : OwnFrom B (fun (_ : β) W => BlkT W b t xs) := fun s W W' row hs hg hr =>
  (hg.block b (lt_of_block hs) (fun e => by
    obtain ⟨_, o, ho, hc⟩ := hr b e.symm
    rw [show W.heap[b]? = _ from hs] at ho
    cases ho; cases hc)).trans hs
/-- the k-th but last -/
def bk (m k : Nat) (h : k < m) : Fin m := ⟨m - 1 - k, by omega⟩
def bkAll (m : Nat) : List (Fin m) := (List.finRange m).reverse
theorem bkAll_len (m : Nat) : (bkAll m).length = m := by simp [bkAll]
theorem bkAll_take {m k : Nat} (h : k < m) : (bkAll m).take (k + 1) = (bkAll m).take k ++ [bk m k h] := by
  rw [List.take_succ_eq_append_getElem (by rw [bkAll_len]; exact h)]
  congr 1
  simp only [bkAll, List.getElem_reverse, List.length_finRange, List.getElem_finRange, bk, Fin.cast_mk]
def encW (l : List Wr) (x : Fin l.length) : Array Value := #[.int .i64 (x.1 : Int), arrV (wcells l[x.1])]
set_option maxRecDepth 100000 in
set_option maxHeartbeats 1000000 in
theorem back1_in (n : Nat) (hn : 1 ≤ n) (n0 l Bs cp : Nat) (Ap : Option Addr) (pend : List Wr) (hp : ∀ x ∈ pend, x.2.length = 512) (hreach : pend.length ≤ 1000000000) (hBs0 : Bs < n0) (J Jx : List (Fin pend.length) → World → Prop)
    (hY : ∀ pre x W, J pre W → pre.length < pend.length → YieldAt Fence.wide (n - 1) Tryz.prog l (encW pend x) W fun e W' =>
      (e = .returned (.bool true) ∧ J (pre ++ [x]) W' ∧ Below n0 W W') ∨ (e = .returned (.bool false) ∧ Jx (pre ++ [x]) W'))
    (W : World) (hBs : W.cell? ⟨Bs, 0, none⟩ = some (.slice Ap pend.length cp)) (hAp : ∀ k (hk : k < pend.length), ∃ gp, Ap = some ⟨gp, 0, none⟩ ∧ gp < n0 ∧ W.rangeAt gp (k * 513) (wcells pend[k])) (h0 : J [] W) :
    CallsIn Fence.wide n Tryz.prog 136 #[.func (.yield l) #[] #[], .pointer (some ⟨Bs, 0, none⟩)] W fun e W' => (∃ v, e = .returned v) ∧
      ((∃ ys, ys = bkAll pend.length ∧ J ys W') ∨ (∃ pre, (∃ k, k ≤ pend.length ∧ pre = (bkAll pend.length).take k) ∧ Jx pre W')) := by
  refine callsIn_of_wp Tryz.func136 rfl trivial ?_ rfl
  simp only [Tryz.ntmps136, List.size_toArray, List.length_cons, List.length_nil, Nat.reduceAdd, Nat.reduceSub, Array.replicate_succ, Array.replicate_zero, List.push_toArray, List.append_toArray, List.nil_append, List.cons_append]
  gi_wp2
  gi_loopw [3] (fun i wr => ∃ k : Nat, k ≤ pend.length ∧ i = .int .i64 ((pend.length : Int) - 1 - (k : Int)) ∧ J ((bkAll pend.length).take k) wr ∧ Below n0 W wr)
    (fun i _ => (intOf i + 1).toNat)
  case atStart => exact ⟨0, Nat.zero_le _, by go_num, h0, Below.refl _ _⟩
  case round =>
    obtain ⟨k, hk, rfl, hJs, hB⟩ := hrel
    by_cases hlt : k < pend.length
    · have hle : pend.length - 1 - k < pend.length := by omega
      obtain ⟨gp, rfl, hgp, hr0⟩ := hAp (pend.length - 1 - k) hle
      have hcs : wr.cell? ⟨Bs, 0, none⟩ = some (.slice (some ⟨gp, 0, none⟩) pend.length cp) := (hB.cell (p := ⟨Bs, 0, none⟩) hBs0).trans hBs
      have hrg : wr.rangeAt gp ((pend.length - 1 - k) * 513) (wcells pend[pend.length - 1 - k]) := fun j v hv => (hB.cell (p := ⟨gp, _, none⟩) hgp).trans (hr0 j v hv)
      obtain ⟨fn, tmps, assign, body, hy, hR⟩ := hY ((bkAll pend.length).take k) (bk pend.length k hlt) wr hJs (by rw [List.length_take, bkAll_len]; omega)
      unfold encW bk arrV at hy
      obtain ⟨x, hx⟩ : ∃ x, x = pend[pend.length - 1 - k] := ⟨_, rfl⟩
      simp only [← hx] at hy hrg
      have hszw := wcells_szW (hp x (by rw [hx]; exact List.getElem_mem _))
      have huw := Tryz.underlying115
      obtain ⟨j, hj⟩ : ∃ j, j = pend.length - 1 - k := ⟨_, rfl⟩
      rw [← hj] at hy hrg hle
      have hjI : (pend.length : Int) - 1 - (k : Int) = (j : Int) := by omega
      rw [hjI]
      have Hj := Lib.hid hj
      have hjl : (j : Int) < (pend.length : Int) := by omega
      clear hx hr0 hj hjI hAp
      gi_wp2_with (refine wpListIn_load_mid rfl _ _ rfl gp (j * 513) rfl (wcells x) _ hrg huw rfl hszw ?_)
      refine hR.mono ?_
      rintro e W3 (⟨rfl, hJ3, hk3⟩ | ⟨rfl, hJx3⟩)
      · have H5 := Lib.hid (show (j : Int) - 1 = (pend.length : Int) - 1 - ((k + 1 : Nat) : Int) by have := Hj.out; omega)
        gi_wp2
        go_roundw
        case rel => exact ⟨k + 1, by omega, by rw [H5.out], by rw [bkAll_take hlt]; exact hJ3, hB.trans hk3⟩
        case measure => first | (simp [intOf]; done) | (simp [intOf]; have := Hj.out; omega)
      · gi_wp2
        refine bodyPost_ret (results_none rfl _ _ _) rfl ?_
        exact ⟨⟨_, rfl⟩, .inr ⟨_, ⟨k + 1, by omega, (bkAll_take hlt).symm⟩, hJx3⟩⟩
    · obtain rfl : k = pend.length := by omega
      have hneg : ¬ (0 : Int) ≤ (pend.length : Int) - 1 - (pend.length : Int) := by omega
      gi_wp2
      go_end0
      rw [List.take_of_length_le (by rw [bkAll_len]; exact Nat.le_refl _)] at hJs
      exact ⟨⟨_, rfl⟩, .inl (by first | exact hJs | exact ⟨_, rfl, hJs⟩)⟩
theorem back_stops (n : Nat) (hn : 1 ≤ n) (n0 Bs cp : Nat) (Ap : Option Addr) (pend : List Wr) (hp : ∀ x ∈ pend, x.2.length = 512) (hreach : pend.length ≤ 1000000000) (w : World) (hBs0 : Bs < n0) (hn0 : n0 ≤ w.heap.size) (hBs : w.cell? ⟨Bs, 0, none⟩ = some (.slice Ap pend.length cp))
    (hAp : ∀ k (hk : k < pend.length), ∃ gp, Ap = some ⟨gp, 0, none⟩ ∧ gp < n0 ∧ w.rangeAt gp (k * 513) (wcells pend[k])) :
    SeqStopsK Fence.wide n Tryz.prog 136 #[.pointer (some ⟨Bs, 0, none⟩)] (encW pend) (Below n0) (fun ys => ys = bkAll pend.length) (fun pre => ∃ k, k ≤ pend.length ∧ pre = (bkAll pend.length).take k) pend.length w := fun l J Jx W hW hJ hJx hY h0 =>
  back1_in n hn n0 l Bs cp Ap pend hp hreach hBs0 J Jx hY W ((hW.cell (p := ⟨Bs, 0, none⟩) (by show Bs < _; omega)).trans hBs)
    (fun k hk => by
      obtain ⟨gp, h1, h2, h3⟩ := hAp k hk
      exact ⟨gp, h1, h2, fun j v hv => (hW.cell (p := ⟨gp, _, none⟩) (by show gp < _; omega)).trans (h3 j v hv)⟩) h0
set_option maxRecDepth 100000 in
set_option maxHeartbeats 400000 in
theorem backward_any (A : Option Addr) (n c : Nat) (w : World) :
    Calls Tryz.prog 125 #[.slice A n c] w fun e w' => e = .returned (.func (.func 136) #[] #[.pointer (some ⟨w.heap.size, 0, none⟩)]) ∧
      w'.cell? ⟨w.heap.size, 0, none⟩ = some (.slice A n c) ∧ Below w.heap.size w w' ∧ w.heap.size < w'.heap.size := by
  go_enter Tryz.func125, Tryz.ntmps125
  go_wp2
  go_ret
  refine ⟨rfl, ?_, b1alloc _ _, ?_⟩
  all_goals simp
end Go.Proofs.YtchcmklelmlbgaaGreat.Disk

/- The walk of disk.Read. -/
namespace Go.Proofs.YtchcmklelmlbgaaGreat.Disk
open Go.RowKit Go.Shelf Go.Proofs.YtchcmklelmlbgaaGreat.Ch
attribute [local go_sem] Oper.semAt_some
set_option linter.unusedVariables false
set_option maxRecDepth 100000

/-- what is read: the newest pending write of the place, else what is kept -/
theorem kept_pend (all pend : List Wr) (p : Nat) (k : Nat) (hk : k < pend.length) (hp : pend[pend.length - 1 - k].1 = p) (hno : ∀ j, j < k → ∀ (h : pend.length - 1 - j < pend.length), pend[pend.length - 1 - j].1 ≠ p) : kept (all ++ pend) p = pend[pend.length - 1 - k].2 := by
  obtain ⟨i, hi⟩ : ∃ i, i = pend.length - 1 - k := ⟨_, rfl⟩
  have hil : i < pend.length := by omega
  have hsplit : all ++ pend = (all ++ pend.take i ++ [pend[i]]) ++ pend.drop (i + 1) := by
    rw [List.append_assoc all, ← List.take_succ_eq_append_getElem hil, List.append_assoc, List.take_append_drop]
  rw [hsplit, kept_append _ _ _ (fun w hw => by
    obtain ⟨j, hj, rfl⟩ := List.getElem_of_mem hw
    rw [List.length_drop] at hj
    rw [List.getElem_drop]
    have := hno (k - 1 - j) (by omega) (by omega)
    have he : pend.length - 1 - (k - 1 - j) = i + 1 + j := by omega
    simp only [he] at this
    exact this), kept_snoc]
  subst hi
  rw [if_pos hp]
theorem kept_none (all pend : List Wr) (p : Nat) (hno : ∀ j, j < pend.length → ∀ (h : pend.length - 1 - j < pend.length), pend[pend.length - 1 - j].1 ≠ p) : kept (all ++ pend) p = kept all p :=
  kept_append _ _ _ (fun w hw => by
    obtain ⟨j, hj, rfl⟩ := List.getElem_of_mem hw
    have := hno (pend.length - 1 - j) (by omega) (by omega)
    have he : pend.length - 1 - (pend.length - 1 - j) = j := by omega
    simp only [he] at this
    exact this)
/-- what Read tells -/
def Told8 (w w' : World) (r : List UInt8 × Int) (e : Ending) : Prop := ∃ v, e = .returned (.tuple #[v, .int .i64 r.2]) ∧ New8 w w' r.1 v ∧ Below w.heap.size w w'
/-- the walk stopped at the newest write of the place: its row lies in a block of its own, the results in their cells -/
def Hit (X : World) (B : Nat) (q : Nat) (pend : List Wr) (pre : List (Fin pend.length)) : Prop :=
  ∃ (pre0 : List (Fin pend.length)) (x : Fin pend.length) (bx : Nat), pre = pre0 ++ [x] ∧ (∀ y ∈ pre0, pend[y.1].1 ≠ q) ∧ pend[x.1].1 = q ∧ B ≤ bx ∧
    (BlkT X (B + 1) 51 [.slice (some ⟨bx, 1, none⟩) 512 512] ∧ BlkT X (B + 1 + 1) 29 [.int .i64 0] ∧ BlkT X bx 115 (wcells pend[x.1]))
theorem hit_from {B0 B q : Nat} {pend : List Wr} : OwnFrom B0 (fun pre W => Hit W B q pend pre) := fun pre W W' row hs hg hr => by
  obtain ⟨pre0, x, bx, h1, h2, h3, h4, h5, h6, h7⟩ := hs
  exact ⟨pre0, x, bx, h1, h2, h3, h4, blkT_from (β := Unit) _ _ _ () W W' row h5 hg hr, blkT_from (β := Unit) _ _ _ () W W' row h6 hg hr, blkT_from (β := Unit) _ _ _ () W W' row h7 hg hr⟩
theorem new8_wait {w X : World} {bx : Nat} {x : Wr} (hbx : w.heap.size ≤ bx) (h : BlkT X bx 115 (wcells x)) (hl : x.2.length = 512) : New8 w X x.2 (.slice (some ⟨bx, 1, none⟩) 512 512) := by
  refine ⟨_, 512, by rw [hl], by omega, by unfold maxLen; omega, fun _ => ⟨bx, 1, rfl, hbx, lt_of_block h, fun i hi => ?_⟩⟩
  have := blk_bytes (BlkT.blk h) i (x.2.map e8)[i] (List.getElem?_eq_getElem hi)
  exact this
theorem New8.move {w w1 w2 w3 : World} {l : List UInt8} {v : Value} (h : New8 w1 w2 l v) (hs : w.heap.size ≤ w1.heap.size) (hk : ∀ b, w1.heap.size ≤ b → b < w2.heap.size → w3.heap[b]? = w2.heap[b]?) (hz : w2.heap.size ≤ w3.heap.size) : New8 w w3 l v := by
  obtain ⟨A, c, h0, h1, h2, h3⟩ := h
  refine ⟨A, c, h0, h1, h2, fun hne => ?_⟩
  obtain ⟨b, off, h4, h5, h6, h7⟩ := h3 hne
  exact ⟨b, off, h4, by omega, by omega, fun i hi => (World.cell?_of_block (hk b h5 h6)).trans (h7 i hi)⟩
theorem hit_kept (all pend : List Wr) (q k : Nat) (hk : k ≤ pend.length) (pre0 : List (Fin pend.length)) (x : Fin pend.length) (hpk : pre0 ++ [x] = (bkAll pend.length).take k) (hno : ∀ y ∈ pre0, pend[y.1].1 ≠ q) (hxq : pend[x.1].1 = q) :
    kept (all ++ pend) q = pend[x.1].2 := by
  cases k with
  | zero => simp at hpk
  | succ k =>
    have hkl : k < pend.length := hk
    rw [bkAll_take hkl] at hpk
    obtain ⟨rfl, hx⟩ := List.append_inj' hpk rfl
    obtain rfl : x = bk pend.length k hkl := by simpa using hx
    refine kept_pend all pend q k (by omega) hxq (fun j hj h => ?_)
    refine hno (bk pend.length j (by omega)) ?_
    have h1 : bk pend.length j (by omega) ∈ (bkAll pend.length).take (j + 1) := by rw [bkAll_take (by omega)]; simp
    have h2 : (bkAll pend.length).take (j + 1) = ((bkAll pend.length).take k).take (j + 1) := by rw [List.take_take, Nat.min_eq_left (by omega)]
    rw [h2] at h1
    exact List.mem_of_mem_take h1
set_option maxHeartbeats 2000000 in
theorem read_any (g : Nat) (fp : List Nat) (s : St) (p : Int) (w : World) (h : DAt w g fp s) (hs : s.sz ≤ 100000000) :
    Calls Tryz.prog 111 #[.pointer (some ⟨g, 0, none⟩), .int .i64 p] w fun e w' => Told8 w w' (read s p) e := by
  have hdn := fun W (hW : Below w.heap.size w W) => down_any g fp s W (h.on hW)
  have has := fun W (hW : Below w.heap.size w W) => asked_any g fp s p W (h.on hW)
  have bw3 := b3alloc w (.cells #[.int .i64 p] 3) (.cells #[.slice none 0 0] 51) (.cells #[.int .i64 0] 29)
  cases hd : s.down with
  | true =>
    have hw : read s p = ([], 12) := by unfold read; rw [if_pos hd]
    rw [hw]
    rw [hd] at hdn
    have Hdn := Lib.hid hdn
    clear hw hd has hdn
    go_enter Tryz.func111, Tryz.ntmps111
    go_wp2_with fail
    go_step3
    go_wp2_with fail
    refine (Hdn.out _ bw3).mono ?_
    rintro e w1 ⟨rfl, rfl⟩
    go_wp2
    rw [Exit.noGoto_ret]
    refine bodyPost_ret (v := .tuple #[.slice none 0 0, .int .i64 12]) (by simp [results, Tryz.results111, go_sem]) rfl ?_
    exact ⟨_, rfl, New8.nil _ _, b3alloc _ _ _ _⟩
  | false =>
    rw [hd] at hdn
    have Hdn := Lib.hid hdn
    by_cases hp : p < 0 ∨ (s.size : Int) ≤ p
    · have hw : read s p = ([], 2) := by unfold read; rw [if_neg (by simp [hd]), if_pos hp]
      have hf : askF s p = 2 := if_pos hp
      rw [hw]
      rw [hf] at has
      have Has := Lib.hid has
      clear hw hd has hdn hp hf
      go_enter Tryz.func111, Tryz.ntmps111
      go_wp2_with fail
      go_step3
      go_wp2_with fail
      refine (Hdn.out _ bw3).mono ?_
      rintro e w1 ⟨rfl, rfl⟩
      go_wp2_with fail
      refine (Has.out _ bw3).mono ?_
      rintro e w1 ⟨rfl, rfl⟩
      go_wp2
      rw [Exit.noGoto_ret]
      refine bodyPost_ret (v := .tuple #[.slice none 0 0, .int .i64 2]) (by simp [results, Tryz.results111, go_sem]) rfl ?_
      exact ⟨_, rfl, New8.nil _ _, b3alloc _ _ _ _⟩
    · have hf : askF s p = 0 := if_neg hp
      have hw : read s p = (kept (s.all ++ s.pend) p.toNat, 0) := by unfold read; rw [if_neg (by simp [hd]), if_neg hp]
      rw [hw]
      rw [hf] at has
      have Has := Lib.hid has
      obtain ⟨q, rfl⟩ : ∃ q : Nat, p = (q : Int) := ⟨p.toNat, by omega⟩
      rw [Int.toNat_natCast]
      have hka := kept_any g fp s (q : Int)
      rw [show keptAt s (q : Int) = kept s.all q from by rw [keptAt, if_neg hp, Int.toNat_natCast]] at hka
      have Hka := Lib.hid hka
      obtain ⟨vk, vp, va, acs, hL⟩ := h
      obtain ⟨Ap, cp, rfl⟩ := own_form hL.pend
      have hL3 := hL.on bw3
      obtain ⟨_, d1, _, _, _, _, _⟩ := six hL3.blk
      have hpl : s.pend.length ≤ 100000000 := by unfold St.sz at hs; omega
      clear hw hd has hdn hp hf hka
      refine (callsIn_wide (n := 8)).1 ?_
      refine callsIn_of_wp_marks Tryz.func111 rfl trivial ?_ rfl
      simp only [Tryz.ntmps111, List.size_toArray, List.length_cons, List.length_nil, Nat.reduceAdd, Nat.reduceSub, Array.replicate_succ, Array.replicate_zero, List.push_toArray, List.append_toArray, List.nil_append, List.cons_append]
      gi_wp2_with fail
      refine wpIn_wide.2 (wp_scope_straight ((wpIn_wide (n := 8)).1 ?_))
      gi_wp2_with fail
      have e3 : (((w.alloc (.cells #[.int .i64 (q : Int)] 3)).alloc (.cells #[.slice none 0 0] 51)).alloc (.cells #[.int .i64 0] 29)).heap[w.heap.size]? = some (.cells #[.int .i64 (q : Int)] 3 (0, 0)) :=
        (Below.heap_alloc _ _ _ (by simp; omega)).trans ((Below.heap_alloc _ _ _ (by simp)).trans (heap_alloc_new w _))
      have e4 : (((w.alloc (.cells #[.int .i64 (q : Int)] 3)).alloc (.cells #[.slice none 0 0] 51)).alloc (.cells #[.int .i64 0] 29)).heap[w.heap.size + 1]? = some (.cells #[.slice none 0 0] 51 (0, 0)) :=
        (Below.heap_alloc _ _ _ (by simp)).trans (by have := heap_alloc_new (w.alloc (.cells #[.int .i64 (q : Int)] 3)) (.cells #[.slice none 0 0] 51); simpa using this)
      have e5 : (((w.alloc (.cells #[.int .i64 (q : Int)] 3)).alloc (.cells #[.slice none 0 0] 51)).alloc (.cells #[.int .i64 0] 29)).heap[w.heap.size + 1 + 1]? = some (.cells #[.int .i64 0] 29 (0, 0)) := by
        have := heap_alloc_new ((w.alloc (.cells #[.int .i64 (q : Int)] 3)).alloc (.cells #[.slice none 0 0] 51)) (.cells #[.int .i64 0] 29)
        simpa using this
      have hs3 : (((w.alloc (.cells #[.int .i64 (q : Int)] 3)).alloc (.cells #[.slice none 0 0] 51)).alloc (.cells #[.int .i64 0] 29)).heap.size = w.heap.size + 3 := by simp
      obtain ⟨w3, hw3⟩ : ∃ w3, w3 = ((w.alloc (.cells #[.int .i64 (q : Int)] 3)).alloc (.cells #[.slice none 0 0] 51)).alloc (.cells #[.int .i64 0] 29) := ⟨_, rfl⟩
      rw [← hw3] at bw3 hL3 d1 e3 e4 e5 hs3 ⊢
      replace hs3 := Nat.le_of_eq hs3.symm
      clear hw3
      have c3 := cell_of_one e3
      refine ⟨trivial, (callsIn_wide.2 (Hdn.out _ bw3)).mono ?_⟩
      rintro e w1 ⟨rfl, rfl⟩
      gi_wp2_with fail
      refine ⟨trivial, (callsIn_wide.2 (Has.out _ bw3)).mono ?_⟩
      rintro e w1 ⟨rfl, rfl⟩
      gi_wp2_with fail
      refine wpIn_label ?_
      gi_wp2_with fail
      refine ⟨trivial, (callsIn_wide.2 (backward_any Ap s.pend.length cp _)).mono ?_⟩
      rintro e w6 ⟨rfl, cs6, b6, hs6⟩
      gi_wp2_with fail
      have hp512 : ∀ x ∈ s.pend, x.2.length = 512 := fun x hx => (hL3.ok.pend x hx).2
      have hAp : ∀ k (hk : k < s.pend.length), ∃ gp, Ap = some ⟨gp, 0, none⟩ ∧ gp < w6.heap.size ∧ w6.rangeAt gp (k * 513) (wcells s.pend[k]) := fun k hk => by
        obtain ⟨gp, cp', e0, _⟩ := own_some hL3.pend (by omega)
        obtain ⟨rfl, rfl⟩ : Ap = some ⟨gp, 0, none⟩ ∧ cp = cp' := by injection e0 with e1 e2 e3; exact ⟨e1, e3⟩
        obtain ⟨cs, hcs⟩ := own_blk hL3.pend
        exact ⟨gp, rfl, Nat.lt_of_lt_of_le (lt_of_block hcs) b6.size, fun j v hv => (b6.cell (p := ⟨gp, _, none⟩) (lt_of_block hcs)).trans (pend_range hL3 k hk j v hv)⟩
      have hlt3 : w3.heap.size ≤ w6.heap.size := b6.size
      have f3 : BlkT w6 w.heap.size 3 [.int .i64 (q : Int)] := (b6.block _ (by omega)).trans e3
      have f4 : BlkT w6 (w.heap.size + 1) 51 [.slice none 0 0] := (b6.block _ (by omega)).trans e4
      have f5 : BlkT w6 (w.heap.size + 1 + 1) 29 [.int .i64 0] := (b6.block _ (by omega)).trans e5
      have hL6 := hL3.on b6
      have bw6 : Below w.heap.size w w6 := bt bw3 b6
      have HAp := Lib.hid hAp
      have h512 := Lib.hid hp512
      clear hAp hp512 d1 c3 e3 e4 e5 b6 hL3 bw3
      refine wpIn_rangeFunc_ownH (n := 8) rfl (by omega) (gf := 136) (lb := #[.pointer (some ⟨w3.heap.size, 0, none⟩)]) rfl trivial (enters_of Tryz.func136 (by kernel_rfl) rfl)
        (back_stops (8 - 1) (by omega) w6.heap.size w3.heap.size cp Ap s.pend h512.out (by omega) w6 hs6 (Nat.le_refl _) cs6 HAp.out) belowK_t (belowK_b (Nat.le_refl _)) (Below.refl _ _) (fun _ => rfl)
        (fun pre X => Below w6.heap.size w6 X ∧ Hid (∀ y ∈ pre, s.pend[y.1].1 ≠ q))
        (fun c pre X => c = .ret ∧ Hit X w.heap.size q s.pend pre ∧ Below w.heap.size w X)
        (OwnFrom.and (ownFrom_below (Nat.le_refl _) (Nat.le_refl _)) (fun _ _ _ _ hs _ _ => hs))
        (fun c => OwnFrom.and (fun _ _ _ _ hs _ _ => hs) (OwnFrom.and hit_from (ownFrom_below (Nat.le_refl _) bw6.size)))
        ⟨Below.refl _ _, Lib.hid (fun y hy => by cases hy)⟩
        (fun x a' W => ∃ Bx, w6.heap.size ≤ Bx ∧ BlkT W Bx 115 (wcells s.pend[x.1]) ∧ a' = { tmps := #[.pointer (some ⟨g, 0, none⟩), .int .i64 (q : Int), undef, .pointer (some ⟨w.heap.size, 0, none⟩), .pointer (some ⟨w.heap.size + 1, 0, none⟩), .pointer (some ⟨w.heap.size + 1 + 1, 0, none⟩), .int .i64 0, undef, .pointer (some ⟨Bx, 0, none⟩),
          .pointer (some ⟨g, 0, none⟩), .bool false, .pointer (some ⟨g, 0, none⟩), .int .i64 (q : Int), .int .i64 0, .int .i64 0, .bool false, undef, .pointer (some ⟨g, 0, none⟩), .pointer (some ⟨g, 0, none⟩), .pointer (some ⟨g, 1, none⟩), .slice Ap s.pend.length cp, .func (.func 136) #[] #[.pointer (some ⟨w3.heap.size, 0, none⟩)],
          .int .i64 (x.1 : Int), .agg (wcells s.pend[x.1]).toArray, undef, undef, undef, undef, undef, undef, undef, undef, undef], defers := [] })
        (fun x a' _ X Y row hs hg hr => by obtain ⟨Bx, h1, h2, h3⟩ := hs; exact ⟨Bx, h1, blkT_from (β := Unit) Bx _ _ () X Y row h2 hg hr, h3⟩)
        ?assign ?body ?done ?stop
      case assign =>
        rintro l pre x X K ⟨bX, hno⟩ hK
        have hx2 := h512.out _ (List.getElem_mem x.2)
        obtain ⟨y, hy⟩ : ∃ y, y = s.pend[x.1] := ⟨_, rfl⟩
        rw [← hy] at hx2 hK
        unfold encW arrV
        rw [← hy]
        have hyl := wcells_len hx2
        have hszw := wcells_szW hx2
        have hzl : (wcells (0, zero512)).length = (wcells y).length := by rw [hyl, wcells_len (show ((0, zero512) : Wr).2.length = 512 from by simp [zero512])]
        have h1y : ∀ v ∈ wcells y, v.oneCell' = true := wcells_one _
        clear hy
        simp [List.zip_toArray, List.setIfInBounds_toArray]
        gi_wp2_with (first
          | (refine wpListIn_allocT rfl _ rfl (wcells (0, zero512)) zeroW ?_; intro X1 hb1 bX1)
          | (refine wpListIn_storeT rfl _ _ _ rfl rfl (ys := wcells y) rfl hb1 hzl h1y hszw ?_; intro X2 hb2 hg2))
        have b12 : Below X.heap.size X X2 := below_row bX1 hg2 (Nat.le_refl _) bX1.size
        exact hK _ _ ((keeps_below b12).from _) (b12.mono bX.size) ⟨bX.trans (b12.mono bX.size), hno⟩ ⟨X.heap.size, bX.size, hb2, rfl⟩
      case body =>
        rintro l pre x a' X hlw hlr ⟨bX, hno⟩ ⟨Bx, hBx, hb, rfl⟩ hpm
        obtain ⟨y, hy⟩ : ∃ y, y = s.pend[x.1] := ⟨_, rfl⟩
        have hx2 := h512.out _ (List.getElem_mem x.2)
        rw [← hy] at hb hx2
        have hlB : Bx < X.heap.size := lt_of_block hb
        have hcx : X.cell? ⟨Bx, 0, none⟩ = some (.int .i64 (y.1 : Int)) := by
          have := hb.blk.cell (k := 0) (by simp [wcells])
          simpa [wcells] using this
        have hcq : X.cell? ⟨w.heap.size, 0, none⟩ = some (.int .i64 (q : Int)) := cell_of_one ((bX.block _ (by omega)).trans f3)
        have g4 : Boxed X (w.heap.size + 1) 51 (.slice none 0 0) := (bX.block _ (by omega)).trans f4
        have g5 : Boxed X (w.heap.size + 1 + 1) 29 (.int .i64 0) := (bX.block _ (by omega)).trans f5
        have bwX : Below w.heap.size w X := bw6.trans (bX.mono bw6.size)
        have Hy := Lib.hid hy
        simp only [← hy]
        clear hy f3 f4 f5 HAp hL6 cs6
        by_cases hq : y.1 = q
        · have hnn : ((y.1 : Int) != (q : Int)) = false := by simp [hq]
          have hc4 := g4.cell
          have hv4 := g4.frozen
          have g5' := g5.other (B' := w.heap.size + 1) (by omega) (.slice (some ⟨Bx, 1, none⟩) 512 512)
          have hc5 := g5'.cell
          have hv5 := g5'.frozen
          have hb' : BlkT (X.setCell ⟨w.heap.size + 1, 0, none⟩ (.slice (some ⟨Bx, 1, none⟩) 512 512)) Bx 115 (wcells y) := ((grownBy_setCell' X (w.heap.size + 1) _).block Bx hlB (by simp; omega)).trans hb
          have hb'' : BlkT ((X.setCell ⟨w.heap.size + 1, 0, none⟩ (.slice (some ⟨Bx, 1, none⟩) 512 512)).setCell ⟨w.heap.size + 1 + 1, 0, none⟩ (.int .i64 0)) Bx 115 (wcells y) := ((grownBy_setCell' _ (w.heap.size + 1 + 1) _).block Bx (lt_of_block hb') (by simp; omega)).trans hb'
          have h4' := (g4.set (.slice (some ⟨Bx, 1, none⟩) 512 512)).other (B' := w.heap.size + 1 + 1) (by omega) (.int .i64 0)
          have h5' := g5'.set (.int .i64 0)
          have hk : KeepsOthers X ((X.setCell ⟨w.heap.size + 1, 0, none⟩ (.slice (some ⟨Bx, 1, none⟩) 512 512)).setCell ⟨w.heap.size + 1 + 1, 0, none⟩ (.int .i64 0)) :=
            (keeps_row (grownBy_setCell' X (w.heap.size + 1) _) (BlkT.blk g4)).trans (keeps_row (grownBy_setCell' _ (w.heap.size + 1 + 1) _) (BlkT.blk g5'))
          have hbw := (bwX.setCell (p := ⟨w.heap.size + 1, 0, none⟩) (by show w.heap.size ≤ w.heap.size + 1; omega) (.slice (some ⟨Bx, 1, none⟩) 512 512)).setCell (p := ⟨w.heap.size + 1 + 1, 0, none⟩) (by show w.heap.size ≤ w.heap.size + 1 + 1; omega) (.int .i64 0)
          gi_wp2_with fail
          refine ⟨hk.from _, rfl, ⟨pre, x, Bx, rfl, hno.out, by rw [← Hy.out]; exact hq, by omega, h4', h5', by rw [← Hy.out]; exact hb''⟩, hbw⟩
        · have hnn : ((y.1 : Int) != (q : Int)) = true := by simp; omega
          gi_wp2_with fail
          refine ⟨(keeps_below (Below.refl _ _)).from _, Below.refl _ _, bX, Lib.hid (fun z hz => ?_)⟩
          rcases List.mem_append.1 hz with hz | hz
          · exact hno.out z hz
          · obtain rfl := List.mem_singleton.1 hz
            rw [← Hy.out]; exact hq
      case done =>
        rintro D ys X hD rfl ⟨bX, hno⟩ hKD
        have hDX : D < X.heap.size := lt_of_block hKD
        have hno2 : ∀ j, j < s.pend.length → ∀ (h : s.pend.length - 1 - j < s.pend.length), s.pend[s.pend.length - 1 - j].1 ≠ q := fun j hj h => hno.out ⟨s.pend.length - 1 - j, h⟩ (by simp [bkAll])
        have Hkn := Lib.hid (kept_none s.all s.pend q hno2)
        have g4 : Boxed X (w.heap.size + 1) 51 (.slice none 0 0) := (bX.block _ (by omega)).trans f4
        have g5 : Boxed X (w.heap.size + 1 + 1) 29 (.int .i64 0) := (bX.block _ (by omega)).trans f5
        have hcq : X.cell? ⟨w.heap.size, 0, none⟩ = some (.int .i64 (q : Int)) := cell_of_one ((bX.block _ (by omega)).trans f3)
        have bwX : Below w.heap.size w X := bw6.trans (bX.mono bw6.size)
        have Dx : DAt X g fp s := ⟨_, _, _, _, hL6.on bX⟩
        have hwX : w6.heap.size ≤ X.heap.size := bX.size
        clear hno2 f3 f4 f5 HAp hL6 cs6 hno bX
        gi_wp2_with fail
        refine ⟨trivial, (callsIn_wide.2 (Hka.out _ Dx)).mono ?_⟩
        rintro e w8 ⟨v8, rfl, hn8, b8⟩
        have hn9 := hn8
        obtain ⟨A8, c8, rfl, _⟩ := hn9
        have h84 : Boxed w8 (w.heap.size + 1) 51 (.slice none 0 0) := (b8.block _ (by omega)).trans g4
        have h85 : Boxed w8 (w.heap.size + 1 + 1) 29 (.int .i64 0) := (b8.block _ (by omega)).trans g5
        have h8D : w8.heap[D]? = some (.deferred (some [])) := (b8.block _ hDX).trans hKD
        have bw8 : Below w.heap.size w w8 := bwX.trans (b8.mono bwX.size)
        have hsz8 : X.heap.size ≤ w8.heap.size := b8.size
        clear g4 g5 hcq Dx hKD b8 bwX
        have hc4 := h84.cell
        have hv4 := h84.frozen
        have g5' := h85.other (B' := w.heap.size + 1) (by omega) (.slice A8 (kept s.all q).length c8)
        have hc5 := g5'.cell
        have hv5 := g5'.frozen
        gi_wp2_with fail
        have s1 := grownBy_setCell' w8 (w.heap.size + 1) (.slice A8 (kept s.all q).length c8)
        obtain ⟨wa, hwa⟩ : ∃ wa, wa = w8.setCell ⟨w.heap.size + 1, 0, none⟩ (.slice A8 (kept s.all q).length c8) := ⟨_, rfl⟩
        have h94 : Boxed wa (w.heap.size + 1) 51 (.slice A8 (kept s.all q).length c8) := by rw [hwa]; exact h84.set _
        have hba : Below w.heap.size w wa := by rw [hwa]; exact bw8.setCell (p := ⟨w.heap.size + 1, 0, none⟩) (by show w.heap.size ≤ w.heap.size + 1; omega) _
        have hka : ∀ b, b ≠ w.heap.size + 1 → b < w8.heap.size → wa.heap[b]? = w8.heap[b]? := fun b hb hl => by rw [hwa]; exact s1.block b hl (by simp; omega)
        have hza : wa.heap.size = w8.heap.size := by rw [hwa]; simp
        rw [← hwa] at g5' ⊢
        clear hwa s1 hc4 hv4 hc5 hv5 h84 h85
        have s2 := grownBy_setCell' wa (w.heap.size + 1 + 1) (.int .i64 0)
        obtain ⟨wb, hwb⟩ : ∃ wb, wb = wa.setCell ⟨w.heap.size + 1 + 1, 0, none⟩ (.int .i64 0) := ⟨_, rfl⟩
        have h95 : Boxed wb (w.heap.size + 1 + 1) 29 (.int .i64 0) := by rw [hwb]; exact g5'.set _
        have h96 : Boxed wb (w.heap.size + 1) 51 (.slice A8 (kept s.all q).length c8) := by rw [hwb]; exact h94.other (by omega) _
        have hbb : Below w.heap.size w wb := by rw [hwb]; exact hba.setCell (p := ⟨w.heap.size + 1 + 1, 0, none⟩) (by show w.heap.size ≤ w.heap.size + 1 + 1; omega) _
        have hkb : ∀ b, b ≠ w.heap.size + 1 → b ≠ w.heap.size + 1 + 1 → b < w8.heap.size → wb.heap[b]? = w8.heap[b]? := fun b hb hb2 hl => by rw [hwb]; exact (s2.block b (by omega) (by simp; omega)).trans (hka b hb hl)
        have hzb : wb.heap.size = w8.heap.size := by rw [hwb]; simp [hza]
        rw [← hwb]
        clear hwb s2 g5' h94 hba hka hza
        have hKb : wb.heap[D]? = some (.deferred (some [])) := (hkb D (by omega) (by omega) (by omega)).trans h8D
        have hc4 : ((wb.putObj D (.deferred none))).cell? ⟨w.heap.size + 1, 0, none⟩ = some (.slice A8 (kept s.all q).length c8) :=
          (World.cell?_of_block (World.putObj_heap_other (by dsimp only; omega))).trans h96.cell
        have hc5 : ((wb.putObj D (.deferred none))).cell? ⟨w.heap.size + 1 + 1, 0, none⟩ = some (.int .i64 0) :=
          (World.cell?_of_block (World.putObj_heap_other (by dsimp only; omega))).trans h95.cell
        rw [Exit.noGoto_ret]
        refine ⟨by simp, .inl ⟨_, _, rfl, run_takeDeferred hKb, ?_⟩⟩
        refine ⟨.tuple #[.slice A8 (kept s.all q).length c8, .int .i64 0], (by simp [results, Tryz.results111, go_sem, hc4, hc5]), ?_⟩
        refine ⟨_, rfl, ?_, hbb.trans (belowK_b (w := w) (Nat.le_refl _) _ D _ _ (by omega) hKb rfl rfl)⟩
        rw [Hkn.out]
        exact hn8.move (by omega) (fun b h1 h2 => (World.putObj_heap_other (by omega)).trans (hkb b (by omega) (by omega) h2)) (by simp; omega)
      case stop =>
        rintro D c pre X hD hpre ⟨rfl, hit, hB⟩ hKD
        obtain ⟨k, hk, hpk⟩ := hpre
        obtain ⟨pre0, x, bx, rfl, hno, hxq, hbx, h4, h5, hb⟩ := hit
        have Hkp := Lib.hid (hit_kept s.all s.pend q k hk pre0 x hpk hno hxq)
        have hc4 : ((X.putObj D (.deferred none))).cell? ⟨w.heap.size + 1, 0, none⟩ = some (.slice (some ⟨bx, 1, none⟩) 512 512) :=
          (World.cell?_of_block (World.putObj_heap_other (by dsimp only; omega))).trans (cell_of_one h4)
        have hc5 : ((X.putObj D (.deferred none))).cell? ⟨w.heap.size + 1 + 1, 0, none⟩ = some (.int .i64 0) :=
          (World.cell?_of_block (World.putObj_heap_other (by dsimp only; omega))).trans (cell_of_one h5)
        have hne : bx ≠ D := fun e => by
          rw [e] at hb
          rw [show X.heap[D]? = _ from hb] at hKD
          cases hKD
        have hb2 : BlkT (X.putObj D (.deferred none)) bx 115 (wcells s.pend[x.1]) := (World.putObj_heap_other hne).trans hb
        have hx2 := h512.out _ (List.getElem_mem x.2)
        clear hpk hno hb
        gi_wp2_with fail
        rw [Exit.noGoto_ret]
        refine ⟨by simp, .inl ⟨_, _, rfl, run_takeDeferred hKD, ?_⟩⟩
        refine ⟨.tuple #[.slice (some ⟨bx, 1, none⟩) 512 512, .int .i64 0], (by simp [results, Tryz.results111, go_sem, hc4, hc5]), ?_⟩
        refine ⟨_, rfl, ?_, hB.trans (belowK_b (w := w) (Nat.le_refl _) _ D _ _ (by omega) hKD rfl rfl)⟩
        rw [Hkp.out]
        exact new8_wait hbx hb2 hx2
end Go.Proofs.YtchcmklelmlbgaaGreat.Disk

/- Making slices of numbers with room behind them. -/
namespace Go.Proofs.YtchcmklelmlbgaaGreat
open Go.RowKit
set_option linter.unusedVariables false
section
variable {P : Program}
/-- make of a slice of numbers, with room behind it -/
theorem wpList_makeN {w : World} {ops : Array Oper} {rest : List Oper} {o : Oper} {a : Act} {Q : Exit → Act → World → Prop} (hgd : o.guard = none) (t : TypeId) (x y : Operand) (ho : o.op = .makeSlice t x y)
    {e : TypeId} {i : TypeInfo} {k kl kc : IntKind} (ht : P.underlying t = some (.slice e)) (hi : P.info? e = some i) (hz : i.zero = some (.int k 0)) (hs : i.size = 1) (l c : Nat) {lz cz : Int} (hl : a.eval x = .int kl lz) (hlz : lz = (l : Int)) (hc : a.eval y = .int kc cz) (hcz : cz = (c : Int))
    (hlc : l ≤ c) (hb : i.bytes * c ≤ 281474976710656) (hm : c ≤ maxLen)
    (h : ∀ w1, w1.ownsRow w.heap.size e 1 (.slice (some ⟨w.heap.size, 0, none⟩) l c) l (List.replicate l (.int k 0)) → Below w.heap.size w w1 → w.heap.size < w1.heap.size →
      wpList P ops Q rest (a.put o.dst (.slice (some ⟨w.heap.size, 0, none⟩) l c)) w1) : wpList P ops Q (o :: rest) a w := by
  subst hlz hcz
  have hb' : (i.bytes : Int) * (c : Int) ≤ 281474976710656 := by
    have h : ((i.bytes * c : Nat) : Int) ≤ 281474976710656 := by omega
    rwa [Int.natCast_mul] at h
  have hm' : (c : Int) ≤ 9223372036854775807 := by
    have h := hm
    simp [maxLen] at h
    omega
  have hr := run_make (P := P) w t e i _ ht hi hz kl kc l c (by omega) (by omega) hb' hm'
  simp only [Int.toNat_natCast] at hr
  refine wpList_run (w' := w.alloc (.cells (madeCells (Value.int k 0).cells (c * i.size)) e)) hgd (.slice (some ⟨w.heap.size, 0, none⟩) l c) ?_ (h _ ⟨by simp, .inr ⟨w.heap.size, c, _, rfl, Nat.le_refl _, heap_alloc_new w _, hlc, hm, ?_, ?_⟩⟩ (b1alloc _ _) (by simp))
  · unfold execOp
    simp only [ho, hl, hc]
    simp [hr]
  · rw [hs, size_madeCells]
  · rw [hs, made_int, List.take_replicate]
    congr 1
    omega
/-! whole arrays in a region that draws its order -/
end
end Go.Proofs.YtchcmklelmlbgaaGreat

/- Numbers as bytes, most significant first: plain functions; nothing of the program. -/
namespace Go.Proofs.YtchcmklelmlbgaaGreat.Num

def putL (n size : Nat) : List UInt8 := (List.range size).map fun j => UInt8.ofNat (n / 2 ^ (8 * (size - 1 - j)))
theorem putL_len (n size : Nat) : (putL n size).length = size := by simp [putL]
theorem putL_get (n size j : Nat) (h : j < (putL n size).length) : (putL n size)[j] = UInt8.ofNat (n / 2 ^ (8 * (size - 1 - j))) := by simp [putL]
theorem putL_take (n size j : Nat) (h : j < size) : (putL n size).take (j + 1) = (putL n size).take j ++ [UInt8.ofNat (n / 2 ^ (8 * (size - 1 - j)))] := by
  rw [List.take_succ_eq_append_getElem (by rw [putL_len]; exact h), putL_get]
theorem cell_of (n e : Nat) : ((UInt8.ofNat (n / 2 ^ e)).toNat : Int) = (n : Int) / 2 ^ e % 256 := by
  rw [UInt8.toNat_ofNat', Int.natCast_emod, Int.natCast_ediv, Int.natCast_pow]; rfl
/-- the number that bytes are -/
def getN (l : List UInt8) : Nat := l.foldl (fun n c => n * 256 + c.toNat) 0
theorem getN_snoc (l : List UInt8) (c : UInt8) : getN (l ++ [c]) = getN l * 256 + c.toNat := by simp [getN]
theorem getN_take {l : List UInt8} {k : Nat} (h : k < l.length) : getN (l.take (k + 1)) = getN (l.take k) * 256 + l[k].toNat := by
  rw [List.take_succ_eq_append_getElem h, getN_snoc]
theorem getN_lt (l : List UInt8) : ∀ k, k ≤ l.length → getN (l.take k) < 256 ^ k
  | 0, _ => by simp [getN]
  | k + 1, h => by
    rw [getN_take (by omega), Nat.pow_succ]
    have := getN_lt l k (by omega)
    have := l[k].toNat_lt
    omega
theorem getN_7 (l : List UInt8) (k : Nat) (hk : k ≤ l.length) (h : k ≤ 7) : getN (l.take k) < 72057594037927936 := 
  Nat.lt_of_lt_of_le (getN_lt l k hk) (Nat.pow_le_pow_right (by omega) h)
theorem putL_succ (n s : Nat) : putL n (s + 1) = putL (n / 256) s ++ [UInt8.ofNat n] := by
  unfold putL
  rw [List.range_succ, List.map_append]
  congr 1
  · apply List.map_congr_left
    intro j hj
    have hj' := List.mem_range.1 hj
    rw [Nat.div_div_eq_div_mul, show (256 : Nat) = 2 ^ 8 from rfl, ← Nat.pow_add]
    congr 3
    omega
  · simp
theorem getN_putL (n s : Nat) : getN (putL n s) = n % 256 ^ s := by
  induction s generalizing n with
  | zero => simp [putL, getN, Nat.mod_one]
  | succ s ih =>
    have h := Nat.mod_mul (x := n) (a := 256) (b := 256 ^ s)
    rw [putL_succ, getN_snoc, ih, UInt8.toNat_ofNat', show 256 ^ (s + 1) = 256 * 256 ^ s by rw [Nat.pow_succ, Nat.mul_comm], h, show (2 : Nat) ^ 8 = 256 from rfl]
    omega
end Go.Proofs.YtchcmklelmlbgaaGreat.Num

/- SHA-256 as a plain function of lists; nothing of the program. -/
namespace Go.Proofs.YtchcmklelmlbgaaGreat.Sha

def kTab : List UInt32 := [
  0x428a2f98, 0x71374491, 0xb5c0fbcf, 0xe9b5dba5, 0x3956c25b, 0x59f111f1, 0x923f82a4, 0xab1c5ed5,
  0xd807aa98, 0x12835b01, 0x243185be, 0x550c7dc3, 0x72be5d74, 0x80deb1fe, 0x9bdc06a7, 0xc19bf174,
  0xe49b69c1, 0xefbe4786, 0x0fc19dc6, 0x240ca1cc, 0x2de92c6f, 0x4a7484aa, 0x5cb0a9dc, 0x76f988da,
  0x983e5152, 0xa831c66d, 0xb00327c8, 0xbf597fc7, 0xc6e00bf3, 0xd5a79147, 0x06ca6351, 0x14292967,
  0x27b70a85, 0x2e1b2138, 0x4d2c6dfc, 0x53380d13, 0x650a7354, 0x766a0abb, 0x81c2c92e, 0x92722c85,
  0xa2bfe8a1, 0xa81a664b, 0xc24b8b70, 0xc76c51a3, 0xd192e819, 0xd6990624, 0xf40e3585, 0x106aa070,
  0x19a4c116, 0x1e376c08, 0x2748774c, 0x34b0bcb5, 0x391c0cb3, 0x4ed8aa4a, 0x5b9cca4f, 0x682e6ff3,
  0x748f82ee, 0x78a5636f, 0x84c87814, 0x8cc70208, 0x90befffa, 0xa4506ceb, 0xbef9a3f7, 0xc67178f2]
def kAt (t : Nat) : UInt32 := kTab.getD t 0
/-- turned to the right by n, 0 < n < 32 -/
def rot (x : UInt32) (n : Nat) : UInt32 := (x <<< (UInt32.ofNat (32 - n))) ||| (x >>> (UInt32.ofNat n))
def low (x : UInt32) : UInt32 := rot x 7 ^^^ rot x 18 ^^^ (x >>> 3)
def high (x : UInt32) : UInt32 := rot x 17 ^^^ rot x 19 ^^^ (x >>> 10)
def be32 (b : List UInt8) (t : Nat) : UInt32 := UInt32.ofNat (Num.getN ((b.drop (4 * t)).take 4))
def wnext (b : List UInt8) (l : List UInt32) : UInt32 :=
  if l.length < 16 then be32 b l.length else
    high (l.getD (l.length - 2) 0) + l.getD (l.length - 7) 0 + low (l.getD (l.length - 15) 0) + l.getD (l.length - 16) 0
def wl (b : List UInt8) : Nat → List UInt32
  | 0 => []
  | k + 1 => wl b k ++ [wnext b (wl b k)]
structure H8 where
  a : UInt32
  b : UInt32
  c : UInt32
  d : UInt32
  e : UInt32
  f : UInt32
  g : UInt32
  h : UInt32
def H8.list (s : H8) : List UInt32 := [s.a, s.b, s.c, s.d, s.e, s.f, s.g, s.h]
def xOf (s : H8) (k w : UInt32) : UInt32 := s.h + (rot s.e 6 ^^^ rot s.e 11 ^^^ rot s.e 25) + (s.g ^^^ (s.e &&& (s.f ^^^ s.g))) + k + w
def yOf (s : H8) : UInt32 := (rot s.a 2 ^^^ rot s.a 13 ^^^ rot s.a 22) + (s.a &&& s.b ||| s.c &&& (s.a ||| s.b))
def round (s : H8) (k w : UInt32) : H8 := ⟨xOf s k w + yOf s, s.a, s.b, s.c, s.d + xOf s k w, s.e, s.f, s.g⟩
def rounds (w : List UInt32) (s : H8) : Nat → H8
  | 0 => s
  | t + 1 => round (rounds w s t) (kAt t) (w.getD t 0)
def H8.add (s r : H8) : H8 := ⟨s.a + r.a, s.b + r.b, s.c + r.c, s.d + r.d, s.e + r.e, s.f + r.f, s.g + r.g, s.h + r.h⟩
def block (s : H8) (b : List UInt8) : H8 := if b.length = 64 then (rounds (wl b 64) s 64).add s else s
/-! the reference's forms -/
def first : H8 := ⟨0x6a09e667, 0xbb67ae85, 0x3c6ef372, 0xa54ff53a, 0x510e527f, 0x9b05688c, 0x1f83d9ab, 0x5be0cd19⟩
/-- the padding of a row of n bytes -/
def padB (n : Nat) : List UInt8 := 128 :: List.replicate ((119 - n % 64) % 64) 0 ++ Num.putL (8 * n) 8
/-- the k-th whole block of 64 bytes -/
def blk (l : List UInt8) (k : Nat) : List UInt8 := (l.drop (64 * k)).take 64
def turned (l : List UInt8) : Nat → H8
  | 0 => first
  | k + 1 => block (turned l k) (blk l k)
def out8 (s : H8) : List UInt8 := s.list.flatMap fun x => Num.putL x.toNat 4
def whole (l : List UInt8) : List UInt8 := l ++ padB l.length
def sum (l : List UInt8) : List UInt8 := out8 (turned (whole l) ((whole l).length / 64))
end Go.Proofs.YtchcmklelmlbgaaGreat.Sha

/- HMAC and HKDF with SHA-256 as plain functions of lists; nothing of the program. -/
namespace Go.Proofs.YtchcmklelmlbgaaGreat.Mac
open Go.Proofs.YtchcmklelmlbgaaGreat.Sha (sum)

/-- filled up with noughts, or cut, to n bytes -/
def padTo (l : List UInt8) (n : Nat) : List UInt8 := l.take n ++ List.replicate (n - l.length) 0
theorem padTo_len (l : List UInt8) (n : Nat) : (padTo l n).length = n := by simp [padTo]; omega
def key (k : List UInt8) : List UInt8 := padTo (if 64 < k.length then sum k else k) 64
def over (k : List UInt8) (c : UInt8) : List UInt8 := k.map fun x => x ^^^ c
def inner (k t : List UInt8) : List UInt8 := sum (over (key k) 0x36 ++ t)
def mac (k t : List UInt8) : List UInt8 := sum (over (key k) 0x5c ++ inner k t)
theorem padTo_self (l : List UInt8) (n : Nat) (h : l.length = n) : padTo l n = l := by subst h; simp [padTo]
end Go.Proofs.YtchcmklelmlbgaaGreat.Mac
namespace Go.Proofs.YtchcmklelmlbgaaGreat.Kdf
open Go.Proofs.YtchcmklelmlbgaaGreat.Mac (mac)

/-- the n-th tag; before the first one: none -/
def tag (k info : List UInt8) : Nat → List UInt8
  | 0 => []
  | n + 1 => mac k (tag k info n ++ info ++ [UInt8.ofNat (n + 1)])
/-- n tags, one behind the other -/
def tags (k info : List UInt8) : Nat → List UInt8
  | 0 => []
  | n + 1 => tags k info n ++ tag k info (n + 1)
/-- how many tags so many bytes want -/
def many (size : Nat) : Nat := (size + 31) / 32
def expand (k info : List UInt8) (size : Nat) : List UInt8 := (tags k info (many size)).take size
def prefixB : List UInt8 := [111, 117, 98, 108, 105, 101, 116, 116, 101, 32]
def infoB (label : List UInt8) : List UInt8 := [0, 32, UInt8.ofNat (prefixB ++ label).length] ++ (prefixB ++ label)
def derive (k label : List UInt8) : List UInt8 := expand k (infoB label) 32
def chain (k label : List UInt8) : Nat → List UInt8
  | 0 => k
  | n + 1 => derive (chain k label n) label
end Go.Proofs.YtchcmklelmlbgaaGreat.Kdf

/- A slice of bytes turned into a string, nil and empty ones too; a string turned into a new slice of bytes. -/
namespace Go.Proofs.YtchcmklelmlbgaaGreat
open Go.RowKit

theorem run_conv_rd {P : Program} {w : World} {B : Nat} {A : Option Addr} {l : List UInt8} (src dst e : TypeId) (n c : Nat) (hn : n = l.length) (hs : P.underlying src = some (.slice e)) (he : P.underlying e = some (.int .u8)) (hd : P.underlying dst = some .string)
    (hr : Rd w B A (l.map e8)) : (convert src dst (.slice A n c)).run P w = .ok (.string ⟨l.toArray⟩) w := by
  subst hn
  cases A with
  | none =>
    have hl : l = [] := by
      cases l with
      | nil => rfl
      | cons a l => obtain ⟨b, off, h, _⟩ := hr (by simp); cases h
    subst hl
    simp [convert, run_underlying hs, run_underlying he, run_underlying hd, go_sem]
    rfl
  | some a =>
    refine run_convert_bytes_back w src dst e a c l hs he hd fun j hj => ?_
    obtain ⟨b, off, h, _, hc⟩ := hr (by intro h; simp at h; subst h; exact absurd hj (by simp))
    injection h with h
    subst h
    rw [Addr.add_lit, hc j (by simpa using hj), List.getElem_map]
end Go.Proofs.YtchcmklelmlbgaaGreat

/- The walks of the reference's small helpers (oublietteref01). -/
namespace Go.Proofs.YtchcmklelmlbgaaGreat.R1
open Go.RowKit
set_option linter.unusedVariables false
set_option maxRecDepth 100000

theorem info8 : (Tryz.prog.info? 5).map (fun i => (i.zero, i.size, i.bytes)) = some (some (.int .u8 0), 1, 1) := by kernel_rfl
/-- are bytes the same? -/
def sameB (a b : List UInt8) : Bool := decide (a = b)
theorem sameB_self (a : List UInt8) : sameB a a = true := by simp [sameB]
theorem sameB_of {a b : List UInt8} (h : a = b) : sameB a b = true := by simp [sameB, h]
theorem sameB_len {a b : List UInt8} (h : a.length ≠ b.length) : sameB a b = false := by
  simp only [sameB, decide_eq_false_iff_not]; intro e; exact h (by rw [e])
theorem sameB_at {a b : List UInt8} {k : Nat} (ha : k < a.length) (hb : k < b.length) (h : a[k] ≠ b[k]) : sameB a b = false := by
  simp only [sameB, decide_eq_false_iff_not]; intro e; subst e; exact h rfl
theorem sameB_all {a b : List UInt8} (hl : a.length = b.length) (h : ∀ j (ha : j < a.length) (hb : j < b.length), a[j] = b[j]) : sameB a b = true :=
  sameB_of (List.ext_getElem hl h)
theorem agree_succ {l m : List UInt8} {k : Nat} (h : ∀ j (ha : j < l.length) (hb : j < m.length), j < k → l[j] = m[j]) {h1 : k < l.length} {h2 : k < m.length} (he : l[k] = m[k]) :
    ∀ j (ha : j < l.length) (hb : j < m.length), j < k + 1 → l[j] = m[j] := fun j ha hb hj => by
  rcases Nat.lt_or_ge j k with e | e
  · exact h j ha hb e
  · obtain rfl : j = k := by omega
    exact he
set_option maxHeartbeats 400000 in
theorem same_any (A B : Option Addr) (l m : List UInt8) (n o c d : Nat) (w : World) (hn : n = l.length) (ho : o = m.length) (ha : Rd w w.heap.size A (l.map e8)) (hb : Rd w w.heap.size B (m.map e8)) (hl : l.length ≤ 1000000000000) (hm : m.length ≤ 1000000000000) :
    Calls Tryz.prog 95 #[.slice A n c, .slice B o d] w fun e w' => e = .returned (.bool (sameB l m)) ∧ Below w.heap.size w w' := by
  subst hn ho
  by_cases hlen : l.length = m.length
  · have hne := bne_no (congrArg (Nat.cast : Nat → Int) hlen)
    have Hlen := Lib.hid hlen
    have hle : l.length ≤ m.length := by omega
    clear hlen
    go_enter Tryz.func95, Tryz.ntmps95
    go_wp2
    go_loopw [5] (fun i wr => ∃ k : Nat, k ≤ l.length ∧ i = .int .i64 k ∧ Hid (∀ j (ha : j < l.length) (hb : j < m.length), j < k → l[j] = m[j]) ∧ Below w.heap.size w wr) (fun i _ => l.length - (intOf i).toNat)
    case atStart => exact ⟨0, by omega, rfl, fun j _ _ h => absurd h (by omega), Below.refl _ _⟩
    case round =>
      obtain ⟨k, hk, rfl, heq, hbel⟩ := hrel
      by_cases hlt : k < l.length
      · obtain ⟨b, off, rfl, hbb, hc⟩ := (ha.below hbel).get (k := k) (by simpa using hlt)
        obtain ⟨b', off', rfl, hbb', hc'⟩ := (hb.below hbel).get (k := k) (by simp; omega)
        rw [List.getElem_map] at hc hc'
        have hlt' : k < m.length := by omega
        by_cases hx : l[k] = m[k]
        · have hx' := bne8_no hx
          have Hx := Lib.hid hx
          clear hx
          go_wp2
          go_quiet (fail)
          go_wp2
          go_roundw
          case rel => exact ⟨k + 1, by omega, by go_num, agree_succ heq.out Hx.out, by simpa using bdrew hbel _⟩
          case measure => simp [intOf]; omega
        · have hx' := bne8 hx
          have Hx := Lib.hid (sameB_at hlt hlt' hx)
          clear hx
          go_wp2
          go_quiet (fail)
          go_wp2
          go_ret
          exact ⟨ret_bool Hx.out.symm, bdrew hbel _⟩
      · have Hx := Lib.hid (sameB_all Hlen.out fun j h1 h2 => heq.out j h1 h2 (by omega))
        go_wp2
        go_ret
        exact ⟨ret_bool Hx.out.symm, hbel⟩
  · have hne := bne_yes (fun e => hlen (Int.natCast_inj.1 e))
    have Hx := Lib.hid (sameB_len hlen)
    clear hlen
    go_enter Tryz.func95, Tryz.ntmps95
    go_wp2
    go_ret
    exact ⟨ret_bool Hx.out.symm, Below.refl _ _⟩
end Go.Proofs.YtchcmklelmlbgaaGreat.R1

/- The walks of num.Pad, num.Xor, bytes.Repeat (64 times one byte), bytes.Equal, and of the reference's Pad. -/
namespace Go.Proofs.YtchcmklelmlbgaaGreat.Mac
open Go.RowKit
set_option linter.unusedVariables false
set_option maxRecDepth 100000
theorem info8 : (Tryz.prog.info? 5).map (fun i => (i.zero, i.size, i.bytes)) = some (some (.int .u8 0), 1, 1) := by kernel_rfl
theorem size8 : (Tryz.prog.info? 5).map (·.size) = some 1 := by kernel_rfl
theorem splice_get : ∀ (cs xs : List Value) (o i : Nat), o + cs.length ≤ xs.length → (splice xs o cs)[i]? = if o ≤ i ∧ i < o + cs.length then cs[i - o]? else xs[i]?
  | [], xs, o, i, _ => by
    rw [splice, if_neg (by intro h; simp at h; omega)]
  | v :: r, xs, o, i, h => by
    simp only [List.length_cons] at h
    rw [splice, splice_get r (xs.set o v) (o + 1) i (by simp; omega)]
    by_cases h1 : o + 1 ≤ i ∧ i < o + 1 + r.length
    · rw [if_pos h1, if_pos (by simp only [List.length_cons]; omega), show i - o = (i - (o + 1)) + 1 by omega, List.getElem?_cons_succ]
    · rw [if_neg h1]
      by_cases h2 : i = o
      · subst h2
        rw [if_pos (by simp only [List.length_cons]; omega), List.getElem?_set_self (by omega)]
        simp
      · rw [if_neg (by simp only [List.length_cons]; omega), List.getElem?_set_ne (by omega)]
theorem splice_front (xs cs : List Value) (h : cs.length ≤ xs.length) : splice xs 0 cs = cs ++ xs.drop cs.length := by
  apply List.ext_getElem?
  intro i
  rw [splice_get cs xs 0 i (by omega)]
  by_cases h1 : i < cs.length
  · rw [if_pos (by omega), List.getElem?_append_left h1]; simp
  · rw [if_neg (by omega), List.getElem?_append_right (by omega), List.getElem?_drop, show cs.length + (i - cs.length) = i by omega]
/-- many cells of a row of the call's own -/
theorem own_setCells {base : Nat} {e : TypeId} {size g n cap : Nat} : ∀ (cs : List Value) (o : Nat) {w : World} {xs : List Value}, w.ownsRow base e size (.slice (some ⟨g, 0, none⟩) n cap) n xs → (w.setCells g o cs).ownsRow base e size (.slice (some ⟨g, 0, none⟩) n cap) n (splice xs o cs)
  | [], _, _, _, h => h
  | v :: r, o, _, _, h => own_setCells r (o + 1) (World.ownsRow.stored h o v).1
section
variable {P : Program}
/-- the builtin copy into the front of a row of the call's own -/
theorem wpList_copyO {w : World} {ops : Array Oper} {rest : List Oper} {o : Oper} {a : Act} {Q : Exit → Act → World → Prop} (hgd : o.guard = none) (d s : Operand) (t t' : TypeId)
    (ho : o.op = .call { callee := .builtin .copy, args := #[d, s], argTypes := #[t, t'] }) {g n cap : Nat} {A : Option Addr} {sLen sCap : Nat} (hd : a.eval d = .slice (some ⟨g, 0, none⟩) n cap) (hs : a.eval s = .slice A sLen sCap)
    {e : TypeId} (hu : P.underlying t = some (.slice e)) (hi : (P.info? e).map (·.size) = some 1) {base : Nat} {xs : List Value} (hown : w.ownsRow base e 1 (.slice (some ⟨g, 0, none⟩) n cap) n xs)
    {B : Nat} {news : List Value} (hl : news.length = sLen) (hr : Rd w B A news) (h1 : ∀ v ∈ news, v.oneCell' = true)
    (h : ∀ w1 r, w1.ownsRow base e 1 (.slice (some ⟨g, 0, none⟩) n cap) n (news.take n ++ xs.drop (news.take n).length) → w.grownBy w1 (some g) → wpList P ops Q rest (a.put o.dst (.int .i64 r)) w1) : wpList P ops Q (o :: rest) a w := by
  have hxl : xs.length = n := by have := hown.1; omega
  refine wpList_plain hgd fun K hK => ?_
  by_cases h0 : Nat.min sLen n = 0
  · have hr := run_copy_none (P := P) w t t' o.type e (some ⟨g, 0, none⟩) A n cap sLen sCap hu hi h0
    unfold Oper.wp execOp
    simp only [ho, resolve, invoke, builtin, Sem.run_bind, Sem.run_pure, Result.andThen_ok, List.map_toArray, List.map_cons, List.map_nil, hd, hs, hr]
    have ht : news.take n = [] := by
      apply List.eq_nil_of_length_eq_zero
      rw [List.length_take, hl, Nat.min_comm]; exact h0
    refine hK _ _ (h _ _ ?_ ⟨rfl, rfl, rfl, Nat.le_refl _, fun _ _ _ => rfl⟩)
    rw [ht]; simpa using hown
  · have hne : news ≠ [] := by rintro rfl; simp at hl; subst hl; simp at h0
    obtain ⟨b, off, rfl, _, hc⟩ := hr hne
    have hcl : (news.take n).length = Nat.min sLen n := by rw [List.length_take, hl]; exact Nat.min_comm _ _
    have hle : (news.take n).length ≤ n := by rw [List.length_take]; omega
    have hr := run_copy_cells (P := P) w t t' o.type e g 0 n cap ⟨b, off, none⟩ sLen sCap (news.take n) hu hi hcl
      (fun j v hv => by
        obtain ⟨hj, rfl⟩ := List.getElem?_eq_some_iff.1 hv
        rw [List.length_take] at hj
        rw [Addr.add_lit, hc j (by omega), List.getElem_take])
      (fun j hj => by
        rw [Nat.zero_add, World.ownsRow.cellAt hown j (by omega), List.getElem?_eq_getElem (show j < xs.length by omega)]; simp)
      (fun j _ => by rw [Nat.zero_add]; exact World.ownsRow.frozenAt hown j) (fun v hv => h1 v (List.mem_of_mem_take hv))
    unfold Oper.wp execOp
    simp only [ho, resolve, invoke, builtin, Sem.run_bind, Sem.run_pure, Result.andThen_ok, List.map_toArray, List.map_cons, List.map_nil, hd, hs, hr]
    have := own_setCells (news.take n) 0 hown
    rw [splice_front _ _ (by omega)] at this
    exact hK _ _ (h _ _ this (setCells_grown g _ 0 w))
end
theorem padTo_cells (l : List UInt8) (s : Nat) : ((l.map e8).take s ++ (List.replicate s (.int .u8 0)).drop ((l.map e8).take s).length) = (padTo l s).map e8 := by
  unfold padTo
  rw [List.map_append, List.map_take, List.drop_replicate]
  congr 1
  rw [List.map_replicate]
  congr 1
  rw [List.length_take, List.length_map]; omega
set_option maxHeartbeats 400000 in
theorem npad_any (A : Option Addr) (l : List UInt8) (n c s : Nat) (z : Int) (hz : z = (s : Int)) (w : World) (hn : n = l.length) (h1 : 1 ≤ s) (h2 : s ≤ 65536) (hr : Rd w w.heap.size A (l.map e8)) :
    Calls Tryz.prog 123 #[.slice A n c, .int .i64 z] w fun e w' => RetB 5 w (padTo l s) e w' := by
  subst hn hz
  obtain ⟨i0, hi0, hz0, hz1, hz2⟩ := info_parts info8
  have h1' : ((s : Int) < 1) = False := by simp; omega
  have h2' : (65536 < (s : Int)) = False := by simp; omega
  go_enter Tryz.func123, Tryz.ntmps123
  go_wp2_with (first
    | ((with_reducible show wpList _ _ _ (⟨some 13, _, _, _, _, _⟩ :: _) _ _); refine wpList_makeN rfl _ _ _ rfl Tryz.underlying51 hi0 hz0 hz1 s s rfl rfl rfl rfl (Nat.le_refl _) (by rw [hz2]; omega) (by unfold maxLen; omega) ?_; intro w1 hown1 bw1 hs1)
    | ((with_reducible show wpList _ _ _ (⟨some 16, _, _, _, _, _⟩ :: _) _ _); refine wpList_copyO rfl _ _ _ _ rfl rfl rfl Tryz.underlying51 size8 hown1 (by simp) (hr.on bw1) (e8_one _) ?_; intro w2 r2 hown2 hg2)
    | fail)
  go_ret
  rw [padTo_cells] at hown2
  exact RetB.mk hown2 rfl (below_row bw1 hg2 (Nat.le_refl _) bw1.size)
set_option maxHeartbeats 400000 in
theorem equal_any (A B : Option Addr) (l m : List UInt8) (n o c d : Nat) (w : World) (hn : n = l.length) (ho : o = m.length) (hr : Rd w w.heap.size A (l.map e8)) (hs : Rd w w.heap.size B (m.map e8)) :
    Calls Tryz.prog 130 #[.slice A n c, .slice B o d] w fun e w' => e = .returned (.bool (R1.sameB l m)) ∧ w = w' := by
  subst hn ho
  have h1 := run_conv_rd (P := Tryz.prog) 51 9 5 l.length c rfl Tryz.underlying51 Tryz.underlying5 Tryz.underlying9 hr
  have h2 := run_conv_rd (P := Tryz.prog) 51 9 5 m.length d rfl Tryz.underlying51 Tryz.underlying5 Tryz.underlying9 hs
  go_enter Tryz.func130, Tryz.ntmps130
  go_wp2
  go_ret
  exact ⟨ret_bool (by unfold R1.sameB; by_cases h : l = m <;> simp [h]), rfl⟩
end Go.Proofs.YtchcmklelmlbgaaGreat.Mac

/- The walks of the package num and of the reference's numbers as bytes. -/
namespace Go.Proofs.YtchcmklelmlbgaaGreat.Num
open Go.RowKit
set_option linter.unusedVariables false
set_option maxRecDepth 100000

theorem info8 : (Tryz.prog.info? 5).map (fun i => (i.zero, i.size, i.bytes)) = some (some (.int .u8 0), 1, 1) := by kernel_rfl
/-- bytes of a size outside 1 to 8: none -/
def put (n : Nat) (size : Int) : List UInt8 := if 1 ≤ size ∧ size ≤ 8 then putL n size.toNat else []
set_option maxHeartbeats 400000 in
theorem put_any (n : UInt64) (m : Int) (hm : m = (n.toNat : Int)) (s : Nat) (z : Int) (hz : z = (s : Int)) (hs : 1 ≤ s) (hs8 : s ≤ 8) (w : World) :
    Calls Tryz.prog 108 #[.int .u64 m, .int .i64 z] w fun e w' => RetB 5 w (putL n.toNat s) e w' := by
  subst hm hz
  obtain ⟨i0, hi0, hz0, hz1, hz2⟩ := info_parts info8
  have hn0 : (0 : Int) ≤ (n.toNat : Int) := by omega
  have hn1 : (n.toNat : Int) ≤ 18446744073709551615 := by have := n.toNat_lt; omega
  go_enter Tryz.func108, Tryz.ntmps108
  go_wp2
  go_step3
  go_wp2
  go_step3
  go_wp2
  go_loopw [4, 5] (fun v i wr => ∃ k : Nat, k ≤ s ∧ i = .int .i64 ((s : Int) - 1 - (k : Int)) ∧ wr.ownsRow w.heap.size 5 1 v k (((putL n.toNat s).take k).map e8) ∧ Below w.heap.size w wr) (fun _ i _ => (intOf i + 1).toNat)
  case atStart => exact ⟨0, by omega, by go_num, by simpa using own_nil _ _ _ _, Below.refl _ _⟩
  case round =>
    obtain ⟨k, hk, rfl, hown, hbel⟩ := hrel
    by_cases hlt : k < s
    · have hcell := Lib.hid (cell_of n.toNat (8 * (s - 1 - k)))
      go_wp2_with (at_builtin; refine wpList_append_rd _ rfl _ _ _ rfl w.heap.size 5 i0 _ 1 1 Tryz.underlying51 hi0 hz0 hz1 hz2 rfl (by omega) _ k _ rfl (hown.alloc _) _ _ 1 1 [.int .u8 ((n.toNat : Int) / 2 ^ (8 * (s - 1 - k)) % 256)] rfl rfl (Rd.lit wr _ _ _ (wr.heap.size + 1) rfl (by omega)) (one_int _ _) (by simp only [maxLen]; omega) (by omega) (le_alloc hbel.size _) ?_; intro v1 w1 hown1 hg1 hat1)
      go_roundw
      case rel => exact ⟨k + 1, by omega, by go_num, by rw [putL_take _ _ _ hlt, List.map_append, List.map_singleton]; unfold e8; rw [hcell.out]; exact hown1, (hbel.alloc hbel.size _).grown hg1 (by have := hbel.size; simp; omega) (fun g hg => own_block hown hg)⟩
      case measure => simp [intOf]; omega
    · obtain rfl : k = s := by omega
      rw [List.take_of_length_le (by rw [putL_len]; omega)] at hown
      go_wp2
      rw [Exit.noGoto_ret]
      go_ret
      exact RetB.mk hown rfl hbel
theorem or_byte {n c : Nat} (hn : n < 72057594037927936) (hc : c < 256) : bits .or .u64 ((n : Int) * 256) (c : Int) = ((n * 256 + c : Nat) : Int) := by
  have h := u64_or_nat (n * 256) c (by omega) (by omega)
  have h2 : n * 256 ||| c = n * 256 + c := by
    have := Nat.shiftLeft_add_eq_or_of_lt (i := 8) (a := n) (b := c) (by omega)
    rw [Nat.shiftLeft_eq, show (2 : Nat) ^ 8 = 256 from rfl] at this
    omega
  rw [h2] at h
  rw [show ((n : Int) * 256) = ((n * 256 : Nat) : Int) by omega]
  exact h
set_option maxHeartbeats 400000 in
theorem get_any (A : Option Addr) (l : List UInt8) (n cap : Nat) (B : Nat) (w : World) (hn : n = l.length) (hr : Rd w B A (l.map e8)) (h1 : 1 ≤ l.length) (h8 : l.length ≤ 8) :
    Calls Tryz.prog 118 #[.slice A n cap] w fun e w' => e = .returned (.tuple #[.int .u64 (getN l : Int), .int .i64 0]) ∧ w = w' := by
  subst hn
  have hne := beq_no (show (l.length : Int) ≠ 0 by omega)
  go_enter Tryz.func118, Tryz.ntmps118
  go_wp2
  go_loop [2, 5, 16] (fun n _ i => ∃ k : Nat, k ≤ l.length ∧ i = .int .i64 k ∧ n = .int .u64 (getN (l.take k) : Int)) (fun _ _ i => l.length - (intOf i).toNat)
  case atStart => exact ⟨0, by omega, rfl, rfl⟩
  case round =>
    obtain ⟨k, hk, rfl, rfl⟩ := hrel
    by_cases hlt : k < l.length
    · obtain ⟨b, off, rfl, hbb, hc⟩ := hr.get (k := k) (by simpa using hlt)
      rw [List.getElem_map] at hc
      have hb := getN_7 l k hk (by omega)
      have hc0 : (0 : Int) ≤ (l[k].toNat : Int) := by omega
      have hc1 : (l[k].toNat : Int) ≤ 255 := by have := l[k].toNat_lt; omega
      have hv := Lib.hid (show bits .or .u64 ((getN (l.take k) : Int) * 256) (l[k].toNat : Int) = (getN (l.take (k + 1)) : Int) by rw [or_byte hb (by omega), getN_take hlt])
      go_wp2
      go_round
      case rel => exact ⟨k + 1, by omega, by go_num, by rw [hv.out]⟩
      case measure => simp [intOf]; omega
    · obtain rfl : k = l.length := by omega
      have ht := Lib.hid (show getN (l.take l.length) = getN l by rw [List.take_length])
      go_wp2
      go_ret2
      exact ⟨by rw [← ht.out]; rfl, rfl⟩
end Go.Proofs.YtchcmklelmlbgaaGreat.Num

/- A sector and its bytes: plain functions; nothing of the program. -/
namespace Go.Proofs.YtchcmklelmlbgaaGreat.Sec
open Go.Proofs.YtchcmklelmlbgaaGreat.Num (putL getN putL_len)
open Go.Proofs.YtchcmklelmlbgaaGreat.Mac (padTo)

structure X where
  kind : Int
  life : UInt64
  seq : Int
  gen : UInt64
  body : List UInt8
/-- may it stand at a place? -/
def rightF (p : Int) (x : X) : Int := if x.kind < 1 ∨ 5 < x.kind ∨ p < 0 ∨ 1023 < p ∨ x.seq < 0 ∨ 1073741824 < x.seq then 2 else if 479 < x.body.length then 6 else 0
theorem right_of {p : Int} {x : X} (h : rightF p x = 0) : 1 ≤ x.kind ∧ x.kind ≤ 5 ∧ 0 ≤ p ∧ p ≤ 1023 ∧ 0 ≤ x.seq ∧ x.seq ≤ 1073741824 ∧ x.body.length ≤ 479 := by
  unfold rightF at h
  split at h
  · cases h
  · split at h
    · cases h
    · omega
theorem right_2 {p : Int} {x : X} (h : x.kind < 1 ∨ 5 < x.kind ∨ p < 0 ∨ 1023 < p ∨ x.seq < 0 ∨ 1073741824 < x.seq) : rightF p x = 2 := if_pos h
theorem right_6 {p : Int} {x : X} (h : ¬ (x.kind < 1 ∨ 5 < x.kind ∨ p < 0 ∨ 1023 < p ∨ x.seq < 0 ∨ 1073741824 < x.seq)) (hb : 479 < x.body.length) : rightF p x = 6 := by unfold rightF; rw [if_neg h, if_pos hb]
theorem right_0 {p : Int} {x : X} (h : ¬ (x.kind < 1 ∨ 5 < x.kind ∨ p < 0 ∨ 1023 < p ∨ x.seq < 0 ∨ 1073741824 < x.seq)) (hb : ¬ 479 < x.body.length) : rightF p x = 0 := by unfold rightF; rw [if_neg h, if_neg hb]
def head (p : Int) (x : X) : List UInt8 := putL x.kind.toNat 1 ++ putL p.toNat 2 ++ putL x.life.toNat 8 ++ putL x.seq.toNat 4 ++ putL x.gen.toNat 8 ++ putL x.body.length 2
theorem head_len (p : Int) (x : X) : (head p x).length = 25 := by simp [head, putL_len]
/-- the first 504 bytes -/
def text (p : Int) (x : X) : List UInt8 := padTo (head p x ++ x.body) 504
theorem padTo_len (l : List UInt8) (n : Nat) : (padTo l n).length = n := by unfold padTo; simp; omega
theorem text_len (p : Int) (x : X) : (text p x).length = 504 := padTo_len _ _
def zero512 : List UInt8 := List.replicate 512 0
theorem zero512_len : zero512.length = 512 := List.length_replicate ..
def blankB (b : List UInt8) : Bool := decide (b = zero512)
/-- the bytes from a place on -/
def cut (b : List UInt8) (i n : Nat) : List UInt8 := (b.drop i).take n
def lenB (b : List UInt8) : Nat := getN (cut b 23 2)
def ofB (b : List UInt8) : X := ⟨(getN (cut b 0 1) : Int), UInt64.ofNat (getN (cut b 3 8)), (getN (cut b 11 4) : Int), UInt64.ofNat (getN (cut b 15 8)), cut b 25 (lenB b)⟩
theorem cut_len {b : List UInt8} {i n : Nat} (h : i + n ≤ b.length) : (cut b i n).length = n := by simp [cut]; omega
/-- the sector of 504 bytes -/
def reads (p : Int) (b : List UInt8) : Option X := if lenB b ≤ 479 ∧ rightF p (ofB b) = 0 ∧ text p (ofB b) = b then some (ofB b) else none
def same (x y : X) : Bool := decide (x.kind = y.kind) && decide (x.life = y.life) && decide (x.seq = y.seq) && decide (x.gen = y.gen) && decide (x.body = y.body)
theorem cut_take (b : List UInt8) (i n m : Nat) (h : i + n ≤ m) : cut (b.take m) i n = cut b i n := by
  unfold cut
  rw [List.drop_take, List.take_take, Nat.min_eq_left (by omega)]
theorem ofB_take {b : List UInt8} {m : Nat} (hm : 504 ≤ m) (h : lenB b ≤ 479) : ofB (b.take m) = ofB b := by
  have h2 : lenB (b.take m) = lenB b := by unfold lenB; rw [cut_take _ _ _ _ (by omega)]
  unfold ofB
  rw [h2, cut_take _ _ _ _ (by omega), cut_take _ _ _ _ (by omega), cut_take _ _ _ _ (by omega), cut_take _ _ _ _ (by omega), cut_take _ _ _ _ (by omega)]
theorem lenB_take {b : List UInt8} {m : Nat} (hm : 504 ≤ m) : lenB (b.take m) = lenB b := by unfold lenB; rw [cut_take _ _ _ _ (by omega)]
end Go.Proofs.YtchcmklelmlbgaaGreat.Sec

/- Sums of 32 bits as plain functions on lists of bytes; nothing of the program. -/
namespace Go.Proofs.YtchcmklelmlbgaaGreat.Crc

def step (c : UInt32) : UInt32 := (c >>> 1) ^^^ (3988292384 &&& -(c &&& 1))
def steps : Nat → UInt32 → UInt32
  | 0, c => c
  | n + 1, c => step (steps n c)
def byte (c : UInt32) (x : UInt8) : UInt32 := steps 8 (c ^^^ x.toUInt32)
def run (c : UInt32) (l : List UInt8) : UInt32 := l.foldl byte c
def more (s : UInt32) (l : List UInt8) : UInt32 := run (s ^^^ 4294967295) l ^^^ 4294967295
/-- what is turned by a step is found again -/
def back (d : UInt32) : UInt32 := if 2147483648 ≤ d.toNat then ((d ^^^ 3988292384) <<< 1) ||| 1 else d <<< 1
end Go.Proofs.YtchcmklelmlbgaaGreat.Crc

/- The walks of the package crc and of the reference's sums: each returns what the plain functions say. -/
namespace Go.Proofs.YtchcmklelmlbgaaGreat.Crc
open Go.RowKit

end Go.Proofs.YtchcmklelmlbgaaGreat.Crc

/- The walks of the reference's sums (oublietteref06), and crc.Bytes. -/
namespace Go.Proofs.YtchcmklelmlbgaaGreat.Crc
open Go.RowKit
set_option linter.unusedVariables false

theorem more_zero (l : List UInt8) : more 0 l = run 4294967295 l ^^^ 4294967295 := by unfold more; rw [UInt32.zero_xor]
theorem wide (x : UInt32) : (x.toNat : Int) = ((x.toUInt64).toNat : Int) := by simp
end Go.Proofs.YtchcmklelmlbgaaGreat.Crc

/- The small walks of the package sector, and of its reference. -/
namespace Go.Proofs.YtchcmklelmlbgaaGreat.Sec
open Go.RowKit
set_option linter.unusedVariables false
set_option maxRecDepth 100000

theorem info8 : (Tryz.prog.info? 5).map (fun i => (i.zero, i.size, i.bytes)) = some (some (.int .u8 0), 1, 1) := by kernel_rfl
def xv (x : X) (A : Option Addr) (c : Nat) : Value := .agg #[.int .i64 x.kind, .int .u64 (x.life.toNat : Int), .int .i64 x.seq, .int .u64 (x.gen.toNat : Int), .slice A x.body.length c]
theorem none_any (g : Nat) (w : World) : Calls Tryz.prog 120 #[.pointer (some ⟨g, 0, none⟩)] w fun e w' => e = .returned (.bool false) ∧ w = w' := by
  go_enter Tryz.func120, Tryz.ntmps120
  go_wp2
  go_ret
  exact ⟨rfl, rfl⟩
def withinB (n l m : Int) : Bool := decide (l ≤ n) && decide (n ≤ m)
theorem within_any (n l m : Int) (w : World) : Calls Tryz.prog 131 #[.int .i64 n, .int .i64 l, .int .i64 m] w fun e w' => e = .returned (.bool (withinB n l m)) ∧ w = w' := by
  by_cases h : l ≤ n
  · have hr := Lib.hid (show withinB n l m = decide (n ≤ m) by simp [withinB, h])
    go_enter Tryz.func131, Tryz.ntmps131
    go_wp2
    go_ret
    exact ⟨ret_bool hr.out.symm, rfl⟩
  · have hr := Lib.hid (show withinB n l m = false by simp [withinB, h])
    go_enter Tryz.func131, Tryz.ntmps131
    go_wp2
    go_ret
    exact ⟨ret_bool hr.out.symm, rfl⟩
set_option maxHeartbeats 1000000 in
theorem right_any (p : Int) (x : X) (A : Option Addr) (c : Nat) (w : World) :
    Calls Tryz.prog 121 #[.int .i64 p, .agg #[.int .i64 x.kind, .int .u64 (x.life.toNat : Int), .int .i64 x.seq, .int .u64 (x.gen.toNat : Int), .slice A x.body.length c]] w fun e w' => e = .returned (.int .i64 (rightF p x)) ∧ Below w.heap.size w w' := by
  have hmf : ∀ w : World, Sem.run Tryz.prog (callFunc 131 #[]) w = .ok (.enter 131 #[]) w := by intro w; simp [go_sem]
  by_cases h1 : x.kind < 1 ∨ 5 < x.kind
  · have hr := Lib.hid (show rightF p x = 2 from right_2 (by omega))
    have hb := Lib.hid (show withinB x.kind 1 5 = false by unfold withinB; simp; omega)
    clear h1
    go_enter Tryz.func121, Tryz.ntmps121
    go_wp2_with (go_at_call 131; refine (within_any _ _ _ _).mono ?_; rintro e w1 ⟨rfl, rfl⟩; try rw [hb.out])
    go_ret
    exact ⟨ret_int hr.out.symm, below_lit _ _⟩
  have hb := Lib.hid (show withinB x.kind 1 5 = true by unfold withinB; simp; omega)
  by_cases h2 : p < 0 ∨ 1023 < p
  · have hr := Lib.hid (show rightF p x = 2 from right_2 (by omega))
    have hb2 := Lib.hid (show withinB p 0 1023 = false by unfold withinB; simp; omega)
    clear h1 h2
    go_enter Tryz.func121, Tryz.ntmps121
    go_wp2_with (go_at_call 131; refine (within_any _ _ _ _).mono ?_; rintro e w1 ⟨rfl, rfl⟩; first | rw [hb.out] | rw [hb2.out])
    go_ret
    exact ⟨ret_int hr.out.symm, below_lit _ _⟩
  have hb2 := Lib.hid (show withinB p 0 1023 = true by unfold withinB; simp; omega)
  by_cases h3 : x.seq < 0 ∨ 1073741824 < x.seq
  · have hr := Lib.hid (show rightF p x = 2 from right_2 (by omega))
    have hb3 := Lib.hid (show withinB x.seq 0 1073741824 = false by unfold withinB; simp; omega)
    clear h1 h2 h3
    go_enter Tryz.func121, Tryz.ntmps121
    go_wp2_with (go_at_call 131; refine (within_any _ _ _ _).mono ?_; rintro e w1 ⟨rfl, rfl⟩; first | rw [hb.out] | rw [hb2.out] | rw [hb3.out])
    go_ret
    exact ⟨ret_int hr.out.symm, below_lit _ _⟩
  have hb3 := Lib.hid (show withinB x.seq 0 1073741824 = true by unfold withinB; simp; omega)
  by_cases h4 : 479 < x.body.length
  · have hr := Lib.hid (show rightF p x = 6 from right_6 (by omega) h4)
    clear h1 h2 h3
    go_enter Tryz.func121, Tryz.ntmps121
    go_wp2_with (go_at_call 131; refine (within_any _ _ _ _).mono ?_; rintro e w1 ⟨rfl, rfl⟩; first | rw [hb.out] | rw [hb2.out] | rw [hb3.out])
    go_ret
    exact ⟨ret_int hr.out.symm, below_lit _ _⟩
  have hr := Lib.hid (show rightF p x = 0 from right_0 (by omega) h4)
  clear h1 h2 h3
  go_enter Tryz.func121, Tryz.ntmps121
  go_wp2_with (go_at_call 131; refine (within_any _ _ _ _).mono ?_; rintro e w1 ⟨rfl, rfl⟩; first | rw [hb.out] | rw [hb2.out] | rw [hb3.out])
  go_ret
  exact ⟨ret_int hr.out.symm, below_lit _ _⟩
theorem nsame_any (A B : Option Addr) (l m : List UInt8) (n o c d : Nat) (w : World) (hn : n = l.length) (ho : o = m.length) (hr : Rd w w.heap.size A (l.map e8)) (hs : Rd w w.heap.size B (m.map e8)) :
    Calls Tryz.prog 113 #[.slice A n c, .slice B o d] w fun e w' => e = .returned (.bool (R1.sameB l m)) ∧ w = w' := by
  subst hn ho
  go_enter Tryz.func113, Tryz.ntmps113
  go_wp2_with (go_at_call 130; refine (Mac.equal_any _ _ _ _ _ _ _ _ _ rfl rfl hr hs).mono ?_; rintro e w' ⟨rfl, rfl⟩)
  go_ret
  exact ⟨rfl, rfl⟩
theorem blank_any (w : World) : Calls Tryz.prog 74 #[] w (RetB 5 w zero512) := by
  obtain ⟨i0, hi0, hz0, hz1, hz2⟩ := info_parts info8
  go_enter Tryz.func74, Tryz.ntmps74
  go_wp2_with ((with_reducible show wpList _ _ _ (⟨some 1, _, _, _, _, _⟩ :: _) _ _); refine wpList_make_full _ rfl _ _ _ rfl w.heap.size 5 i0 _ 1 Tryz.underlying51 hi0 hz0 hz1 _ _ _ _ 512 rfl rfl rfl rfl (by rw [hz2]; omega) (by simp only [maxLen]; omega) (Nat.le_refl _) ?_; intro w1 own1 hg1)
  rw [made_int] at own1
  go_ret
  exact RetB.mk own1 (by rw [zero512, List.map_replicate]; rfl) ((Below.refl _ _).grown hg1 (Nat.le_refl _) (by simp))
theorem isBlank_any (A : Option Addr) (l : List UInt8) (n c : Nat) (w : World) (hn : n = l.length) (hr : Rd w w.heap.size A (l.map e8)) :
    Calls Tryz.prog 127 #[.slice A n c] w fun e w' => e = .returned (.bool (blankB l)) ∧ Below w.heap.size w w' := by
  subst hn
  go_enter Tryz.func127, Tryz.ntmps127
  go_wp2_with fail
  refine (blank_any _).mono ?_
  rintro e w1 ⟨A1, c1, rfl, own1, b1⟩
  go_wp2_with fail
  refine (Mac.equal_any _ _ l zero512 _ _ _ _ _ rfl rfl (hr.on b1) (Rd.own own1)).mono ?_
  rintro e w2 ⟨rfl, rfl⟩
  go_wp2
  go_ret
  exact ⟨rfl, b1⟩
end Go.Proofs.YtchcmklelmlbgaaGreat.Sec

/- The walks of sector.written and of the reference's Text. -/
namespace Go.Proofs.YtchcmklelmlbgaaGreat.Sec
open Go.RowKit
open Go.Proofs.YtchcmklelmlbgaaGreat.Num (putL)
open Go.Proofs.YtchcmklelmlbgaaGreat.Mac (padTo)
set_option linter.unusedVariables false
set_option maxRecDepth 100000
theorem text_eq {p : Int} {x : X} {n0 n1 n3 n5 : UInt64} (e0 : x.kind = (n0.toNat : Int)) (e1 : p = (n1.toNat : Int)) (e3 : x.seq = (n3.toNat : Int)) (e5 : (x.body.length : Int) = (n5.toNat : Int)) :
    text p x = padTo ((((((putL n0.toNat 1 ++ putL n1.toNat 2) ++ putL x.life.toNat 8) ++ putL n3.toNat 4) ++ putL x.gen.toNat 8) ++ putL n5.toNat 2) ++ x.body) 504 := by
  unfold text head
  rw [show x.kind.toNat = n0.toNat by omega, show p.toNat = n1.toNat by omega, show x.seq.toNat = n3.toNat by omega, show x.body.length = n5.toNat by omega]
/-- the first fields' bytes -/
def pre (n0 n1 n2 n3 n4 n5 : UInt64) : Nat → List UInt8
  | 0 => []
  | 1 => putL n0.toNat 1
  | 2 => putL n0.toNat 1 ++ putL n1.toNat 2
  | 3 => (putL n0.toNat 1 ++ putL n1.toNat 2) ++ putL n2.toNat 8
  | 4 => ((putL n0.toNat 1 ++ putL n1.toNat 2) ++ putL n2.toNat 8) ++ putL n3.toNat 4
  | 5 => (((putL n0.toNat 1 ++ putL n1.toNat 2) ++ putL n2.toNat 8) ++ putL n3.toNat 4) ++ putL n4.toNat 8
  | _ => ((((putL n0.toNat 1 ++ putL n1.toNat 2) ++ putL n2.toNat 8) ++ putL n3.toNat 4) ++ putL n4.toNat 8) ++ putL n5.toNat 2
theorem retB_eq {E : TypeId} {w w' : World} {l l' : List UInt8} {e : Ending} (h : RetB E w l e w') (h2 : l = l') : RetB E w l' e w' := h2 ▸ h
theorem own_add {w : World} {base : Nat} {e : TypeId} {v : Value} {n m : Nat} {a b c : List UInt8} (h : w.ownsRow base e 1 v (n + m) (a.map e8 ++ b.map e8)) (hn : n = a.length) (hm : m = b.length) (hc : c = a ++ b) : w.ownsRow base e 1 v c.length (c.map e8) := by
  subst hn hm hc
  rw [List.length_append, List.map_append]; exact h
theorem blk_grown {w w' : World} {b : Nat} {o : Obj} {r : Option Nat} (h : w.heap[b]? = some o) (hlt : b < w.heap.size) (g : w.grownBy w' r) (hr : ∀ k, r = some k → b < k) : w'.heap[b]? = some o :=
  (g.block b hlt (fun e => by have := hr b e.symm; omega)).trans h
theorem five {w : World} {g : Nat} {v0 v1 v2 v3 v4 : Value} {t : TypeId} (h : w.heap[g]? = some (.cells #[v0, v1, v2, v3, v4] t (0, 0))) :
    w.cell? ⟨g, 0, none⟩ = some v0 ∧ w.cell? ⟨g, 1, none⟩ = some v1 ∧ w.cell? ⟨g, 2, none⟩ = some v2 ∧ w.cell? ⟨g, 3, none⟩ = some v3 ∧ w.cell? ⟨g, 4, none⟩ = some v4 ∧ ∀ o, w.frozen? ⟨g, o, none⟩ = false := by
  refine ⟨?_, ?_, ?_, ?_, ?_, ?_⟩ <;> simp [World.cell?, World.frozen?, h]
set_option maxHeartbeats 600000 in
theorem written_any (p : Int) (x : X) (A : Option Addr) (c : Nat) (w : World) (hr : Rd w w.heap.size A (x.body.map e8)) (h : rightF p x = 0) :
    Calls Tryz.prog 122 #[.int .i64 p, .agg #[.int .i64 x.kind, .int .u64 (x.life.toNat : Int), .int .i64 x.seq, .int .u64 (x.gen.toNat : Int), .slice A x.body.length c]] w (RetB 5 w (text p x)) := by
  obtain ⟨i0', hi0, hz0, hz1, hz2⟩ := info_parts info8
  obtain ⟨h1, h2, h3, h4, h5, h6, h7⟩ := right_of h
  obtain ⟨n0, e0⟩ := to64 x.kind (by omega) (by omega)
  obtain ⟨n1, e1⟩ := to64 p (by omega) (by omega)
  obtain ⟨n3, e3⟩ := to64 x.seq (by omega) (by omega)
  obtain ⟨n5, e5⟩ := to64 (x.body.length : Int) (by omega) (by omega)
  have ht := Lib.hid (text_eq e0 e1 e3 e5)
  rw [ht.out]
  obtain ⟨body, hbody⟩ : ∃ b, b = x.body := ⟨_, rfl⟩
  obtain ⟨n2, hn2⟩ : ∃ b, b = x.life := ⟨_, rfl⟩
  obtain ⟨n4, hn4⟩ : ∃ b, b = x.gen := ⟨_, rfl⟩
  rw [← hbody] at hr e5 h7 ⊢
  rw [← hn2, ← hn4]
  have E5 := Lib.hid e5
  rw [e0, e1, e3]
  rw [e0] at h1 h2
  rw [e1] at h3 h4
  rw [e3] at h5 h6
  clear ht h e0 e1 e3 e5 hbody hn2 hn4
  have g2 : (n2.toNat : Int) ≤ 18446744073709551615 := by have := n2.toNat_lt; omega
  have g4 : (n4.toNat : Int) ≤ 18446744073709551615 := by have := n4.toNat_lt; omega
  have hl : ∀ k, (pre n0 n1 n2 n3 n4 n5 k).length ≤ 25 := by
    intro k
    unfold pre
    split <;> simp [Num.putL_len]
  have i0 : ∀ w, (Instr.index 201 (.agg #[.int .u64 (n0.toNat : Int), .int .i64 1, .int .u64 (n1.toNat : Int), .int .i64 2, .int .u64 (n2.toNat : Int), .int .i64 8, .int .u64 (n3.toNat : Int), .int .i64 4, .int .u64 (n4.toNat : Int), .int .i64 8, .int .u64 (body.length : Int), .int .i64 2]) (.int .i64 0)).run Tryz.prog w = .ok (.agg #[.int .u64 (n0.toNat : Int), .int .i64 1]) w := fun _ => by kernel_rfl
  have i1 : ∀ w, (Instr.index 201 (.agg #[.int .u64 (n0.toNat : Int), .int .i64 1, .int .u64 (n1.toNat : Int), .int .i64 2, .int .u64 (n2.toNat : Int), .int .i64 8, .int .u64 (n3.toNat : Int), .int .i64 4, .int .u64 (n4.toNat : Int), .int .i64 8, .int .u64 (body.length : Int), .int .i64 2]) (.int .i64 1)).run Tryz.prog w = .ok (.agg #[.int .u64 (n1.toNat : Int), .int .i64 2]) w := fun _ => by kernel_rfl
  have i2 : ∀ w, (Instr.index 201 (.agg #[.int .u64 (n0.toNat : Int), .int .i64 1, .int .u64 (n1.toNat : Int), .int .i64 2, .int .u64 (n2.toNat : Int), .int .i64 8, .int .u64 (n3.toNat : Int), .int .i64 4, .int .u64 (n4.toNat : Int), .int .i64 8, .int .u64 (body.length : Int), .int .i64 2]) (.int .i64 2)).run Tryz.prog w = .ok (.agg #[.int .u64 (n2.toNat : Int), .int .i64 8]) w := fun _ => by kernel_rfl
  have i3 : ∀ w, (Instr.index 201 (.agg #[.int .u64 (n0.toNat : Int), .int .i64 1, .int .u64 (n1.toNat : Int), .int .i64 2, .int .u64 (n2.toNat : Int), .int .i64 8, .int .u64 (n3.toNat : Int), .int .i64 4, .int .u64 (n4.toNat : Int), .int .i64 8, .int .u64 (body.length : Int), .int .i64 2]) (.int .i64 3)).run Tryz.prog w = .ok (.agg #[.int .u64 (n3.toNat : Int), .int .i64 4]) w := fun _ => by kernel_rfl
  have i4 : ∀ w, (Instr.index 201 (.agg #[.int .u64 (n0.toNat : Int), .int .i64 1, .int .u64 (n1.toNat : Int), .int .i64 2, .int .u64 (n2.toNat : Int), .int .i64 8, .int .u64 (n3.toNat : Int), .int .i64 4, .int .u64 (n4.toNat : Int), .int .i64 8, .int .u64 (body.length : Int), .int .i64 2]) (.int .i64 4)).run Tryz.prog w = .ok (.agg #[.int .u64 (n4.toNat : Int), .int .i64 8]) w := fun _ => by kernel_rfl
  have i5 : ∀ w, (Instr.index 201 (.agg #[.int .u64 (n0.toNat : Int), .int .i64 1, .int .u64 (n1.toNat : Int), .int .i64 2, .int .u64 (n2.toNat : Int), .int .i64 8, .int .u64 (n3.toNat : Int), .int .i64 4, .int .u64 (n4.toNat : Int), .int .i64 8, .int .u64 (body.length : Int), .int .i64 2]) (.int .i64 5)).run Tryz.prog w = .ok (.agg #[.int .u64 (body.length : Int), .int .i64 2]) w := fun _ => by kernel_rfl
  go_enter Tryz.func122, Tryz.ntmps122
  go_wp2
  go_loopw [4, 6, 30] (fun v _ i wr => ∃ k : Nat, k ≤ 6 ∧ i = .int .i64 k ∧ wr.heap[w.heap.size]? = some (.cells #[Value.int IntKind.i64 (n0.toNat : Int), .int .u64 (n2.toNat : Int), .int .i64 (n3.toNat : Int), .int .u64 (n4.toNat : Int), .slice A body.length c] 157 (0, 0)) ∧ wr.ownsRow (w.heap.size + 1) 5 1 v (pre n0 n1 n2 n3 n4 n5 k).length ((pre n0 n1 n2 n3 n4 n5 k).map e8) ∧ Below w.heap.size w wr) (fun _ _ i _ => 6 - (intOf i).toNat)
  case atStart => exact ⟨0, by omega, rfl, heap_alloc_new w _, own_nil _ _ _ _, below_lit _ _⟩
  case round =>
    obtain ⟨k, hk, rfl, hB, own, bel⟩ := hrel
    have hlt := lt_of_block hB
    have hbs : w.heap.size + 1 ≤ wr.heap.size := hlt
    by_cases hk6 : k < 6
    · have hlk := hl k
      rcases (show k = 0 ∨ k = 1 ∨ k = 2 ∨ k = 3 ∨ k = 4 ∨ k = 5 by omega) with rfl | rfl | rfl | rfl | rfl | rfl
      · have hnx := Lib.hid (show pre n0 n1 n2 n3 n4 n5 1 = pre n0 n1 n2 n3 n4 n5 0 ++ putL n0.toNat 1 from rfl)
        obtain ⟨q, hq⟩ : ∃ q, q = pre n0 n1 n2 n3 n4 n5 0 := ⟨_, rfl⟩
        rw [← hq] at own hlk hnx
        clear hq
        go_wp2_with (first
          | (go_at_call 108; refine (Num.put_any n0 _ (by rfl) 1 _ (by rfl) (by omega) (by omega) _).mono ?_; rintro e wp ⟨Ap, cp, rfl, ownp, bp⟩; have own2 := own_on (own.alloc _) bp; have rdp := Rd.own ownp; have bpl := Num.putL_len n0.toNat 1; rw [bpl])
          | ((with_reducible show wpList _ _ _ (⟨some 39, _, _, _, _, _⟩ :: _) _ _); refine wpList_append_rd _ rfl (.tmp 33) (.tmp 38) _ rfl (w.heap.size + 1) 5 i0' _ 1 1 Tryz.underlying51 hi0 hz0 hz1 hz2 rfl (by omega) u4 q.length (q.map e8) rfl own2 _ Ap 1 cp ((putL n0.toNat 1).map e8) rfl (by simp [Num.putL_len]) rdp (e8_one _) (by simp only [maxLen]; omega) (by omega) (by have := bp.size; simp at this; omega) ?_; intro v1 w1 own1 hg1 hat1))
        go_roundw
        case rel => exact ⟨1, by omega, rfl, blk_grown ((bp.block _ (by simp; omega)).trans ((Below.heap_alloc wr _ _ hlt).trans hB)) (Nat.lt_of_lt_of_le (by simp; omega) bp.size) hg1 (fun z hz => by have := own_block own2 hz; omega), own_add own1 rfl (Num.putL_len _ _).symm hnx.out, (bt (bt bel (b1alloc _ _)) bp).grown hg1 (bt (bt bel (b1alloc _ _)) bp).size (fun z hz => by have := own_block own2 hz; omega)⟩
        case measure => simp [intOf]
      · have hnx := Lib.hid (show pre n0 n1 n2 n3 n4 n5 2 = pre n0 n1 n2 n3 n4 n5 1 ++ putL n1.toNat 2 from rfl)
        obtain ⟨q, hq⟩ : ∃ q, q = pre n0 n1 n2 n3 n4 n5 1 := ⟨_, rfl⟩
        rw [← hq] at own hlk hnx
        clear hq
        go_wp2_with (first
          | (go_at_call 108; refine (Num.put_any n1 _ (by rfl) 2 _ (by rfl) (by omega) (by omega) _).mono ?_; rintro e wp ⟨Ap, cp, rfl, ownp, bp⟩; have own2 := own_on (own.alloc _) bp; have rdp := Rd.own ownp; have bpl := Num.putL_len n1.toNat 2; rw [bpl])
          | ((with_reducible show wpList _ _ _ (⟨some 39, _, _, _, _, _⟩ :: _) _ _); refine wpList_append_rd _ rfl (.tmp 33) (.tmp 38) _ rfl (w.heap.size + 1) 5 i0' _ 1 1 Tryz.underlying51 hi0 hz0 hz1 hz2 rfl (by omega) u4 q.length (q.map e8) rfl own2 _ Ap 2 cp ((putL n1.toNat 2).map e8) rfl (by simp [Num.putL_len]) rdp (e8_one _) (by simp only [maxLen]; omega) (by omega) (by have := bp.size; simp at this; omega) ?_; intro v1 w1 own1 hg1 hat1))
        go_roundw
        case rel => exact ⟨2, by omega, rfl, blk_grown ((bp.block _ (by simp; omega)).trans ((Below.heap_alloc wr _ _ hlt).trans hB)) (Nat.lt_of_lt_of_le (by simp; omega) bp.size) hg1 (fun z hz => by have := own_block own2 hz; omega), own_add own1 rfl (Num.putL_len _ _).symm hnx.out, (bt (bt bel (b1alloc _ _)) bp).grown hg1 (bt (bt bel (b1alloc _ _)) bp).size (fun z hz => by have := own_block own2 hz; omega)⟩
        case measure => simp [intOf]
      · have hnx := Lib.hid (show pre n0 n1 n2 n3 n4 n5 3 = pre n0 n1 n2 n3 n4 n5 2 ++ putL n2.toNat 8 from rfl)
        obtain ⟨q, hq⟩ : ∃ q, q = pre n0 n1 n2 n3 n4 n5 2 := ⟨_, rfl⟩
        rw [← hq] at own hlk hnx
        clear hq
        go_wp2_with (first
          | (go_at_call 108; refine (Num.put_any n2 _ (by rfl) 8 _ (by rfl) (by omega) (by omega) _).mono ?_; rintro e wp ⟨Ap, cp, rfl, ownp, bp⟩; have own2 := own_on (own.alloc _) bp; have rdp := Rd.own ownp; have bpl := Num.putL_len n2.toNat 8; rw [bpl])
          | ((with_reducible show wpList _ _ _ (⟨some 39, _, _, _, _, _⟩ :: _) _ _); refine wpList_append_rd _ rfl (.tmp 33) (.tmp 38) _ rfl (w.heap.size + 1) 5 i0' _ 1 1 Tryz.underlying51 hi0 hz0 hz1 hz2 rfl (by omega) u4 q.length (q.map e8) rfl own2 _ Ap 8 cp ((putL n2.toNat 8).map e8) rfl (by simp [Num.putL_len]) rdp (e8_one _) (by simp only [maxLen]; omega) (by omega) (by have := bp.size; simp at this; omega) ?_; intro v1 w1 own1 hg1 hat1))
        go_roundw
        case rel => exact ⟨3, by omega, rfl, blk_grown ((bp.block _ (by simp; omega)).trans ((Below.heap_alloc wr _ _ hlt).trans hB)) (Nat.lt_of_lt_of_le (by simp; omega) bp.size) hg1 (fun z hz => by have := own_block own2 hz; omega), own_add own1 rfl (Num.putL_len _ _).symm hnx.out, (bt (bt bel (b1alloc _ _)) bp).grown hg1 (bt (bt bel (b1alloc _ _)) bp).size (fun z hz => by have := own_block own2 hz; omega)⟩
        case measure => simp [intOf]
      · have hnx := Lib.hid (show pre n0 n1 n2 n3 n4 n5 4 = pre n0 n1 n2 n3 n4 n5 3 ++ putL n3.toNat 4 from rfl)
        obtain ⟨q, hq⟩ : ∃ q, q = pre n0 n1 n2 n3 n4 n5 3 := ⟨_, rfl⟩
        rw [← hq] at own hlk hnx
        clear hq
        go_wp2_with (first
          | (go_at_call 108; refine (Num.put_any n3 _ (by rfl) 4 _ (by rfl) (by omega) (by omega) _).mono ?_; rintro e wp ⟨Ap, cp, rfl, ownp, bp⟩; have own2 := own_on (own.alloc _) bp; have rdp := Rd.own ownp; have bpl := Num.putL_len n3.toNat 4; rw [bpl])
          | ((with_reducible show wpList _ _ _ (⟨some 39, _, _, _, _, _⟩ :: _) _ _); refine wpList_append_rd _ rfl (.tmp 33) (.tmp 38) _ rfl (w.heap.size + 1) 5 i0' _ 1 1 Tryz.underlying51 hi0 hz0 hz1 hz2 rfl (by omega) u4 q.length (q.map e8) rfl own2 _ Ap 4 cp ((putL n3.toNat 4).map e8) rfl (by simp [Num.putL_len]) rdp (e8_one _) (by simp only [maxLen]; omega) (by omega) (by have := bp.size; simp at this; omega) ?_; intro v1 w1 own1 hg1 hat1))
        go_roundw
        case rel => exact ⟨4, by omega, rfl, blk_grown ((bp.block _ (by simp; omega)).trans ((Below.heap_alloc wr _ _ hlt).trans hB)) (Nat.lt_of_lt_of_le (by simp; omega) bp.size) hg1 (fun z hz => by have := own_block own2 hz; omega), own_add own1 rfl (Num.putL_len _ _).symm hnx.out, (bt (bt bel (b1alloc _ _)) bp).grown hg1 (bt (bt bel (b1alloc _ _)) bp).size (fun z hz => by have := own_block own2 hz; omega)⟩
        case measure => simp [intOf]
      · have hnx := Lib.hid (show pre n0 n1 n2 n3 n4 n5 5 = pre n0 n1 n2 n3 n4 n5 4 ++ putL n4.toNat 8 from rfl)
        obtain ⟨q, hq⟩ : ∃ q, q = pre n0 n1 n2 n3 n4 n5 4 := ⟨_, rfl⟩
        rw [← hq] at own hlk hnx
        clear hq
        go_wp2_with (first
          | (go_at_call 108; refine (Num.put_any n4 _ (by rfl) 8 _ (by rfl) (by omega) (by omega) _).mono ?_; rintro e wp ⟨Ap, cp, rfl, ownp, bp⟩; have own2 := own_on (own.alloc _) bp; have rdp := Rd.own ownp; have bpl := Num.putL_len n4.toNat 8; rw [bpl])
          | ((with_reducible show wpList _ _ _ (⟨some 39, _, _, _, _, _⟩ :: _) _ _); refine wpList_append_rd _ rfl (.tmp 33) (.tmp 38) _ rfl (w.heap.size + 1) 5 i0' _ 1 1 Tryz.underlying51 hi0 hz0 hz1 hz2 rfl (by omega) u4 q.length (q.map e8) rfl own2 _ Ap 8 cp ((putL n4.toNat 8).map e8) rfl (by simp [Num.putL_len]) rdp (e8_one _) (by simp only [maxLen]; omega) (by omega) (by have := bp.size; simp at this; omega) ?_; intro v1 w1 own1 hg1 hat1))
        go_roundw
        case rel => exact ⟨5, by omega, rfl, blk_grown ((bp.block _ (by simp; omega)).trans ((Below.heap_alloc wr _ _ hlt).trans hB)) (Nat.lt_of_lt_of_le (by simp; omega) bp.size) hg1 (fun z hz => by have := own_block own2 hz; omega), own_add own1 rfl (Num.putL_len _ _).symm hnx.out, (bt (bt bel (b1alloc _ _)) bp).grown hg1 (bt (bt bel (b1alloc _ _)) bp).size (fun z hz => by have := own_block own2 hz; omega)⟩
        case measure => simp [intOf]
      · have hnx := Lib.hid (show pre n0 n1 n2 n3 n4 n5 6 = pre n0 n1 n2 n3 n4 n5 5 ++ putL n5.toNat 2 from rfl)
        obtain ⟨q, hq⟩ : ∃ q, q = pre n0 n1 n2 n3 n4 n5 5 := ⟨_, rfl⟩
        rw [← hq] at own hlk hnx
        clear hq
        go_wp2_with (first
          | (go_at_call 108; refine (Num.put_any n5 _ E5.out 2 _ (by rfl) (by omega) (by omega) _).mono ?_; rintro e wp ⟨Ap, cp, rfl, ownp, bp⟩; have own2 := own_on (own.alloc _) bp; have rdp := Rd.own ownp; have bpl := Num.putL_len n5.toNat 2; rw [bpl])
          | ((with_reducible show wpList _ _ _ (⟨some 39, _, _, _, _, _⟩ :: _) _ _); refine wpList_append_rd _ rfl (.tmp 33) (.tmp 38) _ rfl (w.heap.size + 1) 5 i0' _ 1 1 Tryz.underlying51 hi0 hz0 hz1 hz2 rfl (by omega) u4 q.length (q.map e8) rfl own2 _ Ap 2 cp ((putL n5.toNat 2).map e8) rfl (by simp [Num.putL_len]) rdp (e8_one _) (by simp only [maxLen]; omega) (by omega) (by have := bp.size; simp at this; omega) ?_; intro v1 w1 own1 hg1 hat1))
        go_roundw
        case rel => exact ⟨6, by omega, rfl, blk_grown ((bp.block _ (by simp; omega)).trans ((Below.heap_alloc wr _ _ hlt).trans hB)) (Nat.lt_of_lt_of_le (by simp; omega) bp.size) hg1 (fun z hz => by have := own_block own2 hz; omega), own_add own1 rfl (Num.putL_len _ _).symm hnx.out, (bt (bt bel (b1alloc _ _)) bp).grown hg1 (bt (bt bel (b1alloc _ _)) bp).size (fun z hz => by have := own_block own2 hz; omega)⟩
        case measure => simp [intOf]
    · obtain rfl : k = 6 := by omega
      obtain ⟨c0, c1, c2, c3, c4, fr⟩ := five hB
      have hnx := Lib.hid (show pre n0 n1 n2 n3 n4 n5 6 = ((((putL n0.toNat 1 ++ putL n1.toNat 2) ++ putL n2.toNat 8) ++ putL n3.toNat 4) ++ putL n4.toNat 8) ++ putL n5.toNat 2 from rfl)
      have hlk := hl 6
      obtain ⟨q, hq⟩ : ∃ q, q = pre n0 n1 n2 n3 n4 n5 6 := ⟨_, rfl⟩
      rw [← hq] at own hlk
      have Hq := Lib.hid (hq.trans hnx.out)
      clear hq hnx
      have hp := fun A1 n d1 W hn h => Mac.npad_any A1 (q ++ body) n d1 504 504 (by rfl) W hn (by omega) (by omega) h
      obtain ⟨R, hR⟩ : ∃ R, R = padTo (q ++ body) 504 := ⟨_, rfl⟩
      rw [← hR] at hp
      have Hp := Lib.hid hp
      have HR := Lib.hid hR
      clear hR hp
      go_wp2_with (first
        | ((with_reducible show wpList _ _ _ (⟨some 44, _, _, _, _, _⟩ :: _) _ _); refine wpList_append_rd _ rfl (.tmp 41) (.tmp 43) _ rfl (w.heap.size + 1) 5 i0' _ 1 1 Tryz.underlying51 hi0 hz0 hz1 hz2 rfl (by omega) u4 q.length (q.map e8) rfl own _ A body.length c (body.map e8) rfl (by simp) (hr.below bel) (e8_one _) (by simp only [maxLen]; omega) (by omega) hbs ?_; intro v1 w1 own1 hg1 hat1; have own2 := own_add own1 rfl rfl rfl; have b1 := bel.grown hg1 bel.size (fun z hz => by have := own_block own hz; omega); obtain ⟨A1, d1, rfl⟩ := own_form own2)
        | (go_at_call 123; refine (Hp.out _ _ _ _ (by simp) (Rd.own own2)).mono ?_; rintro e wp ⟨Ap, cp, rfl, ownp, bp⟩))
      go_ret
      exact retB_eq (RetB.after b1 ownp bp) (by rw [HR.out, Hq.out])
/-- a struct lies in the first new block; behind it bytes are gathered -/
def Inv (w W : World) (xs : Array Value) (T : TypeId) (v : Value) (q : List UInt8) : Prop := W.heap[w.heap.size]? = some (.cells xs T (0, 0)) ∧ W.ownsRow (w.heap.size + 1) 5 1 v q.length (q.map e8) ∧ Below w.heap.size w W ∧ w.heap.size + 1 ≤ W.heap.size
theorem Inv.put {w W W' : World} {xs : Array Value} {T : TypeId} {v : Value} {q : List UInt8} (h : Inv w W xs T v q) (b : Below W.heap.size W W') : Inv w W' xs T v q :=
  ⟨(b.block _ (lt_of_block h.1)).trans h.1, own_on h.2.1 b, bt h.2.2.1 b, Nat.le_trans h.2.2.2 b.size⟩
theorem Inv.first {w W W' : World} {xs : Array Value} {T : TypeId} {v : Value} {q : List UInt8} (hB : W.heap[w.heap.size]? = some (.cells xs T (0, 0))) (o : W'.ownsRow W.heap.size 5 1 v q.length (q.map e8)) (b0 : Below w.heap.size w W) (hs : w.heap.size + 1 ≤ W.heap.size) (b : Below W.heap.size W W') : Inv w W' xs T v q :=
  ⟨(b.block _ (lt_of_block hB)).trans hB, own_base o hs, bt b0 b, Nat.le_trans hs b.size⟩
end Go.Proofs.YtchcmklelmlbgaaGreat.Sec

/- The walks of sector.read, with its taker, of the reference's number and Blank. -/
namespace Go.Proofs.YtchcmklelmlbgaaGreat.Sec
open Go.RowKit
open Go.Proofs.YtchcmklelmlbgaaGreat.Num (putL getN)
set_option linter.unusedVariables false
set_option maxRecDepth 100000
/-- a slice of bytes is taken off: its first ones as a number, the rest stays -/
theorem take_any (g : Nat) (b : Nat) (off : Nat) (l : List UInt8) (n c : Nat) (s : Nat) (z : Int) (hz : z = (s : Int)) (w : World) (hb : Box w g (.slice (some ⟨b, off, none⟩) n c)) (hn : n = l.length) (hr : Rd w w.heap.size (some ⟨b, off, none⟩) (l.map e8)) (hs : 1 ≤ s) (h8 : s ≤ 8) (hsl : s < l.length) (hc : n ≤ c) (hcm : c ≤ maxLen) :
    Calls Tryz.prog 137 #[.pointer (some ⟨g, 0, none⟩), .int .i64 z] w fun e w' => e = .returned (.int .u64 (getN (l.take s) : Int)) ∧ Box w' g (.slice (some ⟨b, off + s, none⟩) (n - s) (c - s)) ∧ w.grownBy w' (some g) := by
  subst hn hz
  have hc0 := hb.cell
  have hf0 := hb.free
  unfold maxLen at hcm
  have hr1 : Rd w w.heap.size (some ⟨b, off, none⟩) ((l.take s).map e8) := by rw [List.map_take]; exact hr.take s
  have hl1 : (l.take s).length = s := by rw [List.length_take]; omega
  have hg := Lib.hid (fun d => Num.get_any (some ⟨b, off, none⟩) (l.take s) s d w.heap.size w hl1.symm hr1 (by omega) (by omega))
  have hne : ¬ c = s := by omega
  clear hr hr1
  go_enter Tryz.func137, Tryz.ntmps137
  go_wp2_with (go_at_call 118; refine (hg.out _).mono ?_; rintro e w1 ⟨rfl, rfl⟩)
  go_ret
  exact ⟨rfl, hb.set _, grown_set _ _ _⟩
end Go.Proofs.YtchcmklelmlbgaaGreat.Sec

/- The walk of sector.read. -/
namespace Go.Proofs.YtchcmklelmlbgaaGreat.Sec
open Go.RowKit
open Go.Proofs.YtchcmklelmlbgaaGreat.Num (putL getN)
set_option linter.unusedVariables false
set_option maxRecDepth 100000
theorem getN_lt' (l : List UInt8) : getN l < 256 ^ l.length := by
  have := Num.getN_lt l l.length (Nat.le_refl _)
  rwa [List.take_length] at this
theorem ofN (n : Nat) (h : n < 18446744073709551616) : (UInt64.ofNat n).toNat = n := by rw [UInt64.toNat_ofNat']; exact Nat.mod_eq_of_lt h
/-- what the numbers of 512 bytes are -/
theorem nums {b : List UInt8} (h : 25 ≤ b.length) : (getN (cut b 0 1) : Int) ≤ 255 ∧ (getN (cut b 11 4) : Int) ≤ 4294967295 ∧ lenB b ≤ 65535 ∧ (ofB b).life.toNat = getN (cut b 3 8) ∧ (ofB b).gen.toNat = getN (cut b 15 8) ∧ (getN (cut b 3 8) : Int) ≤ 18446744073709551615 ∧ (getN (cut b 15 8) : Int) ≤ 18446744073709551615 := by
  have h0 := getN_lt' (cut b 0 1); rw [cut_len (by omega)] at h0
  have h1 := getN_lt' (cut b 11 4); rw [cut_len (by omega)] at h1
  have h2 := getN_lt' (cut b 23 2); rw [cut_len (by omega)] at h2
  have h3 := getN_lt' (cut b 3 8); rw [cut_len (by omega)] at h3
  have h4 := getN_lt' (cut b 15 8); rw [cut_len (by omega)] at h4
  simp only [Nat.reducePow] at h0 h1 h2 h3 h4
  refine ⟨by omega, by omega, by unfold lenB; omega, ofN _ h3, ofN _ h4, by omega, by omega⟩
theorem five5 {w : World} {g : Nat} {v0 v1 v2 v3 v4 : Value} (h : Blk w g [v0, v1, v2, v3, v4]) :
    w.cell? ⟨g, 0, none⟩ = some v0 ∧ w.cell? ⟨g, 1, none⟩ = some v1 ∧ w.cell? ⟨g, 2, none⟩ = some v2 ∧ w.cell? ⟨g, 3, none⟩ = some v3 ∧ w.cell? ⟨g, 4, none⟩ = some v4 ∧ ∀ o, w.frozen? ⟨g, o, none⟩ = false := h.elim fun _ h => five h
/-- while a sector is read: the struct in the first new block, the taker in the second -/
def Rk (w W : World) (b : List UInt8) (blk off c i : Nat) (xs : List Value) : Prop := Blk W w.heap.size xs ∧ Box W (w.heap.size + 1) (.slice (some ⟨blk, off + i, none⟩) (b.length - i) (c - i)) ∧ Below w.heap.size w W
theorem Rk.set {w W : World} {b : List UInt8} {blk off c i : Nat} {xs : List Value} (h : Rk w W b blk off c i xs) (k : Nat) (u : Value) : Rk w (W.setCell ⟨w.heap.size, k, none⟩ u) b blk off c i (xs.set k u) :=
  ⟨h.1.set u, h.2.1.keep (Keep.of_grown (fp := [w.heap.size]) (grown_set W ⟨w.heap.size, k, none⟩ u) (fun g e => by cases e; simp)) (by simp), bset_new h.2.2 k u⟩
/-- a sector comes back, its bytes the call's own, and something beside it -/
def RetX (x : X) (t : Value) (w : World) (e : Ending) (w' : World) : Prop := ∃ A c, e = .returned (.tuple #[xv x A c, t]) ∧ w'.ownsRow w.heap.size 5 1 (.slice A x.body.length c) x.body.length (x.body.map e8)
def X0 : X := ⟨0, 0, 0, 0, []⟩
theorem RetX.zero (t : Value) (w w' : World) : RetX X0 t w (.returned (.tuple #[.agg #[.int .i64 0, .int .u64 0, .int .i64 0, .int .u64 0, .slice none 0 0], t])) w' := ⟨none, 0, rfl, own_nil _ _ _ _⟩
theorem Rk.take {w W : World} {b : List UInt8} {blk off c i : Nat} {xs : List Value} (h : Rk w W b blk off c i xs) (hr : Rd w w.heap.size (some ⟨blk, off, none⟩) (b.map e8)) (s : Nat) (hs : 1 ≤ s) (h8 : s ≤ 8) (hb : i + s < b.length) (hc : b.length ≤ c) (hcm : c ≤ maxLen) :
    Calls Tryz.prog 137 #[.pointer (some ⟨w.heap.size + 1, 0, none⟩), .int .i64 (s : Int)] W fun e W' => e = .returned (.int .u64 (getN (cut b i s) : Int)) ∧ Rk w W' b blk off c (i + s) xs := by
  have hr2 : Rd W W.heap.size (some ⟨blk, off + i, none⟩) ((b.drop i).map e8) := by
    have := ((hr.below h.2.2).more h.2.2.size).drop i
    rw [← List.map_drop] at this
    simpa [Addr.add_lit] using this
  refine (take_any (w.heap.size + 1) blk (off + i) (b.drop i) (b.length - i) (c - i) s _ rfl W h.2.1 (by simp) hr2 hs h8 (by simp; omega) (by omega) (by omega)).mono ?_
  rintro e W' ⟨rfl, h1, h2⟩
  refine ⟨rfl, ?_, ?_, ?_⟩
  · exact h.1.grown h2 (by simp)
  · rw [Nat.add_assoc, Nat.sub_sub, Nat.sub_sub] at h1; exact h1
  · exact h.2.2.grown h2 h.2.2.size (fun z hz => by injection hz with hz; omega)
set_option maxHeartbeats 800000 in
theorem read_any (blk off : Nat) (b : List UInt8) (n c : Nat) (w : World) (hn : n = b.length) (hr : Rd w w.heap.size (some ⟨blk, off, none⟩) (b.map e8)) (h5 : 512 ≤ b.length) (hc : n ≤ c) (hcm : c ≤ maxLen) :
    Calls Tryz.prog 128 #[.slice (some ⟨blk, off, none⟩) n c] w fun e w' => (if lenB b ≤ 479 then RetX (ofB b) (.bool true) w e w' else RetX X0 (.bool false) w e w') ∧ Below w.heap.size w w' := by
  subst hn
  obtain ⟨g0, g11, gl, e3, e15, g3, g15⟩ := nums (b := b) (by omega)
  have T : ∀ W i xs, Rk w W b blk off c i xs → ∀ s i', i + s = i' → 1 ≤ s → s ≤ 8 → i + s < b.length → Calls Tryz.prog 137 #[.pointer (some ⟨w.heap.size + 1, 0, none⟩), .int .i64 (s : Int)] W fun e W' => e = .returned (.int .u64 (getN (cut b i s) : Int)) ∧ Rk w W' b blk off c i' xs := fun W i xs h s i' hi h1 h2 h3 => by subst hi; exact Rk.take h hr s h1 h2 h3 hc hcm
  obtain ⟨k0, hk0⟩ : ∃ k, k = getN (cut b 0 1) := ⟨_, rfl⟩
  obtain ⟨k11, hk11⟩ : ∃ k, k = getN (cut b 11 4) := ⟨_, rfl⟩
  obtain ⟨k3, hk3⟩ : ∃ k, k = getN (cut b 3 8) := ⟨_, rfl⟩
  obtain ⟨k15, hk15⟩ : ∃ k, k = getN (cut b 15 8) := ⟨_, rfl⟩
  obtain ⟨m, hm⟩ : ∃ k, k = lenB b := ⟨_, rfl⟩
  rw [← hk0] at g0; rw [← hk11] at g11; rw [← hk3] at g3 e3; rw [← hk15] at g15 e15; rw [← hm] at gl ⊢
  have hbl : (ofB b).body.length = lenB b ∨ 479 < lenB b := by
    by_cases h : lenB b ≤ 479
    · left; exact cut_len (by omega)
    · right; omega
  have hxv := fun A c' (h : m ≤ 479) => show xv (ofB b) A c' = .agg #[.int .i64 (k0 : Int), .int .u64 (k3 : Int), .int .i64 (k11 : Int), .int .u64 (k15 : Int), .slice A m c'] by
    have : (ofB b).body.length = m := by omega
    unfold xv
    rw [e3, e15, this, hk0, hk11]; rfl
  have Hx := Lib.hid hxv
  have H0 := Lib.hid hk0
  have H3 := Lib.hid hk3
  have H11 := Lib.hid hk11
  have H15 := Lib.hid hk15
  have Hm := Lib.hid hm
  have hown : m ≤ 479 → ∀ (W : World) (A : Option Addr) (d : Nat), W.ownsRow w.heap.size 5 1 (.slice A m d) m ((cut b 25 m).map e8) → W.ownsRow w.heap.size 5 1 (.slice A (ofB b).body.length d) (ofB b).body.length ((ofB b).body.map e8) := fun h W A d ho => by
    have e1 : (ofB b).body.length = m := by omega
    rw [e1, show (ofB b).body = cut b 25 m by rw [hm]; rfl]; exact ho
  have Hown := Lib.hid hown
  clear hown hxv hk0 hk3 hk11 hk15 hm e3 e15 hbl
  have I : Rk w ((w.alloc (.cells #[.int .i64 0, .int .u64 0, .int .i64 0, .int .u64 0, .slice none 0 0] 157)).alloc (.cells #[.slice (some ⟨blk, off, none⟩) b.length c] 206)) b blk off c 0 [.int .i64 0, .int .u64 0, .int .i64 0, .int .u64 0, .slice none 0 0] :=
    ⟨(Blk.new w [.int .i64 0, .int .u64 0, .int .i64 0, .int .u64 0, .slice none 0 0] 157).alloc _, by simpa using Box.new (w.alloc (.cells #[.int .i64 0, .int .u64 0, .int .i64 0, .int .u64 0, .slice none 0 0] 157)) 206 (.slice (some ⟨blk, off, none⟩) b.length c), b2alloc _ _ _⟩
  have hmf : ∀ (g : Nat) (w : World), Sem.run Tryz.prog (callFunc 137 #[.pointer (some ⟨g, 0, none⟩)]) w = .ok (.enter 137 #[.pointer (some ⟨g, 0, none⟩)]) w := by intro g w; simp [go_sem]
  go_enter Tryz.func128, Tryz.ntmps128
  go_wp2_with fail
  refine (T _ _ _ I 1 1 rfl (by omega) (by omega) (by omega)).mono ?_
  rintro e w1 ⟨rfl, I1⟩
  rw [← H0.out]
  obtain ⟨c0, c1, c2, c3, c4, fr⟩ := five5 I1.1
  go_wp2_with fail
  refine (T _ _ _ (I1.set 0 _) 2 3 rfl (by omega) (by omega) (by omega)).mono ?_
  rintro e w2 ⟨rfl, I2⟩
  go_wp2_with fail
  refine (T _ _ _ I2 8 11 rfl (by omega) (by omega) (by omega)).mono ?_
  rintro e w3 ⟨rfl, I3⟩
  rw [← H3.out]
  go_wp2_with fail
  refine (T _ _ _ I3 4 15 rfl (by omega) (by omega) (by omega)).mono ?_
  rintro e w4 ⟨rfl, I4⟩
  rw [← H11.out]
  clear c0 c1 c2 c3 c4 fr
  go_wp2_with fail
  refine (T _ _ _ I4 8 23 rfl (by omega) (by omega) (by omega)).mono ?_
  rintro e w5 ⟨rfl, I5⟩
  rw [← H15.out]
  obtain ⟨c0, c1, c2, c3, c4, fr⟩ := five5 I5.1
  go_wp2_with fail
  refine (T _ _ _ (((I5.set 1 _).set 2 _).set 3 _) 2 25 rfl (by omega) (by omega) (by omega)).mono ?_
  rintro e w6 ⟨rfl, I6⟩
  rw [show getN (cut b 23 2) = m from Hm.out.symm]
  clear c0 c1 c2 c3 c4 fr
  obtain ⟨c0, c1, c2, c3, c4, fr⟩ := five5 I6.1
  by_cases hm : m ≤ 479
  · have hb6 := I6.2.1.cell
    have hrr : Rd w6 w6.heap.size (some ⟨blk, off + 25, none⟩) ((cut b 25 m).map e8) := by
      have := (((hr.below I6.2.2).more I6.2.2.size).drop 25).take m
      rw [← List.map_drop, ← List.map_take] at this
      simpa [Addr.add_lit, cut] using this
    have hlen : m = (cut b 25 m).length := (cut_len (by omega)).symm
    have hcl := fun d => Sl.clone_any (some ⟨blk, off + 25, none⟩) (cut b 25 m) m d w6 hlen hrr (by rw [← hlen]; omega)
    have Hcl := Lib.hid hcl
    have hln := Lib.hid hlen
    clear hcl hlen
    unfold maxLen at hcm
    go_wp2_with fail
    refine (Hcl.out _).mono ?_
    rintro e w7 ⟨A7, d7, rfl, own7, b7⟩
    rw [← hln.out]
    clear c0 c1 c2 c3 c4 fr hb6
    have B7 := I6.1.on b7
    have bw7 := bt I6.2.2 b7
    obtain ⟨c0, c1, c2, c3, c4, fr⟩ := five5 B7
    have rd7 := Rd.own own7
    have B8 := B7.set (k := 4) (.slice A7 m d7)
    obtain ⟨y0, y1, y2, y3, y4, yf⟩ := five5 B8
    have hs6 : w.heap.size < w6.heap.size := I6.1.lt
    go_wp2_with fail
    have B9 := ((((B8.set (k := 0) (.int .i64 (k0 : Int))).set (k := 1) (.int .u64 (k3 : Int))).set (k := 2) (.int .i64 (k11 : Int))).set (k := 3) (.int .u64 (k15 : Int))).set (k := 4) (.slice A7 m d7)
    obtain ⟨z0, z1, z2, z3, z4, zf⟩ := five5 B9
    have k9 : Keep [w.heap.size] w7 ((((((w7.setCell ⟨w.heap.size, 4, none⟩ (.slice A7 m d7)).setCell ⟨w.heap.size, 0, none⟩ (.int .i64 (k0 : Int))).setCell ⟨w.heap.size, 1, none⟩ (.int .u64 (k3 : Int))).setCell ⟨w.heap.size, 2, none⟩ (.int .i64 (k11 : Int))).setCell ⟨w.heap.size, 3, none⟩ (.int .u64 (k15 : Int))).setCell ⟨w.heap.size, 4, none⟩ (.slice A7 m d7)) :=
      (((((((Keep.refl _ _).set (p := ⟨w.heap.size, 4, none⟩) (.inl (by simp)) _).set (p := ⟨w.heap.size, 0, none⟩) (.inl (by simp)) _).set (p := ⟨w.heap.size, 1, none⟩) (.inl (by simp)) _).set (p := ⟨w.heap.size, 2, none⟩) (.inl (by simp)) _).set (p := ⟨w.heap.size, 3, none⟩) (.inl (by simp)) _).set (p := ⟨w.heap.size, 4, none⟩) (.inl (by simp)) _)
    rw [← hln.out] at own7
    have own9' := own_keep own7 k9 (fun g hg e => by have := own_block own7 hg; simp at e; omega)
    refine bodyPost_ret (v := .tuple #[.agg #[.int .i64 (k0 : Int), .int .u64 (k3 : Int), .int .i64 (k11 : Int), .int .u64 (k15 : Int), .slice A7 m d7], .bool true]) (by simp [results, Tryz.results128, go_sem, z0, z1, z2, z3, z4]) rfl ?_
    refine ⟨⟨A7, d7, by rw [Hx.out _ _ hm], Hown.out hm _ _ _ (own_base own9' I6.2.2.size)⟩, bset_new (bset_new (bset_new (bset_new (bset_new (bset_new bw7 _ _) _ _) _ _) _ _) _ _) _ _⟩
  · have h479 : 479 < m := by omega
    go_wp2
    have B := ((((I6.1.set (k := 0) (.int .i64 0)).set (k := 1) (.int .u64 0)).set (k := 2) (.int .i64 0)).set (k := 3) (.int .u64 0)).set (k := 4) (.slice none 0 0)
    obtain ⟨z0, z1, z2, z3, z4, zf⟩ := five5 B
    refine bodyPost_ret (v := .tuple #[.agg #[.int .i64 0, .int .u64 0, .int .i64 0, .int .u64 0, .slice none 0 0], .bool false]) (by simp [results, Tryz.results128, go_sem, z0, z1, z2, z3, z4]) rfl ?_
    exact ⟨RetX.zero _ _ _, bset_new (bset_new (bset_new (bset_new (bset_new I6.2.2 _ _) _ _) _ _) _ _) _ _⟩
end Go.Proofs.YtchcmklelmlbgaaGreat.Sec

/- The walk of the reference's Of. -/
namespace Go.Proofs.YtchcmklelmlbgaaGreat.Sec
open Go.RowKit
open Go.Proofs.YtchcmklelmlbgaaGreat.Num (putL getN)
set_option linter.unusedVariables false
set_option maxRecDepth 100000
/-- a sector comes back, its bytes readable, and something beside it -/
def RetY (x : X) (t : Value) (e : Ending) (w' : World) : Prop := ∃ A c, e = .returned (.tuple #[xv x A c, t]) ∧ Rd w' w'.heap.size A (x.body.map e8)
theorem RetY.zero (t : Value) (w' : World) : RetY X0 t (.returned (.tuple #[.agg #[.int .i64 0, .int .u64 0, .int .i64 0, .int .u64 0, .slice none 0 0], t])) w' := ⟨none, 0, rfl, Rd.nil _ _ _⟩
theorem bset5 {B g : Nat} {a W : World} {v0 v1 v2 v3 v4 : Value} (h : Below B a W) (hB : B ≤ g) : Below B a (((((W.setCell ⟨g, 0, none⟩ v0).setCell ⟨g, 1, none⟩ v1).setCell ⟨g, 2, none⟩ v2).setCell ⟨g, 3, none⟩ v3).setCell ⟨g, 4, none⟩ v4) := bset (bset (bset (bset (bset h hB _) hB _) hB _) hB _) hB _
theorem reads_no {p : Int} {b : List UInt8} (h : 479 < lenB b) : reads p b = none := if_neg (by omega)
theorem reads_bad {p : Int} {b : List UInt8} (h : rightF p (ofB b) ≠ 0) : reads p b = none := if_neg (fun e => h e.2.1)
theorem reads_un {p : Int} {b : List UInt8} (h : text p (ofB b) ≠ b) : reads p b = none := if_neg (fun e => h e.2.2)
theorem reads_yes {p : Int} {b : List UInt8} (h0 : lenB b ≤ 479) (h1 : rightF p (ofB b) = 0) (h : text p (ofB b) = b) : reads p b = some (ofB b) := if_pos ⟨h0, h1, h⟩
end Go.Proofs.YtchcmklelmlbgaaGreat.Sec

/- The suite of real sums: New, Real, none, real, Sum, Check. -/
namespace Go.Proofs.YtchcmklelmlbgaaGreat.Sec
open Go.RowKit
open Go.Proofs.YtchcmklelmlbgaaGreat.Num (putL getN)
set_option linter.unusedVariables false
set_option maxRecDepth 100000
theorem three {w : World} {g : Nat} {v0 v1 v2 : Value} {t : TypeId} (h : w.heap[g]? = some (.cells #[v0, v1, v2] t (0, 0))) : w.cell? ⟨g, 0, none⟩ = some v0 ∧ w.cell? ⟨g, 1, none⟩ = some v1 ∧ w.cell? ⟨g, 2, none⟩ = some v2 := by
  refine ⟨?_, ?_, ?_⟩ <;> simp [World.cell?, h]
/-- a suite of real sums lies at block g -/
def RealAt (w : World) (g : Nat) : Prop := ∃ k, w.heap[g]? = some (.cells #[.pointer none, .map none, .pointer (some ⟨k, 0, none⟩)] 86 (0, 0))
theorem RealAt.on {w w' : World} {g : Nat} (h : RealAt w g) (b : Below w.heap.size w w') : RealAt w' g := h.elim fun k h => ⟨k, (b.block g (lt_of_block h)).trans h⟩
theorem RealAt.lt {w : World} {g : Nat} (h : RealAt w g) : g < w.heap.size := h.elim fun k h => lt_of_block h
end Go.Proofs.YtchcmklelmlbgaaGreat.Sec
