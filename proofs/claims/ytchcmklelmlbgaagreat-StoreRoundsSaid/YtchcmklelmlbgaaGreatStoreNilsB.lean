/- Texts of this claim, joined: Disk6, Disk7, Disk8, Slices, Disk9, Disk10, Chunk, Back, DiskR, Arr2, NumPlain, ShaPlain, MacPlain, Str, Ref01, Mac1, Num, SecPlain, CrcPlain, Crc, CrcRef, Sec1, Sec2, Sec3. -/
import Derived.Test.YtchcmklelmlbgaaGreatStoreNilsA
import Derived.Laws.IdiomCopy
import Derived.Test.YtchcmklelmlbgaaGreatRows
import Derived.Outline
import Derived.WalkSpells
import Derived.RangeFuncNested
import Derived.RangeFuncBound
import Derived.RangeFuncCalls
import Derived.RangeFuncLeaves
import Derived.RangeFuncBox
import Derived.Shelf.Abstract
import Derived.Shelf.RegionOpen
import Derived.WalkKit
import Derived.OwnWalkIn
import Derived.TacticsInMore
import Derived.LoopNIn
import Derived.LoopIn
import Derived.Sort.QuietIn
import Derived.BigFrameIn
import Derived.WalkMore
import Derived.ScopeJumps
import Derived.Deep.Quiet
import Derived.Laws.IdiomStrings
import Derived.Lib.ConvBytes
import Derived.Deep.QuietTactic
import Derived.BigQuiet
import Derived.Lib.MakeNoZero
import Derived.Laws.Entries
import Derived.Deep.DeepMust
/- The walk of disk.Flush. -/
namespace Go.Proofs.YtchcmklelmlbgaaGreat.Disk
open Go.RowKit
set_option linter.unusedVariables false
set_option maxRecDepth 100000

theorem Lies.clear {w : World} {g : Nat} {fp : List Nat} {s : St} {vk vp va : Value} {acs : List Value} (h : Lies w g fp s vk vp va acs) : Lies (w.setCell ⟨g, 1, none⟩ (.slice none 0 0)) g fp { s with pend := [] } vk (.slice none 0 0) va acs ∧ Keep [g] w (w.setCell ⟨g, 1, none⟩ (.slice none 0 0)) := by
  have k := keep_set w g 1 (.slice none 0 0)
  have hK := own_type h.kept h.blk (by decide)
  have hA := own_type h.all h.blk (by decide)
  refine ⟨⟨by simp [World.setCell, Array.getElem?_modify, h.blk], ?_, own_nil _ _ _ _, ?_, ?_, h.inG, h.inK, fun j hj => by simp [Value.ownBlock] at hj, h.inA, fun j hj => Nat.lt_of_lt_of_le (h.lt j hj) k.size, ⟨h.ok.size, (by intro x hx; cases hx), h.ok.all, h.ok.fuse⟩⟩, k⟩
  · exact own_keep h.kept k (fun j hj e => by rw [List.mem_singleton] at e; subst e; exact hK hj)
  · exact own_keep h.all k (fun j hj e => by rw [List.mem_singleton] at e; subst e; exact hA hj)
  · intro i hi
    obtain ⟨b, c, h1, h2, h3, h4, h5⟩ := h.told i hi
    refine ⟨b, c, h1, h2, (k.block (h.lt b h4) ?_).trans h3, h4, h5⟩
    intro e
    rw [List.mem_singleton] at e
    subst e
    have := h.blk
    unfold BlkT at h3
    rw [h3] at this
    injection this with this
    injection this with e1 e2 e3
    exact absurd e2 (by decide)
theorem pend_range {w : World} {g : Nat} {fp : List Nat} {s : St} {vk va : Value} {acs : List Value} {gp cp : Nat} (h : Lies w g fp s vk (.slice (some ⟨gp, 0, none⟩) s.pend.length cp) va acs) (k : Nat) (hk : k < s.pend.length) :
    w.rangeAt gp (k * 513) (wcells s.pend[k]) := own_range h.pend (fun j hj => by
  have hl := (h.ok.pend _ (List.getElem_mem hk)).2
  rw [wcells_len hl] at hj
  exact flat_at wcells 513 s.pend (fun x hx => wcells_len (h.ok.pend x hx).2) k j hk hj)
theorem zeroW (w : World) : (zeroValue 115).run Tryz.prog w = .ok (arrV (wcells (0, zero512))) w := by kernel_rfl
theorem wcells_szW {x : Wr} (h : x.2.length = 512) : (Tryz.prog.info? 115).map (·.size) = some (wcells x).length := by rw [wcells_len h]; exact szW
theorem blk_bytes {w : World} {b : Nat} {x : Wr} (h : Blk w b (wcells x)) : w.rangeAt b 1 (x.2.map e8) := fun j v hv => by
  obtain ⟨hj, rfl⟩ := List.getElem?_eq_some_iff.1 hv
  have := h.cell (k := 1 + j) (by simp [wcells]; simp at hj; omega)
  rw [this]
  simp only [wcells, Nat.add_comm 1 j, List.getElem_cons_succ]
/-- a disk that keeps more of what is pending -/
def more (s : St) (k : Nat) : St := { s with all := s.all ++ s.pend.take k }
theorem more_zero (s : St) : more s 0 = s := by simp [more]
theorem more_succ (s : St) (k : Nat) (h : k < s.pend.length) : { more s k with all := (more s k).all ++ [(s.pend[k].1, s.pend[k].2)] } = more s (k + 1) := by
  simp only [more, List.append_assoc, List.take_succ_eq_append_getElem h]
theorem more_sz (s : St) (k : Nat) : (more s k).sz ≤ 2 * s.sz := by
  unfold St.sz more
  simp only [List.length_append, List.length_take]
  omega
set_option maxHeartbeats 2000000 in
theorem flush_any (g : Nat) (fp : List Nat) (s : St) (w : World) (h : DAt w g fp s) (hs : s.sz ≤ 100000000) : Calls Tryz.prog 75 #[.pointer (some ⟨g, 0, none⟩)] w (Did w g fp (flush s)) := by
  obtain ⟨vk, vp, va, acs, hL⟩ := h
  obtain ⟨_, _, _, _, _, c5, fr⟩ := six hL.blk
  cases hd : s.down with
  | true =>
    have hw : flush s = (s, 12) := by unfold flush; rw [if_pos hd]
    rw [hw]
    have fin := Lib.hid (show Did w g fp (s, 12) (.returned (.int .i64 12)) w from Did.same ⟨_, _, _, _, hL⟩ rfl)
    rw [hd] at c5
    clear hw hd hL
    go_enter Tryz.func75, Tryz.ntmps75
    go_wp2
    go_ret
    exact fin.out
  | false =>
    have hbu := burn_any g fp s vk vp va acs w hL (by omega)
    rw [hd] at c5
    by_cases hb : (burn s).2 = 0
    · have hw : flush s = ({ (burn s).1 with all := s.all ++ s.pend, pend := [] }, 0) := by unfold flush; rw [if_neg (by simp [hd]), if_pos hb]
      rw [hw]
      rw [hb] at hbu
      have Hbu := Lib.hid hbu
      obtain ⟨s1, hs1⟩ : ∃ s1, s1 = (burn s).1 := ⟨_, rfl⟩
      have hbl := burn_lists s
      have hsz1 : s1.sz ≤ 100000001 := by rw [hs1, sz_burn]; omega
      have hpb : s1.pend.length ≤ 100000001 := by unfold St.sz at hsz1; omega
      rw [← hs1] at Hbu ⊢
      have hst : ({ s1 with all := s.all ++ s.pend, pend := [] } : St) = { more s1 s1.pend.length with pend := [] } := by
        rw [more, List.take_length, hs1, hbl.1, hbl.2.1]
      rw [hst]
      clear hw hd hb hbu hs1 hbl hst hs hL
      go_enter Tryz.func75, Tryz.ntmps75
      go_wp2_with fail
      refine Hbu.out.mono ?_
      rintro e w1 ⟨rfl, hL1, k1⟩
      obtain ⟨_, d1, _, _, _, _, fr1⟩ := six hL1.blk
      obtain ⟨Ap, cp, rfl⟩ := own_form hL1.pend
      go_wp2_with fail
      go_loopw [24] (fun i wr => ∃ k : Nat, k ≤ s1.pend.length ∧ i = .int .i64 k ∧ ∃ fpk vak acsk, Lies wr g fpk (more s1 k) vk (.slice Ap s1.pend.length cp) vak acsk ∧ Keep fp w1 wr ∧ Fresh w1 fp fpk) (fun i _ => s1.pend.length - (intOf i).toNat)
      case atStart => exact ⟨0, by omega, rfl, fp, va, acs, by rw [more_zero]; exact hL1, Keep.refl _ _, Fresh.refl _ _⟩
      case round =>
        obtain ⟨k, hk, rfl, fpk, vak, acsk, hLk, kk, fk⟩ := hrel
        by_cases hlt : k < s1.pend.length
        · obtain ⟨gp, cp', e0, _⟩ := own_some hLk.pend (by show 0 < s1.pend.length; omega)
          obtain ⟨rfl, _, rfl⟩ : Ap = some ⟨gp, 0, none⟩ ∧ s1.pend.length = s1.pend.length ∧ cp = cp' := by injection e0 with e1 e2 e3; exact ⟨e1, rfl, e3⟩
          have hrg := pend_range hLk k hlt
          have hms := Lib.hid (more_succ s1 k hlt)
          have hok := hLk.ok.pend _ (List.getElem_mem hlt)
          simp only [more] at hrg hok
          obtain ⟨x, hx⟩ : ∃ x, x = s1.pend[k] := ⟨_, rfl⟩
          rw [← hx] at hrg hms hok
          have hszw := wcells_szW hok.2
          have huw := Tryz.underlying115
          have hub := Tryz.underlying113
          have hszb := szBl hok.2
          have hxl := wcells_len hok.2
          have hszm : (more s1 k).sz ≤ 1000000000 := by have := more_sz s1 k; omega
          have hpk : x.1 < (more s1 k).size := hok.1
          have hok2 := hok.2
          clear hx e0
          go_wp2_with (first
            | ((with_reducible show wpList _ _ _ (⟨some 27, _, _, _, _, _⟩ :: _) _ _); refine wpList_load_mid rfl _ _ rfl gp (k * 513) rfl (wcells x) _ hrg huw rfl hszw ?_)
            | ((with_reducible show wpList _ _ _ (⟨some 5, _, _, _, _, _⟩ :: _) _ _); refine wpList_allocN rfl _ rfl (wcells (0, zero512)) zeroW ?_; intro w2 hb2 bw2 hs2)
            | ((with_reducible show wpList _ _ _ (⟨none, .store 115 (.tmp 5) _, _, _, _, _⟩ :: _) _ _); refine wpList_storeN rfl _ _ _ rfl rfl (ys := wcells x) rfl hb2 (by rw [hxl, wcells_len (by rfl)]) (wcells_one _) hszw ?_; intro w3 hb3 hg3; have hq0 := hb3.cell (k := 0) (by rw [hxl]; omega); have hq1 := blk_bytes hb3)
            | ((with_reducible show wpList _ _ _ (⟨some 32, _, _, _, _, _⟩ :: _) _ _); refine wpList_load_mid rfl _ _ rfl wr.heap.size 1 rfl (x.2.map e8) _ hq1 hub rfl hszb ?_))
          have b3 := below_row bw2 hg3 (Nat.le_refl _) bw2.size
          refine (keep_any g fpk (more s1 k) vk _ vak acsk x.1 x.2 w3 (hLk.on b3) hszm hpk hok2).mono ?_
          rintro e w4 ⟨rfl, fp4, va4, acs4, hL4, k4, f4⟩
          rw [hms.out] at hL4
          have k5 := (kk.trans (Keep.of_below b3 fp) (Fresh.refl _ _)).trans k4 fk
          have f5 := fk.trans (Nat.le_trans kk.size b3.size) f4
          clear k4 f4 hb2 hb3 hg3 bw2 b3 hq0 hq1 hLk
          go_wp2
          go_roundw
          case rel => exact ⟨k + 1, by omega, by go_num, fp4, va4, acs4, hL4, k5, f5⟩
          case measure => simp [intOf]; omega
        · obtain rfl : k = s1.pend.length := by omega
          obtain ⟨_, e1, _, _, _, _, fr2⟩ := six hLk.blk
          have fr21 := fr2 1
          have hcl := hLk.clear
          have fin := Lib.hid (show Did w g fp ({ more s1 s1.pend.length with pend := [] }, 0) (.returned (.int .i64 0)) (wr.setCell ⟨g, 1, none⟩ (.slice none 0 0)) from
            ⟨rfl, fpk, ⟨_, _, _, _, hcl.1⟩, ((k1.more (fun j hj => by rw [List.mem_singleton] at hj; subst hj; exact hL1.inG)).trans kk (Fresh.refl _ _)).trans (hcl.2.more (fun j hj => by rw [List.mem_singleton] at hj; subst hj; exact hL1.inG)) (Fresh.refl _ _), fun j hj => (fk j hj).imp id (fun h => Nat.le_trans k1.size h)⟩)
          clear hcl hLk kk fk k1 hL1
          go_wp2
          go_ret
          exact fin.out
    · have hw : flush s = burn s := by unfold flush; rw [if_neg (by simp [hd]), if_neg hb]
      rw [hw]
      have hne := bne_yes hb
      have Hbu := Lib.hid hbu
      clear hw hd hb hbu hL
      go_enter Tryz.func75, Tryz.ntmps75
      go_wp2_with fail
      refine Hbu.out.mono ?_
      rintro e w1 ⟨rfl, hL1, k1⟩
      have fin := Lib.hid (show Did w g fp (burn s) _ w1 from ⟨rfl, fp, ⟨_, _, _, _, hL1⟩, k1.more (fun j hj => by rw [List.mem_singleton] at hj; subst hj; exact hL1.inG), Fresh.refl _ _⟩)
      clear hL1 k1
      go_wp2
      go_ret
      exact fin.out
end Go.Proofs.YtchcmklelmlbgaaGreat.Disk

/- The walk of disk.Restart. -/
namespace Go.Proofs.YtchcmklelmlbgaaGreat.Disk
open Go.RowKit
set_option linter.unusedVariables false
set_option maxRecDepth 100000

section
variable {P : Program} {ops : Array Oper} {ws : List World} {chain : List Nat} {lo : List (Nat × Nat × Nat)}
/-- a new variable -/
theorem wpPs_alloc {Q : Act → Prop} {a : Act} {o : Oper} {rest : List Oper} {k i : Nat} (hg : o.guard = none) (hc : chain.contains k = true) (hi : ix chain k = i) (t : TypeId) (ho : o.op = .alloc t) (w : World) (xs : List Value) (hz : ∀ w, (zeroValue t).run P w = .ok (arrV xs) w)
    (hw : ws[i]? = some w) (hw' : ws[i + 1]? = some (w.alloc (.cells xs.toArray t))) (hK : wpPs P ops ws chain lo Q (k + 1) rest (a.put o.dst (.pointer (some ⟨w.heap.size, 0, none⟩)))) : wpPs P ops ws chain lo Q k (o :: rest) a :=
  wpPs_turn hg hc hi _ w _ hw hw' (.inl (by
    unfold execOp
    simp only [ho]
    simp [Instr.alloc, hz, go_sem, arrV])) hK
/-- a whole variable is stored -/
theorem wpPs_storeA {Q : Act → Prop} {a : Act} {o : Oper} {rest : List Oper} {k i : Nat} (hg : o.guard = none) (hc : chain.contains k = true) (hi : ix chain k = i) (t : TypeId) (x y : Operand) (ho : o.op = .store t x y) (w : World) {g : Nat} (hx : a.eval x = .pointer (some ⟨g, 0, none⟩)) {xs ys : List Value} (hy : a.eval y = arrV ys)
    (hb : Blk w g xs) (hl : xs.length = ys.length) (h1 : ∀ v ∈ ys, v.oneCell' = true) (hsz : (P.info? t).map (·.size) = some ys.length)
    (hw : ws[i]? = some w) (hw' : ws[i + 1]? = some (w.setRow g ys.toArray)) (hd : o.dst = none) (hK : wpPs P ops ws chain lo Q (k + 1) rest a) : wpPs P ops ws chain lo Q k (o :: rest) a := by
  have h : ((execOp a.eval o).run P w = .ok (.value undef) (w.setRow g ys.toArray) ∨ (undef = undef ∧ (execOp a.eval o).run P w = .ok .skip (w.setRow g ys.toArray))) := by
    obtain ⟨t', hb⟩ := hb
    have := run_storeVar_row (P := P) w g t' t _ ys.toArray hb (by simpa using hsz) (by simpa using hl) (by simpa using h1)
    unfold execOp
    simp only [ho, hx, hy]
    first
      | (left; simp [Instr.storeAt, Instr.sureAddr, this, arrV]; done)
      | (right; refine ⟨by trivial, ?_⟩; simp [Instr.storeAt, Instr.sureAddr, this, arrV]; done)
  exact wpPs_turn hg hc hi undef w _ hw hw' h (by rw [hd]; exact hK)
/-- copy, by its run -/
theorem wpPs_copy {Q : Act → Prop} {a : Act} {o : Oper} {rest : List Oper} {k i : Nat} (hg : o.guard = none) (hc : chain.contains k = true) (hi : ix chain k = i) (s x : Operand) (t t' : TypeId) (ho : o.op = .call { callee := .builtin .copy, args := #[s, x], argTypes := #[t, t'] }) (w w' : World) (v0 v1 v : Value)
    (hs : a.eval s = v0) (hx : a.eval x = v1) (hw : ws[i]? = some w) (hw' : ws[i + 1]? = some w') (h : (Builtin.copy_ #[t, t'] o.type #[v0, v1]).run P w = .ok v w')
    (hK : wpPs P ops ws chain lo Q (k + 1) rest (a.put o.dst v)) : wpPs P ops ws chain lo Q k (o :: rest) a :=
  wpPs_turn hg hc hi v w w' hw hw' (.inl (by
    unfold execOp
    simp only [ho, resolve, invoke, builtin, Sem.run_bind, Sem.run_pure, Result.andThen_ok, List.map_toArray, List.map_cons, List.map_nil, hs, hx, h])) hK
end
theorem i64_and1 (n : Int) : bits .and .i64 n 1 = n % 2 := by
  have h1 : (BitVec.ofInt 64 1).toNat = 2 ^ 1 - 1 := by decide
  have key : (BitVec.ofInt 64 n &&& BitVec.ofInt 64 1).toNat = (n % ((2 ^ 64 : Nat) : Int)).toNat % 2 ^ 1 := by
    rw [BitVec.toNat_and, BitVec.toNat_ofInt, h1, Nat.and_two_pow_sub_one_eq_mod]
  show IntKind.i64.wrap ((BitVec.ofInt 64 n &&& BitVec.ofInt 64 1).toNat : Nat) = n % 2
  rw [key, IntKind.wrap_i64]
  omega
abbrev eI (n : Int) : Value := .int .i64 n
set_option maxHeartbeats 400000 in
theorem whole_any (B : Nat) (keep : List Int) (A : Option Addr) (c i : Nat) (w : World) (hB : w.cell? ⟨B, 0, none⟩ = some (.slice A keep.length c)) (hr : Rd w w.heap.size A (keep.map eI)) (hk : keep.length ≤ 1000000) (hi : i ≤ 1000000000) :
    Calls Tryz.prog 65 #[.int .i64 (i : Int), .pointer (some ⟨B, 0, none⟩)] w fun e w' => e = .returned (.bool (whole keep i)) ∧ Below w.heap.size w w' := by
  by_cases h0 : 0 < keep.length
  · have hm : i % keep.length < keep.length := Nat.mod_lt _ h0
    obtain ⟨b, off, rfl, hb, hc⟩ := hr.get (k := i % keep.length) (by simpa using hm)
    rw [List.getElem_map] at hc
    have hw : whole keep i = (keep[i % keep.length] % 2 == 1) := by
      unfold whole
      rw [decide_eq_true h0, Bool.true_and, List.getD_eq_getElem?_getD, List.getElem?_eq_getElem hm, Option.getD_some]
      rw [Bool.eq_iff_iff, decide_eq_true_eq, beq_iff_eq]
    rw [hw]
    obtain ⟨x, hx⟩ : ∃ x, x = keep[i % keep.length] := ⟨_, rfl⟩
    rw [← hx] at hc ⊢
    have h0I : (0 : Int) < (keep.length : Int) := by omega
    have hmI : (i : Int) % (keep.length : Int) = ((i % keep.length : Nat) : Int) := by omega
    obtain ⟨j, hj⟩ : ∃ j, j = i % keep.length := ⟨_, rfl⟩
    rw [← hj] at hc hmI hm
    have hjI : (j : Int) < (keep.length : Int) := by omega
    have hand := i64_and1 x
    clear hx hw hj
    go_enter Tryz.func65, Tryz.ntmps65
    go_wp2
    go_quiet (fail)
    go_wp2
    go_ret
    exact ⟨rfl, bdrew (Below.refl _ _) _⟩
  · have hw : whole keep i = false := by unfold whole; rw [decide_eq_false h0, Bool.false_and]
    rw [hw]
    obtain rfl : keep = [] := List.eq_nil_of_length_eq_zero (by omega)
    simp only [List.length_nil] at hB
    clear hw h0
    go_enter Tryz.func65, Tryz.ntmps65
    go_wp2
    go_quiet (fail)
    go_wp2
    go_ret
    exact ⟨rfl, by first | exact bdrew (Below.refl _ _) _ | exact (Below.refl _ _).drew⟩
end Go.Proofs.YtchcmklelmlbgaaGreat.Disk

/- The walk of disk.Restart. -/
namespace Go.Proofs.YtchcmklelmlbgaaGreat.Disk
open Go.RowKit
set_option linter.unusedVariables false
set_option maxRecDepth 100000

theorem splice_zero (xs ys : List Value) (h : ys.length ≤ xs.length) : splice xs 0 ys = ys ++ xs.drop ys.length := by
  apply List.ext_getElem?
  intro k
  rw [splice_get _ _ _ _ (by omega)]
  by_cases hk : k < ys.length
  · rw [if_pos ⟨by omega, by omega⟩, List.getElem?_append_left hk, Nat.sub_zero]
  · rw [if_neg (by omega), List.getElem?_append_right (by omega), List.getElem?_drop]
    congr 1; omega
/-- a disk whose first pending writes have met their fates -/
def after (s : St) (keep : List Int) (torn a : Int) (k : Nat) : St := { s with all := fates keep torn a 0 (s.pend.take k) s.all }
theorem after_zero (s : St) (keep : List Int) (torn a : Int) : after s keep torn a 0 = s := by simp [after, fates]
theorem after_succ (s : St) (keep : List Int) (torn a : Int) (k : Nat) (h : k < s.pend.length) : after s keep torn a (k + 1) = { s with all := fate keep torn a k s.pend[k] (after s keep torn a k).all } := by
  simp only [after]
  rw [List.take_succ_eq_append_getElem h, fates_snoc, List.length_take, Nat.zero_add, Nat.min_eq_left (Nat.le_of_lt h)]
theorem after_sz (s : St) (keep : List Int) (torn a : Int) (k : Nat) : (after s keep torn a k).sz ≤ 2 * s.sz := by
  have := fates_len keep torn a (s.pend.take k) 0 s.all
  rw [List.length_take] at this
  unfold St.sz after
  simp only []
  omega
theorem cut_eq (a : Int) : ((a.tmod 513 + 513) % 513 : Int) = (cutAt a : Int) := by
  have h1 : a.tmod 513 % 513 = a % 513 := by
    have := Int.tmod_add_mul_tdiv a 513
    omega
  unfold cutAt
  omega
theorem tmod_lo (a : Int) : -513 < a.tmod 513 ∧ a.tmod 513 < 513 := by
  have h1 : a.tmod 513 < 513 := Int.tmod_lt_of_pos a (by omega)
  have h2 : (-a).tmod 513 < 513 := Int.tmod_lt_of_pos (-a) (by omega)
  have h3 := Int.neg_tmod a 513
  omega
theorem Lies.reset {w : World} {g : Nat} {fp : List Nat} {s : St} {vk vp va : Value} {acs : List Value} (h : Lies w g fp s vk vp va acs) :
    Lies (((w.setCell ⟨g, 1, none⟩ (.slice none 0 0)).setCell ⟨g, 5, none⟩ (.bool false)).setCell ⟨g, 3, none⟩ (.int .i64 (-1))) g fp { s with pend := [], down := false, fuse := -1 } vk (.slice none 0 0) va acs ∧
      Keep [g] w (((w.setCell ⟨g, 1, none⟩ (.slice none 0 0)).setCell ⟨g, 5, none⟩ (.bool false)).setCell ⟨g, 3, none⟩ (.int .i64 (-1))) := by
  obtain ⟨h1, k1⟩ := h.clear
  have k2 := (keep_set (w.setCell ⟨g, 1, none⟩ (.slice none 0 0)) g 5 (.bool false)).trans (keep_set _ g 3 (.int .i64 (-1))) (Fresh.refl _ _)
  exact ⟨h1.turn k2 (by simp [World.setCell, Array.getElem?_modify, h.blk]) rfl rfl rfl ⟨h1.ok.size, (by intro x hx; cases hx), h1.ok.all, by constructor <;> simp only [] <;> omega⟩, k1.trans k2 (Fresh.refl _ _)⟩
set_option maxHeartbeats 4000000 in
theorem restart_any (g : Nat) (fp : List Nat) (s : St) (keep : List Int) (A : Option Addr) (n c : Nat) (torn a : Int) (w : World) (h : DAt w g fp s) (hs : s.sz ≤ 100000000) (hn : n = keep.length) (hr : RdN w fp A (keep.map eI)) (hkl : keep.length ≤ 1000000)
    (ht0 : -9223372036854775808 ≤ torn) (ht1 : torn ≤ 9223372036854775807) (ha0 : -9223372036854775808 ≤ a) (ha1 : a ≤ 9223372036854775807) :
    Calls Tryz.prog 32 #[.pointer (some ⟨g, 0, none⟩), .slice A n c, .int .i64 torn, .int .i64 a] w fun e w' => e = .returned (.tuple #[]) ∧ ∃ fp', DAt w' g fp' (restart s keep torn a) ∧ Keep fp w w' ∧ Fresh w fp fp' := by
  subst hn
  obtain ⟨vk, vp, va, acs, hL⟩ := h
  have hcut := cut_eq a
  obtain ⟨htm0, htm1⟩ := tmod_lo a
  have hcl := cutAt_le a
  obtain ⟨m, hm⟩ : ∃ m, m = cutAt a := ⟨_, rfl⟩
  rw [← hm] at hcut hcl
  obtain ⟨z, hz⟩ : ∃ z, z = a.tmod 513 := ⟨_, rfl⟩
  have Hm := Lib.hid hm
  have Hz := Lib.hid hz
  have hend : after s keep torn a s.pend.length = { s with all := fates keep torn a 0 s.pend s.all } := by rw [after, List.take_length]
  have Hend := Lib.hid hend
  have hpl : s.pend.length ≤ 100000000 := by unfold St.sz at hs; omega
  have hL1 := hL.on (b1alloc w (.cells #[.slice A keep.length c] 66))
  obtain ⟨_, d1, _, _, _, _, _⟩ := six hL1.blk
  have hbx : (w.alloc (.cells #[.slice A keep.length c] 66)).heap[w.heap.size]? = some (.cells #[.slice A keep.length c] 66 (0, 0)) := heap_alloc_new w _
  have hr1 : RdN (w.alloc (.cells #[.slice A keep.length c] 66)) fp A (keep.map eI) := hr.on (b1alloc _ _)
  have k01 : Keep fp w (w.alloc (.cells #[.slice A keep.length c] 66)) := Keep.of_below (b1alloc _ _) fp
  obtain ⟨Ap, cp, rfl⟩ := own_form hL.pend
  clear hm hz hend
  go_enter Tryz.func32, Tryz.ntmps32
  go_wp2_with fail
  rw [hcut]
  clear d1
  obtain ⟨w1, hw1⟩ : ∃ w1, w1 = w.alloc (.cells #[.slice A keep.length c] 66) := ⟨_, rfl⟩
  rw [← hw1] at hL1 hbx hr1 k01 ⊢
  have hwl : w.heap.size < w1.heap.size := lt_of_block hbx
  have hwf : w.heap.size ∉ fp := fun e => by have := hL.lt _ e; omega
  clear hw1 hL hr
  go_loopw [25] (fun i wr => ∃ k : Nat, k ≤ s.pend.length ∧ i = .int .i64 k ∧ ∃ fpk vak acsk, Lies wr g fpk (after s keep torn a k) vk (.slice Ap s.pend.length cp) vak acsk ∧ Keep fp w1 wr ∧ Fresh w1 fp fpk) (fun i _ => s.pend.length - (intOf i).toNat)
  case atStart => exact ⟨0, by omega, rfl, fp, va, acs, by rw [after_zero]; exact hL1, Keep.refl _ _, Fresh.refl _ _⟩
  case round =>
    obtain ⟨k, hk, rfl, fpk, vak, acsk, hLk, kk, fk⟩ := hrel
    by_cases hlt : k < s.pend.length
    · obtain ⟨gp, cp', e0, _⟩ := own_some hLk.pend (by show 0 < s.pend.length; omega)
      obtain ⟨rfl, _, rfl⟩ : Ap = some ⟨gp, 0, none⟩ ∧ s.pend.length = s.pend.length ∧ cp = cp' := by injection e0 with e1 e2 e3; exact ⟨e1, rfl, e3⟩
      have hrg := pend_range hLk k hlt
      have hms := after_succ s keep torn a k hlt
      have hok := hLk.ok.pend _ (List.getElem_mem hlt)
      simp only [after] at hrg hok
      have hokA := hLk.ok.all
      obtain ⟨x, hx⟩ : ∃ x, x = s.pend[k] := ⟨_, rfl⟩
      rw [← hx] at hrg hms hok
      have hszw := wcells_szW hok.2
      have huw := Tryz.underlying115
      have hub := Tryz.underlying113
      have hszb := szBl hok.2
      have hxl := wcells_len hok.2
      have hszm : (after s keep torn a k).sz ≤ 1000000000 := by have := after_sz s keep torn a k; omega
      have hpk : x.1 < (after s keep torn a k).size := hok.1
      have hok2 := hok.2
      have hbxk : wr.heap[w.heap.size]? = some (.cells #[.slice A keep.length c] 66 (0, 0)) := (kk.block hwl hwf).trans hbx
      have hrk := hr1.keep kk fk
      clear hx e0
      by_cases hto : (k : Int) = torn
      · have hft : fate keep torn a k x (after s keep torn a k).all = (after s keep torn a k).all ++ [(x.1, x.2.take m ++ (kept (after s keep torn a k).all x.1).drop m)] := by rw [fate, if_pos hto, Hm.out]
        have hK := kept_len hokA x.1
        obtain ⟨K, hKd⟩ : ∃ K, K = kept (after s keep torn a k).all x.1 := ⟨_, rfl⟩
        rw [← hKd] at hft hK
        rw [hft] at hms
        have tb := beq_yes hto
        have Hms := Lib.hid hms
        have Hto := Lib.hid hto
        obtain ⟨gk, ck, rfl, _⟩ := own_some hLk.kept (by omega)
        obtain ⟨c0, _, _, _, _, _, _⟩ := six hLk.blk
        have hgl : g < wr.heap.size := lt_of_block hLk.blk
        have hkr : wr.rangeAt gk (x.1 * 512) (K.map e8) := own_range hLk.kept (fun j hj => by
          rw [List.length_map, hK] at hj
          have := flat_at (fun y => (kept (after s keep torn a k).all y).map e8) 512 (List.range (after s keep torn a k).size) (fun y _ => by rw [List.length_map, kept_len hokA]) x.1 j (by simpa using hpk) hj
          rw [List.getElem_range] at this
          rw [hKd]
          exact this)
        have hszK := szBl hK
        have hKl : (K.map e8).length = 512 := by rw [List.length_map, hK]
        have hpI : (x.1 : Int) < ((after s keep torn a k).size : Int) := by omega
        have hpI' : (x.1 : Int) < (s.size : Int) := hpI
        clear hms hft hto hKd
        go_wp2_with (first
            | ((with_reducible show wpList _ _ _ (⟨some 29, _, _, _, _, _⟩ :: _) _ _); refine wpList_load_mid rfl _ _ rfl gp (k * 513) rfl (wcells x) _ hrg huw rfl hszw ?_)
            | ((with_reducible show wpList _ _ _ (⟨some 11, _, _, _, _, _⟩ :: _) _ _); refine wpList_allocN rfl _ rfl (wcells (0, zero512)) zeroW ?_; intro w2 hb2 bw2 hs2)
            | ((with_reducible show wpList _ _ _ (⟨none, .store 115 (.tmp 11) _, _, _, _, _⟩ :: _) _ _); refine wpList_storeN rfl _ _ _ rfl rfl (ys := wcells x) rfl hb2 (by rw [hxl, wcells_len (by rfl)]) (wcells_one _) hszw ?_; intro w3 hb3 hg3; have hq0 := hb3.cell (k := 0) (by rw [hxl]; omega); have hq1 := blk_bytes hb3; have b3 := below_row bw2 hg3 (Nat.le_refl _) bw2.size))
        have hgk3 : gk < wr.heap.size := by obtain ⟨cs, hcs⟩ := own_blk hLk.kept; exact lt_of_block hcs
        have d0 : w3.cell? ⟨g, 0, none⟩ = some (.slice (some ⟨gk, 0, none⟩) (after s keep torn a k).size ck) := (b3.cell (p := ⟨g, 0, none⟩) hgl).trans c0
        have dk : w3.rangeAt gk (x.1 * 512) (K.map e8) := fun j v hv => (b3.cell (p := ⟨gk, x.1 * 512 + j, none⟩) hgk3).trans (hkr j v hv)
        obtain ⟨W1, hW1⟩ : ∃ W1, W1 = w3.drew.alloc (.cells (zero512.map e8).toArray 113) := ⟨_, rfl⟩
        have hBl : wr.heap.size < w3.heap.size := hb3.lt
        have hread : ∀ w', Bt [w3.drew, W1, W1.setRow w3.heap.size (K.map e8).toArray] (0, 1) w' → w'.cell? ⟨g, 0, none⟩ = some (.slice (some ⟨gk, 0, none⟩) (after s keep torn a k).size ck) ∧ w'.cell? ⟨wr.heap.size, 0, none⟩ = some (.int .i64 (x.1 : Int)) ∧ w'.rangeAt gk (x.1 * 512) (K.map e8) := by
          rintro w' ⟨q, _, hq, hw'⟩
          have hq1' : q ≤ 1 := hq
          match q, hq1' with
          | 0, _ => injection hw' with hw'; subst hw'; exact ⟨d0, hq0, dk⟩
          | 1, _ =>
            injection hw' with hw'
            subst hw'
            rw [hW1]
            have hB : ∀ p : Addr, p.block < w3.heap.size → (w3.drew.alloc (.cells (zero512.map e8).toArray 113)).cell? p = w3.cell? p := fun p hp => World.cell?_of_block (Below.heap_alloc w3.drew _ p.block hp)
            exact ⟨(hB ⟨g, 0, none⟩ (Nat.lt_trans hgl hBl)).trans d0, (hB ⟨wr.heap.size, 0, none⟩ hBl).trans hq0, fun j v hv => (hB ⟨gk, x.1 * 512 + j, none⟩ (Nat.lt_trans hgk3 hBl)).trans (dk j v hv)⟩
        have hB1 : Blk W1 w3.heap.size (zero512.map e8) := by rw [hW1]; exact ⟨_, heap_alloc_new w3.drew _⟩
        have HW1 := Lib.hid hW1
        have bW1 : Below w3.heap.size w3 W1 := by rw [hW1]; exact ((Below.refl _ w3).drew).alloc (Nat.le_refl _) _
        clear hW1 d0 dk
        have hzl : (zero512.map e8).length = (K.map e8).length := by rw [hKl, List.length_map]; rfl
        refine region_steps 0 [8, 9] [(3, (0, 1)), (5, (0, 1)), (7, (0, 1))] [w3.drew, W1, W1.setRow w3.heap.size (K.map e8).toArray] (by kernel_rfl) (by kernel_rfl) (by kernel_rfl) (by decide) rfl rfl ?_
        repeat (first
          | ((with_reducible show wpPs _ _ _ _ _ _ _ (⟨some 37, _, _, _, _, _⟩ :: _) _); refine wpPs_read rfl (by rfl) (by rfl) (.slice (some ⟨gk, 0, none⟩) (after s keep torn a k).size ck) ?_ ?_; (· intro w' hw'; have hcw := (hread w' hw').1; go_simp); go_frame)
          | ((with_reducible show wpPs _ _ _ _ _ _ _ (⟨some 39, _, _, _, _, _⟩ :: _) _); refine wpPs_read rfl (by rfl) (by rfl) (.int .i64 (x.1 : Int)) ?_ ?_; (· intro w' hw'; have hcw := (hread w' hw').2.1; go_simp); go_frame)
          | ((with_reducible show wpPs _ _ _ _ _ _ _ (⟨some 41, _, _, _, _, _⟩ :: _) _); refine wpPs_mid rfl (by rfl) (by rfl) _ _ rfl gk (x.1 * 512) rfl (K.map e8) _ (fun w' hw' => (hread w' hw').2.2) hub rfl hszK ?_; go_frame)
          | ((with_reducible show wpPs _ _ _ _ _ _ _ (⟨some 12, _, _, _, _, _⟩ :: _) _); refine wpPs_alloc rfl (by rfl) (by rfl) _ rfl w3.drew (zero512.map e8) zeroB rfl (by rw [HW1.out]; rfl) ?_; go_frame)
          | ((with_reducible show wpPs _ _ _ _ _ _ _ (⟨none, .store _ (.tmp 12) _, _, _, _, _⟩ :: _) _); refine wpPs_storeA rfl (by rfl) (by rfl) _ _ _ rfl W1 rfl (ys := K.map e8) rfl hB1 hzl (e8_one _) hszK rfl rfl rfl ?_)
          | (refine wpPs_read rfl (by rfl) (by rfl) ?_ ?_ ?_; rotate_left; (· intro w' hw'; go_simp; exact rfl); go_frame))
        refine wpPs_nil ?_
        have hB5 : Blk (W1.setRow w3.heap.size (K.map e8).toArray) w3.heap.size (K.map e8) := hB1.setRow
        have b5 : Below w3.heap.size w3 (W1.setRow w3.heap.size (K.map e8).toArray) := below_setRow bW1 (Nat.le_refl _) _
        obtain ⟨w5, hw5⟩ : ∃ w5, w5 = W1.setRow w3.heap.size (K.map e8).toArray := ⟨_, rfl⟩
        rw [← hw5] at hB5 b5 ⊢
        clear hread hw5 hB1 bW1 HW1
        have hb5 := hb3.on b5
        have hp0 := hb5.cell (k := 0) (by rw [hxl]; omega)
        have hp1 := blk_bytes hb5
        have b35 := bt b3 b5
        obtain ⟨cs, hcs⟩ : ∃ cs, cs = (x.2.take m).map e8 := ⟨_, rfl⟩
        have hcsl : cs.length = m := by rw [hcs, List.length_map, List.length_take]; omega
        have hcopy := fun ty => run_copy_cells (P := Tryz.prog) w5.drew 51 51 ty 5 w3.heap.size 0 m 512 ⟨wr.heap.size, 1, none⟩ 512 512 cs Tryz.underlying51 (by kernel_rfl) (by rw [hcsl]; show m = min 512 m; omega) (fun j v hv => by
          rw [Addr.add_lit]
          refine hp1 j v ?_
          rw [hcs, List.getElem?_map, List.getElem?_take] at hv
          rw [List.getElem?_map]
          split at hv
          · exact hv
          · simp at hv) (fun j hj => by rw [Nat.zero_add, show w5.drew.cell? ⟨w3.heap.size, j, none⟩ = _ from hB5.cell (k := j) (by rw [hKl]; omega)]; rfl) (fun j _ => hB5.free _) (by rw [hcs]; exact e8_one _)
        rw [hcsl] at hcopy
        have hcsl' : cs.length = m := hcsl
        have Hcopy := Lib.hid hcopy
        have hm0 : (0 : Int) ≤ (m : Int) := by omega
        have hm5 : (m : Int) ≤ 512 := by omega
        have Hcs := Lib.hid hcs
        clear hcopy hcs hcsl hb3 hb2 hg3 bw2 hs2 hq0 hq1
        go_wp2
        refine region_steps 0 [4] [] [w5.drew, w5.drew.setCells w3.heap.size 0 cs] (by kernel_rfl) (by kernel_rfl) (by kernel_rfl) (by decide) rfl rfl ?_
        repeat (first
          | ((with_reducible show wpPs _ _ _ _ _ _ _ (⟨some 46, _, _, _, _, _⟩ :: _) _); refine wpPs_copy rfl (by rfl) (by rfl) _ _ _ _ rfl w5.drew _ _ _ _ rfl rfl rfl rfl (Hcopy.out _) ?_; go_frame)
          | (refine wpPs_read rfl (by rfl) (by rfl) ?_ ?_ ?_; rotate_left; (· intro w' hw'; go_simp; exact rfl); go_frame))
        refine wpPs_nil ?_
        have hB6 : Blk (w5.drew.setCells w3.heap.size 0 cs) w3.heap.size ((x.2.take m ++ K.drop m).map e8) := by
          have h6 := Blk.setCells cs 0 (w := w5.drew) (hB5.drewN 1)
          rw [splice_zero _ _ (by rw [hcsl', hKl]; omega)] at h6
          rw [List.map_append, ← Hcs.out, List.map_drop]
          rw [hcsl'] at h6
          exact h6
        have g6 : w5.grownBy (w5.drew.setCells w3.heap.size 0 cs) (some w3.heap.size) := grown_trans (show w5.grownBy w5.drew (some w3.heap.size) from ⟨rfl, rfl, rfl, Nat.le_refl _, fun _ _ _ => rfl⟩) (setCells_grown w3.heap.size cs 0 w5.drew)
        have b6 : Below wr.heap.size wr (w5.drew.setCells w3.heap.size 0 cs) := below_row b35 g6 (Nat.le_of_lt hBl) b35.size
        have hp6 : (w5.drew.setCells w3.heap.size 0 cs).cell? ⟨wr.heap.size, 0, none⟩ = some (.int .i64 (x.1 : Int)) := (hb5.grown g6 (fun e => by injection e with e; omega)).cell (k := 0) (by rw [hxl]; omega)
        have hYl : (x.2.take m ++ K.drop m).length = 512 := by rw [List.length_append, List.length_take, List.length_drop]; omega
        obtain ⟨Y, hY⟩ : ∃ Y, Y = x.2.take m ++ K.drop m := ⟨_, rfl⟩
        obtain ⟨w6, hw6⟩ : ∃ w6, w6 = w5.drew.setCells w3.heap.size 0 cs := ⟨_, rfl⟩
        rw [← hY] at hB6 hYl Hms
        rw [← hw6] at hB6 b6 hp6 ⊢
        have hszY := szBl hYl
        clear hY hw6 hB5 b5 b35 g6 hb5 hp0 hp1 Hcopy
        go_wp2_with ((with_reducible show wpList _ _ _ (⟨some 50, _, _, _, _, _⟩ :: _) _ _); refine wpList_loadA rfl _ _ rfl rfl hB6 hub hszY ?_)
        refine (keep_any g fpk _ _ _ vak acsk x.1 Y w6 (hLk.on b6) hszm hpk hYl).mono ?_
        rintro e w7 ⟨rfl, fp4, va4, acs4, hL4, k4, f4⟩
        have k5 := (kk.trans (Keep.of_below b6 fp) (Fresh.refl _ _)).trans k4 fk
        have f5 := fk.trans (Nat.le_trans kk.size b6.size) f4
        clear k4 f4 hB6 b3 b6 hp6 hLk
        go_wp2
        go_roundw
        case rel => exact ⟨k + 1, by omega, by go_num, fp4, va4, acs4, by rw [Hms.out]; exact hL4, k5, f5⟩
        case measure => simp [intOf]; omega
      · have tb := beq_no hto
        cases hwh : whole keep k with
        | true =>
          have hft : fate keep torn a k x (after s keep torn a k).all = (after s keep torn a k).all ++ [x] := by rw [fate, if_neg hto, if_pos hwh]
          rw [hft] at hms
          have Hms := Lib.hid hms
          have hcall : ∀ wX, Below wr.heap.size wr wX → Calls Tryz.prog 65 #[.int .i64 (k : Int), .pointer (some ⟨w.heap.size, 0, none⟩)] wX fun e w' => e = .returned (.bool true) ∧ Below wX.heap.size wX w' := fun wX bX => by
            rw [← hwh]
            exact whole_any w.heap.size keep A c k wX (by rw [World.cell?_of_block (bX.block _ (lt_of_block hbxk))]; exact cell_of_one hbxk) ((hrk.on bX).rd) hkl (by omega)
          have Hcall := Lib.hid hcall
          have Hto := Lib.hid hto
          clear hms hft hwh hcall hto
          go_wp2_with (first
            | ((with_reducible show wpList _ _ _ (⟨some 29, _, _, _, _, _⟩ :: _) _ _); refine wpList_load_mid rfl _ _ rfl gp (k * 513) rfl (wcells x) _ hrg huw rfl hszw ?_)
            | ((with_reducible show wpList _ _ _ (⟨some 11, _, _, _, _, _⟩ :: _) _ _); refine wpList_allocN rfl _ rfl (wcells (0, zero512)) zeroW ?_; intro w2 hb2 bw2 hs2)
            | ((with_reducible show wpList _ _ _ (⟨none, .store 115 (.tmp 11) _, _, _, _, _⟩ :: _) _ _); refine wpList_storeN rfl _ _ _ rfl rfl (ys := wcells x) rfl hb2 (by rw [hxl, wcells_len (by rfl)]) (wcells_one _) hszw ?_; intro w3 hb3 hg3; have hq0 := hb3.cell (k := 0) (by rw [hxl]; omega); have hq1 := blk_bytes hb3; have b3 := below_row bw2 hg3 (Nat.le_refl _) bw2.size))
          refine (Hcall.out _ b3).mono ?_
          rintro e w4 ⟨rfl, b4⟩
          have hb4 := hb3.on b4
          have hp0 := hb4.cell (k := 0) (by rw [hxl]; omega)
          have hp1 := blk_bytes hb4
          have b34 := bt b3 b4
          clear hq0 hq1 hb3 hb2 hg3 bw2 hs2
          go_wp2_with ((with_reducible show wpList _ _ _ (⟨some 60, _, _, _, _, _⟩ :: _) _ _); refine wpList_load_mid rfl _ _ rfl wr.heap.size 1 rfl (x.2.map e8) _ hp1 hub rfl hszb ?_)
          refine (keep_any g fpk _ vk _ vak acsk x.1 x.2 w4 (hLk.on b34) hszm hpk hok2).mono ?_
          rintro e w5 ⟨rfl, fp4, va4, acs4, hL4, k4, f4⟩
          have k5 := (kk.trans (Keep.of_below b34 fp) (Fresh.refl _ _)).trans k4 fk
          have f5 := fk.trans (Nat.le_trans kk.size b34.size) f4
          clear k4 f4 hb4 b3 b34 hp0 hp1 hLk
          go_wp2
          go_roundw
          case rel => exact ⟨k + 1, by omega, by go_num, fp4, va4, acs4, by rw [Hms.out]; exact hL4, k5, f5⟩
          case measure => simp [intOf]; omega
        | false =>
          have hft : fate keep torn a k x (after s keep torn a k).all = (after s keep torn a k).all := by rw [fate, if_neg hto, if_neg (by simp [hwh])]
          rw [hft] at hms
          have Hms := Lib.hid hms
          have hcall : ∀ wX, Below wr.heap.size wr wX → Calls Tryz.prog 65 #[.int .i64 (k : Int), .pointer (some ⟨w.heap.size, 0, none⟩)] wX fun e w' => e = .returned (.bool false) ∧ Below wX.heap.size wX w' := fun wX bX => by
            rw [← hwh]
            exact whole_any w.heap.size keep A c k wX (by rw [World.cell?_of_block (bX.block _ (lt_of_block hbxk))]; exact cell_of_one hbxk) ((hrk.on bX).rd) hkl (by omega)
          have Hcall := Lib.hid hcall
          have Hto := Lib.hid hto
          clear hms hft hwh hcall hto
          go_wp2_with (first
            | ((with_reducible show wpList _ _ _ (⟨some 29, _, _, _, _, _⟩ :: _) _ _); refine wpList_load_mid rfl _ _ rfl gp (k * 513) rfl (wcells x) _ hrg huw rfl hszw ?_)
            | ((with_reducible show wpList _ _ _ (⟨some 11, _, _, _, _, _⟩ :: _) _ _); refine wpList_allocN rfl _ rfl (wcells (0, zero512)) zeroW ?_; intro w2 hb2 bw2 hs2)
            | ((with_reducible show wpList _ _ _ (⟨none, .store 115 (.tmp 11) _, _, _, _, _⟩ :: _) _ _); refine wpList_storeN rfl _ _ _ rfl rfl (ys := wcells x) rfl hb2 (by rw [hxl, wcells_len (by rfl)]) (wcells_one _) hszw ?_; intro w3 hb3 hg3; have hq0 := hb3.cell (k := 0) (by rw [hxl]; omega); have hq1 := blk_bytes hb3; have b3 := below_row bw2 hg3 (Nat.le_refl _) bw2.size))
          refine (Hcall.out _ b3).mono ?_
          rintro e w4 ⟨rfl, b4⟩
          have b34 := bt b3 b4
          have hL4 := hLk.on b34
          have k5 := kk.trans (Keep.of_below b34 fp) (Fresh.refl _ _)
          clear hq0 hq1 hb3 hb2 hg3 bw2 hs2
          go_wp2
          go_roundw
          case rel => exact ⟨k + 1, by omega, by go_num, fpk, vak, acsk, by rw [Hms.out]; exact hL4, k5, fk⟩
          case measure => simp [intOf]; omega
    · obtain rfl : k = s.pend.length := by omega
      obtain ⟨_, e1, _, e3, _, e5, fr2⟩ := six hLk.blk
      have fr21 := fr2 1
      have fr25 := fr2 5
      have fr23 := fr2 3
      have hrs := hLk.reset
      rw [Hend.out] at hrs
      have fin := Lib.hid (show ∃ fp', DAt (((wr.setCell ⟨g, 1, none⟩ (.slice none 0 0)).setCell ⟨g, 5, none⟩ (.bool false)).setCell ⟨g, 3, none⟩ (.int .i64 (-1))) g fp' (restart s keep torn a) ∧ Keep fp w (((wr.setCell ⟨g, 1, none⟩ (.slice none 0 0)).setCell ⟨g, 5, none⟩ (.bool false)).setCell ⟨g, 3, none⟩ (.int .i64 (-1))) ∧ Fresh w fp fp' from
        ⟨fpk, ⟨_, _, _, _, hrs.1⟩, (k01.trans kk (Fresh.refl _ _)).trans (hrs.2.more (fun j hj => by rw [List.mem_singleton] at hj; subst hj; exact hL1.inG)) (Fresh.refl _ _), fun j hj => (fk j hj).imp id (fun h => Nat.le_trans k01.size h)⟩)
      clear hrs hLk kk fk hL1
      go_wp2
      go_end0
      exact ⟨rfl, fin.out⟩
end Go.Proofs.YtchcmklelmlbgaaGreat.Disk

/- The walks of the library's slices at bytes. -/
namespace Go.Proofs.YtchcmklelmlbgaaGreat.Sl
open Go.RowKit
set_option linter.unusedVariables false
set_option maxRecDepth 100000

theorem info8 : (Tryz.prog.info? 5).map (fun i => (i.zero, i.size, i.bytes)) = some (some (.int .u8 0), 1, 1) := by kernel_rfl
theorem own_empty (w : World) (e : TypeId) (base : Nat) (hb : base ≤ w.heap.size) : (w.alloc (.cells #[] e)).ownsRow base e 1 (.slice (some ⟨w.heap.size, 0, none⟩) 0 0) 0 [] :=
  ⟨by simp, .inr ⟨w.heap.size, 0, #[], rfl, hb, heap_alloc_new w _, by simp, by simp [maxLen], by simp, by simp⟩⟩

set_option maxHeartbeats 400000 in
theorem clone_any (A : Option Addr) (l : List UInt8) (n c : Nat) (w : World) (hn : n = l.length) (hr : Rd w w.heap.size A (l.map e8)) (hl : l.length ≤ 1000000000000) :
    Calls Tryz.prog 57 #[.slice A n c] w fun e w' => RetB 5 w l e w' := by
  subst hn
  obtain ⟨i0, hi0, hz0, hz1, hz2⟩ := info_parts info8
  cases A with
  | none =>
    obtain rfl : l = [] := by
      cases l with
      | nil => rfl
      | cons a l => obtain ⟨b, off, h, _⟩ := hr (by simp); cases h
    have heq := Lib.run_eql_slice_nil (P := Tryz.prog) w 51 5 none 0 c 0 0 Tryz.underlying51
    go_enter Tryz.func57, Tryz.ntmps57
    go_wp2
    go_ret
    exact ⟨none, 0, rfl, own_nil _ _ _ _, Below.refl _ _⟩
  | some a =>
    have heq := Lib.run_eql_slice_nil (P := Tryz.prog) w 51 5 (some a) l.length c 0 0 Tryz.underlying51
    go_enter Tryz.func57, Tryz.ntmps57
    go_wp2_with (at_builtin; refine wpList_append_rd _ rfl _ _ _ rfl w.heap.size 5 i0 _ 1 1 Tryz.underlying51 hi0 hz0 hz1 hz2 rfl (by omega) (.slice (some ⟨w.heap.size, 0, none⟩) 0 0) 0 [] rfl (own_empty w _ _ (Nat.le_refl _)) w.heap.size (some a) l.length c (l.map e8) rfl (by simp) (hr.below (b1alloc _ _)) (e8_one _) (by simp only [maxLen]; omega) (by omega) (by simp) ?_; intro v1 w1 hown1 hg1 hat1)
    go_ret
    exact RetB.mk hown1 (by simp) ((b1alloc _ _).grown hg1 (by simp) (fun k hk => by simp [Value.ownBlock] at hk; omega))
end Go.Proofs.YtchcmklelmlbgaaGreat.Sl

/- The walks of disk.History and disk.Pending. -/
namespace Go.Proofs.YtchcmklelmlbgaaGreat.Disk
open Go.RowKit
set_option linter.unusedVariables false
set_option maxRecDepth 100000

theorem undrew {B : Nat} {w w' : World} (h : Below B w.drew w') : Below B w w' := ⟨h.os, h.tape, h.output, h.size, h.block⟩
/-- an element of a new slice of writes: a place, and a slice of bytes that lie in a block of their own -/
def Ent (w : World) (n0 : Nat) (x : Wr) (u0 u1 : Value) : Prop := u0 = .int .i64 (x.1 : Int) ∧ ∃ b off c cs t, u1 = .slice (some ⟨b, off, none⟩) x.2.length c ∧ n0 ≤ b ∧ x.2.length ≤ c ∧ c ≤ maxLen ∧ w.heap[b]? = some (.cells cs t (0, 0)) ∧ 161 ≠ t ∧ w.rangeAt b off (x.2.map e8)
def Ents (w : World) (n0 : Nat) (l : List Wr) (acs : List Value) : Prop := ∀ i (h : i < l.length), ∃ u0 u1, acs[i * 2]? = some u0 ∧ acs[i * 2 + 1]? = some u1 ∧ Ent w n0 l[i] u0 u1
/-- a new slice of writes comes back -/
def NewW (w w' : World) (l : List Wr) (v : Value) : Prop := ∃ acs, w'.ownsRow w.heap.size 161 2 v l.length acs ∧ Ents w' w.heap.size l acs
theorem Ent.turn {w w' : World} {n0 : Nat} {x : Wr} {u0 u1 : Value} (h : Ent w n0 x u0 u1) (hb : ∀ (j : Nat) (cs : Array Value) (t : TypeId), w.heap[j]? = some (Obj.cells cs t (0, 0)) → 161 ≠ t → w'.heap[j]? = w.heap[j]?) : Ent w' n0 x u0 u1 := by
  obtain ⟨rfl, b, off, c, cs, t, h1, h2, h3, h4, h5, h6, h7⟩ := h
  exact ⟨rfl, b, off, c, cs, t, h1, h2, h3, h4, (hb b cs t h5 h6).trans h5, h6, fun j v hv => (World.cell?_of_block (hb b cs t h5 h6)).trans (h7 j v hv)⟩
theorem Ents.turn {w w' : World} {n0 : Nat} {l : List Wr} {acs : List Value} (h : Ents w n0 l acs) (hb : ∀ (j : Nat) (cs : Array Value) (t : TypeId), w.heap[j]? = some (Obj.cells cs t (0, 0)) → 161 ≠ t → w'.heap[j]? = w.heap[j]?) : Ents w' n0 l acs := fun i hi => by
  obtain ⟨u0, u1, h1, h2, h3⟩ := h i hi
  exact ⟨u0, u1, h1, h2, h3.turn hb⟩
theorem Ents.on {w w' : World} {n0 : Nat} {l : List Wr} {acs : List Value} (h : Ents w n0 l acs) (b : Below w.heap.size w w') : Ents w' n0 l acs := h.turn fun j cs t hj _ => b.block j (lt_of_block hj)
theorem Ents.grown {w w' : World} {n0 n base : Nat} {l : List Wr} {acs : List Value} {v : Value} {xs : List Value} (h : Ents w n0 l acs) (ho : w.ownsRow base 161 2 v n xs) (hg : w.grownBy w' v.ownBlock) : Ents w' n0 l acs :=
  h.turn fun j cs t hj ht => hg.block j (lt_of_block hj) (fun e => own_type ho hj ht e.symm)
theorem Ent.on {w w' : World} {n0 : Nat} {x : Wr} {u0 u1 : Value} (h : Ent w n0 x u0 u1) (b : Below w.heap.size w w') : Ent w' n0 x u0 u1 := h.turn fun j cs t hj _ => b.block j (lt_of_block hj)
theorem Ent.grown {w w' : World} {n0 n base : Nat} {x : Wr} {u0 u1 : Value} {v : Value} {xs : List Value} (h : Ent w n0 x u0 u1) (ho : w.ownsRow base 161 2 v n xs) (hg : w.grownBy w' v.ownBlock) : Ent w' n0 x u0 u1 :=
  h.turn fun j cs t hj ht => hg.block j (lt_of_block hj) (fun e => own_type ho hj ht e.symm)
theorem Ents.snoc {w : World} {n0 : Nat} {l : List Wr} {acs : List Value} {x : Wr} {u0 u1 : Value} (h : Ents w n0 l acs) (hl : acs.length = l.length * 2) (hx : Ent w n0 x u0 u1) : Ents w n0 (l ++ [x]) (acs ++ [u0, u1]) := fun i hi => by
  simp only [List.length_append, List.length_singleton] at hi
  by_cases e : i < l.length
  · obtain ⟨v0, v1, h1, h2, h3⟩ := h i e
    exact ⟨v0, v1, by rw [List.getElem?_append_left (by omega)]; exact h1, by rw [List.getElem?_append_left (by omega)]; exact h2, by simp only [List.getElem_append_left e]; exact h3⟩
  · obtain rfl : i = l.length := by omega
    exact ⟨u0, u1, by rw [List.getElem?_append_right (by omega)]; simp [hl], by rw [List.getElem?_append_right (by omega)]; simp [hl, Nat.add_sub_cancel_left], by simpa using hx⟩
theorem told_range {w : World} {g : Nat} {fp : List Nat} {s : St} {vk vp : Value} {acs : List Value} {ga ca : Nat} (h : Lies w g fp s vk vp (.slice (some ⟨ga, 0, none⟩) s.all.length ca) acs) (k : Nat) (hk : k < s.all.length) :
    ∃ b c, w.rangeAt ga (k * 2) [.int .i64 (s.all[k].1 : Int), .slice (some ⟨b, 0, none⟩) 512 c] ∧ BlkT w b 113 (s.all[k].2.map e8) := by
  obtain ⟨b, c, h1, h2, h3, _⟩ := h.told k hk
  refine ⟨b, c, own_range h.all (fun j hj => ?_), h3⟩
  match j, hj with
  | 0, _ => exact h1
  | 1, _ => exact h2
theorem Ent.own {w3 : World} {n0 base : Nat} {x : Wr} {A : Option Addr} {c : Nat} (h : w3.ownsRow base 5 1 (.slice A x.2.length c) x.2.length (x.2.map e8)) (hl : x.2.length = 512) (hb : n0 ≤ base) (hc : x.2.length ≤ c) (hcm : c ≤ maxLen) : Ent w3 n0 x (.int .i64 (x.1 : Int)) (.slice A x.2.length c) := by
  obtain ⟨g3, c3, e, hg⟩ := own_some h (by omega)
  injection e with e1 e2 e3
  subst e1 e3
  obtain ⟨cs, hcs⟩ := own_blk h
  exact ⟨rfl, g3, 0, c, cs, 5, rfl, by omega, hc, hcm, hcs, by decide, own_range h (fun j hj => by rw [Nat.zero_add])⟩
theorem own_caps {w : World} {base : Nat} {e : TypeId} {size n c : Nat} {A : Option Addr} {xs : List Value} (h : w.ownsRow base e size (.slice A n c) n xs) : n ≤ c ∧ c ≤ maxLen := by
  rcases h.2 with ⟨hv, _⟩ | ⟨g, cap, cur, hv, _, _, hnc, hcm, _⟩
  · injection hv with h1 h2 h3; subst h2 h3; exact ⟨Nat.le_refl _, by unfold maxLen; omega⟩
  · injection hv with h1 h2 h3; subst h3; exact ⟨hnc, hcm⟩
end Go.Proofs.YtchcmklelmlbgaaGreat.Disk

/- The walk of disk.Pending. -/
namespace Go.Proofs.YtchcmklelmlbgaaGreat.Disk
open Go.RowKit
set_option linter.unusedVariables false
set_option maxRecDepth 100000

theorem wpList_allocT {P : Program} {w : World} {ops : Array Oper} {rest : List Oper} {o : Oper} {a : Act} {Q : Exit → Act → World → Prop} (hg : o.guard = none) (t : TypeId) (ho : o.op = .alloc t) (xs : List Value)
    (hz : ∀ w, (zeroValue t).run P w = .ok (arrV xs) w)
    (h : ∀ w1, BlkT w1 w.heap.size t xs → Below w.heap.size w w1 → wpList P ops Q rest (a.put o.dst (.pointer (some ⟨w.heap.size, 0, none⟩))) w1) : wpList P ops Q (o :: rest) a w :=
  wpList_alloc hg t ho xs hz (h _ (heap_alloc_new w _) (b1alloc _ _))
theorem wpList_storeT {P : Program} {w : World} {ops : Array Oper} {rest : List Oper} {o : Oper} {a : Act} {Q : Exit → Act → World → Prop} (hgd : o.guard = none) (t : TypeId) (x y : Operand) (ho : o.op = .store t x y)
    {g : Nat} {t' : TypeId} (hx : a.eval x = .pointer (some ⟨g, 0, none⟩)) {xs ys : List Value} (hy : a.eval y = arrV ys) (hb : BlkT w g t' xs) (hl : xs.length = ys.length) (h1 : ∀ v ∈ ys, v.oneCell' = true) (hi : (P.info? t).map (·.size) = some ys.length)
    (h : ∀ w1, BlkT w1 g t' ys → w.grownBy w1 (some g) → wpList P ops Q rest (a.put o.dst undef) w1) : wpList P ops Q (o :: rest) a w :=
  wpList_storeA hgd t x y ho hx hy ⟨t', hb⟩ hl h1 hi (h _ (setRow_heap w g _ _ t' _ hb) (setRow_grown _ _ _))
theorem BlkT.blk {w : World} {g : Nat} {t : TypeId} {xs : List Value} (h : BlkT w g t xs) : Blk w g xs := ⟨t, h⟩
end Go.Proofs.YtchcmklelmlbgaaGreat.Disk

/- The library's slices.Chunk at bytes, blocks of 64: its iterator's contract for rows of whole blocks; a caller's side. -/
namespace Go.Proofs.YtchcmklelmlbgaaGreat.Ch
open Go.RowKit Go.Shelf
attribute [local go_sem] Oper.semAt_some
set_option linter.unusedVariables false

theorem wpListIn_loadA {F : Fence} {n : Nat} {P : Program} {w : World} {ops : Array Oper} {rest : List Oper} {o : Oper} {a : Act} {Q : Exit → Act → World → Prop} (hg : o.guard = none) (t : TypeId) (x : Operand) (ho : o.op = .load t x)
    {g : Nat} (hx : a.eval x = .pointer (some ⟨g, 0, none⟩)) {xs : List Value} (hb : Blk w g xs) {k : Nat} {e : TypeId} (hu : P.underlying t = some (.array k e)) (hi : (P.info? t).map (·.size) = some xs.length)
    (h : wpListIn F n P ops Q rest (a.put o.dst (arrV xs)) w) : wpListIn F n P ops Q (o :: rest) a w := by
  obtain ⟨t', hb⟩ := hb
  refine wpListIn_plain hg fun K hK => ?_
  have := run_loadVar_row (P := P) w g t' t _ _ _ hb hu rfl (by simpa using hi)
  unfold Oper.wpIn
  refine ⟨by simp [Oper.about, ho], ?_⟩
  rw [Oper.semAt_plain F _ _ (by rw [ho]; intro c hc'; cases hc')]
  simp [execOp, ho, hx, Instr.loadAt, Instr.sureAddr, this]
  exact hK _ _ h
theorem wpListIn_storeN {F : Fence} {n : Nat} {P : Program} {w : World} {ops : Array Oper} {rest : List Oper} {o : Oper} {a : Act} {Q : Exit → Act → World → Prop} (hgd : o.guard = none) (t : TypeId) (x y : Operand) (ho : o.op = .store t x y)
    {g : Nat} (hx : a.eval x = .pointer (some ⟨g, 0, none⟩)) {xs ys : List Value} (hy : a.eval y = arrV ys) (hb : Blk w g xs) (hl : xs.length = ys.length) (h1 : ∀ v ∈ ys, v.oneCell' = true) (hi : (P.info? t).map (·.size) = some ys.length)
    (h : ∀ w1, Blk w1 g ys → w.grownBy w1 (some g) → wpListIn F n P ops Q rest (a.put o.dst undef) w1) : wpListIn F n P ops Q (o :: rest) a w := by
  have hb0 := hb
  obtain ⟨t', hb⟩ := hb
  refine wpListIn_plain hgd fun K hK => ?_
  have := run_storeVar_row (P := P) w g t' t _ ys.toArray hb (by simpa using hi) (by simpa using hl) (by simpa using h1)
  unfold Oper.wpIn
  refine ⟨by simp [Oper.about, ho], ?_⟩
  rw [Oper.semAt_plain F _ _ (by rw [ho]; intro c hc'; cases hc')]
  unfold arrV at hy
  simp [execOp, ho, hx, hy, Instr.storeAt, Instr.sureAddr, this]
  exact hK _ _ (h _ hb0.setRow (setRow_grown _ _ _))
theorem wpListIn_allocN {F : Fence} {n : Nat} {P : Program} {w : World} {ops : Array Oper} {rest : List Oper} {o : Oper} {a : Act} {Q : Exit → Act → World → Prop} (hg : o.guard = none) (t : TypeId) (ho : o.op = .alloc t) (xs : List Value)
    (hz : ∀ w, (zeroValue t).run P w = .ok (arrV xs) w)
    (h : ∀ w1, Blk w1 w.heap.size xs → Below w.heap.size w w1 → w.heap.size < w1.heap.size → wpListIn F n P ops Q rest (a.put o.dst (.pointer (some ⟨w.heap.size, 0, none⟩))) w1) : wpListIn F n P ops Q (o :: rest) a w := by
  refine wpListIn_plain hg fun K hK => ?_
  unfold Oper.wpIn
  refine ⟨by simp [Oper.about, ho], ?_⟩
  rw [Oper.semAt_plain F _ _ (by rw [ho]; intro c hc'; cases hc')]
  simp [execOp, ho, Instr.alloc, hz, go_sem, arrV]
  exact hK _ _ (h _ (Blk.new w xs t) (b1alloc _ _) (by simp))
theorem wpListIn_append_rd {F : Fence} {n : Nat} {P : Program} (w : World) {ops : Array Oper} {rest : List Oper} {o : Oper} {a : Act} {Q : Exit → Act → World → Prop} (hgd : o.guard = none) (s x : Operand) (t : TypeId)
    (ho : o.op = .call { callee := .builtin .append, args := #[s, x], argTypes := #[t, t] })
    (base : Nat) (e : TypeId) (i : TypeInfo) (z : Value) (size bytes : Nat) (ht : P.underlying t = some (.slice e)) (hi : P.info? e = some i) (hz : i.zero = some z)
    (hsize : i.size = size) (hby : i.bytes = bytes) (hzs : z.cells.size = size) (hsz : 0 < size)
    (v : Value) (k : Nat) (xs : List Value) (hs : a.eval s = v) (hown : w.ownsRow base e size v k xs)
    (B : Nat) (A : Option Addr) (m c : Nat) (news : List Value) (hx : a.eval x = .slice A m c) (hl : news.length = m * size) (hr : Rd w B A news) (h1 : ∀ u ∈ news, u.oneCell' = true)
    (h63 : k + m ≤ maxLen) (hbytes : (k + m) * bytes ≤ 140737488355328) (hbase : base ≤ w.heap.size)
    (h : ∀ v' w', w'.ownsRow base e size v' (k + m) (xs ++ news) → w.grownBy w' v.ownBlock → (v'.ownBlock = v.ownBlock ∨ v'.ownBlock = some w.heap.size) → wpListIn F n P ops Q rest (a.put o.dst v') w') : wpListIn F n P ops Q (o :: rest) a w := by
  obtain ⟨v', w', hrun, h2, h3, h4⟩ := run_append_rd (P := P) w base t o.type e i z size bytes ht hi hz hsize hby hzs hsz v k xs hown B A m c news hl hr h1 h63 hbytes hbase
  refine wpListIn_plain hgd fun K hK => ?_
  unfold Oper.wpIn
  refine ⟨by simp [Oper.about, ho, resolve, Target.leads, Sem.run_pure], ?_⟩
  rw [Oper.semAt_plain F _ _ (by rw [ho]; intro c hc'; cases hc')]
  simp [execOp, ho, resolve, invoke, builtin, hs, hx, hrun, Result.andThen]
  exact hK _ _ (h v' w' h2 h3 h4)
/-- the k-th block of 64 bytes of a row that begins there -/
def part (b off k : Nat) : Value := .slice (some ⟨b, off + 64 * k, none⟩) 64 64
theorem fin_take {m k : Nat} (h : k < m) : (List.finRange m).take (k + 1) = (List.finRange m).take k ++ [⟨k, h⟩] := by
  rw [List.take_succ_eq_append_getElem (by simpa using h)]
  simp
/-- all blocks below n but one lie as they lay -/
def KpX (g n : Nat) (W W' : World) : Prop := W.heap.size ≤ W'.heap.size ∧ ∀ j, j < n → j ≠ g → W'.heap[j]? = W.heap[j]?
theorem KpX.refl (g n : Nat) (W : World) : KpX g n W W := ⟨Nat.le_refl _, fun _ _ _ => rfl⟩
theorem KpX.trans {g n : Nat} {A B C : World} (h : KpX g n A B) (k : KpX g n B C) : KpX g n A C := ⟨Nat.le_trans h.1 k.1, fun j hj hn => (k.2 j hj hn).trans (h.2 j hj hn)⟩
theorem KpX.cell {g n : Nat} {W W' : World} (h : KpX g n W W') {b : Nat} (hb : b < n) (hn : b ≠ g) (o : Nat) : W'.cell? ⟨b, o, none⟩ = W.cell? ⟨b, o, none⟩ := World.cell?_of_block (h.2 b hb hn)
theorem KpX.turn {g n : Nat} (W : World) (l : Nat) (o' : Obj) (hl : n ≤ l) : KpX g n W (W.putObj l o') := ⟨(grownBy_putObj' W l o').size, fun j hj _ => World.putObj_heap_other (by omega)⟩
theorem KpX.of_below {g n : Nat} {W W' : World} (h : Below W.heap.size W W') (hn : n ≤ W.heap.size) : KpX g n W W' := ⟨h.size, fun j hj _ => h.block j (by omega)⟩
theorem KpX.of_row {g n : Nat} {W W' : World} (h : W.grownBy W' (some g)) (hn : n ≤ W.heap.size) : KpX g n W W' := ⟨h.size, fun j hj hj' => h.block j (by omega) (fun e => hj' (by cases e; rfl))⟩
theorem keeps_below {W W' : World} (h : Below W.heap.size W W') : KeepsOthers W W' := KeepsOthers.of_grownBy (below_grown h none) (fun j o e => by cases e)
theorem keeps_row {W W' : World} {g : Nat} {xs : List Value} (h : W.grownBy W' (some g)) (hb : Blk W g xs) : KeepsOthers W W' := KeepsOthers.of_grownBy h (fun j o e ho => by
  cases e
  obtain ⟨t, ht⟩ := hb
  rw [ht] at ho
  cases ho
  rfl)
theorem Rd.keepX {g n : Nat} {W W' : World} {A : Option Addr} {xs : List Value} {b off : Nat} (h : Rd W n (some ⟨b, off, none⟩) xs) (k : KpX g n W W') (hb : b ≠ g) : Rd W' n (some ⟨b, off, none⟩) xs := fun hne => by
  obtain ⟨b', off', e, hlt, hc⟩ := h hne
  cases e
  exact ⟨b, off, rfl, hlt, fun i hi => (k.cell hlt hb _).trans (hc i hi)⟩
end Go.Proofs.YtchcmklelmlbgaaGreat.Ch

/- The library's slices.Backward at pending writes: its iterator's contract. -/
namespace Go.Proofs.YtchcmklelmlbgaaGreat.Disk
open Go.RowKit Go.Shelf
attribute [local go_sem] Oper.semAt_some
set_option linter.unusedVariables false

theorem wpListIn_load_mid {F : Fence} {n : Nat} {P : Program} {w : World} {ops : Array Oper} {rest : List Oper} {o : Oper} {a : Act} {Q : Exit → Act → World → Prop} (hg : o.guard = none) (t : TypeId) (x : Operand) (ho : o.op = .load t x)
    (g off : Nat) (hx : a.eval x = .pointer (some ⟨g, off, none⟩)) (cs : List Value) (d : TypeDesc) (hc : w.rangeAt g off cs) (hu : P.underlying t = some d) (hd : d.isRow = true) (hi : (P.info? t).map (·.size) = some cs.length)
    (h : wpListIn F n P ops Q rest (a.put o.dst (.agg cs.toArray)) w) : wpListIn F n P ops Q (o :: rest) a w := by
  refine wpListIn_plain hg fun K hK => ?_
  unfold Oper.wpIn
  refine ⟨by simp [Oper.about, ho], ?_⟩
  rw [Oper.semAt_plain F _ _ (by rw [ho]; intro c hc'; cases hc')]
  simp [execOp, ho, hx, Instr.loadAt, Instr.sureAddr, run_loadVar_mid w g off t cs d hc hu hd hi]
  exact hK _ _ h
theorem wpListIn_allocT {F : Fence} {n : Nat} {P : Program} {w : World} {ops : Array Oper} {rest : List Oper} {o : Oper} {a : Act} {Q : Exit → Act → World → Prop} (hg : o.guard = none) (t : TypeId) (ho : o.op = .alloc t) (xs : List Value)
    (hz : ∀ w, (zeroValue t).run P w = .ok (arrV xs) w)
    (h : ∀ w1, BlkT w1 w.heap.size t xs → Below w.heap.size w w1 → wpListIn F n P ops Q rest (a.put o.dst (.pointer (some ⟨w.heap.size, 0, none⟩))) w1) : wpListIn F n P ops Q (o :: rest) a w := by
  refine wpListIn_plain hg fun K hK => ?_
  unfold Oper.wpIn
  refine ⟨by simp [Oper.about, ho], ?_⟩
  rw [Oper.semAt_plain F _ _ (by rw [ho]; intro c hc'; cases hc')]
  simp [execOp, ho, Instr.alloc, hz, go_sem, arrV]
  exact hK _ _ (h _ (heap_alloc_new w _) (b1alloc _ _))
theorem wpListIn_storeT {F : Fence} {n : Nat} {P : Program} {w : World} {ops : Array Oper} {rest : List Oper} {o : Oper} {a : Act} {Q : Exit → Act → World → Prop} (hgd : o.guard = none) (t : TypeId) (x y : Operand) (ho : o.op = .store t x y)
    {g : Nat} {t' : TypeId} (hx : a.eval x = .pointer (some ⟨g, 0, none⟩)) {xs ys : List Value} (hy : a.eval y = arrV ys) (hb : BlkT w g t' xs) (hl : xs.length = ys.length) (h1 : ∀ v ∈ ys, v.oneCell' = true) (hi : (P.info? t).map (·.size) = some ys.length)
    (h : ∀ w1, BlkT w1 g t' ys → w.grownBy w1 (some g) → wpListIn F n P ops Q rest (a.put o.dst undef) w1) : wpListIn F n P ops Q (o :: rest) a w := by
  have hb0 : w.heap[g]? = some (.cells xs.toArray t' (0, 0)) := hb
  refine wpListIn_plain hgd fun K hK => ?_
  have := run_storeVar_row (P := P) w g t' t _ ys.toArray hb0 (by simpa using hi) (by simpa using hl) (by simpa using h1)
  unfold Oper.wpIn
  refine ⟨by simp [Oper.about, ho], ?_⟩
  rw [Oper.semAt_plain F _ _ (by rw [ho]; intro c hc'; cases hc')]
  unfold arrV at hy
  simp [execOp, ho, hx, hy, Instr.storeAt, Instr.sureAddr, this]
  exact hK _ _ (h _ (setRow_heap w g _ _ t' _ hb0) (setRow_grown _ _ _))
/-- a block of cells stays, whatever is turned that is no cells -/
theorem blkT_from {β : Type} {B : Nat} (b : Nat) (t : TypeId) (xs : List Value) : OwnFrom B (fun (_ : β) W => BlkT W b t xs) := fun s W W' row hs hg hr =>
  (hg.block b (lt_of_block hs) (fun e => by
    obtain ⟨_, o, ho, hc⟩ := hr b e.symm
    rw [show W.heap[b]? = _ from hs] at ho
    cases ho; cases hc)).trans hs
/-- the k-th but last -/
def bk (m k : Nat) (h : k < m) : Fin m := ⟨m - 1 - k, by omega⟩
def bkAll (m : Nat) : List (Fin m) := (List.finRange m).reverse
theorem bkAll_len (m : Nat) : (bkAll m).length = m := by simp [bkAll]
theorem bkAll_take {m k : Nat} (h : k < m) : (bkAll m).take (k + 1) = (bkAll m).take k ++ [bk m k h] := by
  rw [List.take_succ_eq_append_getElem (by rw [bkAll_len]; exact h)]
  congr 1
  simp only [bkAll, List.getElem_reverse, List.length_finRange, List.getElem_finRange, bk, Fin.cast_mk]
def encW (l : List Wr) (x : Fin l.length) : Array Value := #[.int .i64 (x.1 : Int), arrV (wcells l[x.1])]
set_option maxRecDepth 100000 in
set_option maxHeartbeats 1000000 in
theorem back1_in (n : Nat) (hn : 1 ≤ n) (n0 l Bs cp : Nat) (Ap : Option Addr) (pend : List Wr) (hp : ∀ x ∈ pend, x.2.length = 512) (hreach : pend.length ≤ 1000000000) (hBs0 : Bs < n0) (J Jx : List (Fin pend.length) → World → Prop)
    (hY : ∀ pre x W, J pre W → pre.length < pend.length → YieldAt Fence.wide (n - 1) Tryz.prog l (encW pend x) W fun e W' =>
      (e = .returned (.bool true) ∧ J (pre ++ [x]) W' ∧ Below n0 W W') ∨ (e = .returned (.bool false) ∧ Jx (pre ++ [x]) W'))
    (W : World) (hBs : W.cell? ⟨Bs, 0, none⟩ = some (.slice Ap pend.length cp)) (hAp : ∀ k (hk : k < pend.length), ∃ gp, Ap = some ⟨gp, 0, none⟩ ∧ gp < n0 ∧ W.rangeAt gp (k * 513) (wcells pend[k])) (h0 : J [] W) :
    CallsIn Fence.wide n Tryz.prog 136 #[.func (.yield l) #[] #[], .pointer (some ⟨Bs, 0, none⟩)] W fun e W' => (∃ v, e = .returned v) ∧
      ((∃ ys, ys = bkAll pend.length ∧ J ys W') ∨ (∃ pre, (∃ k, k ≤ pend.length ∧ pre = (bkAll pend.length).take k) ∧ Jx pre W')) := by
  refine callsIn_of_wp Tryz.func136 rfl trivial ?_ rfl
  simp only [Tryz.ntmps136, List.size_toArray, List.length_cons, List.length_nil, Nat.reduceAdd, Nat.reduceSub, Array.replicate_succ, Array.replicate_zero, List.push_toArray, List.append_toArray, List.nil_append, List.cons_append]
  gi_wp2
  gi_loopw [3] (fun i wr => ∃ k : Nat, k ≤ pend.length ∧ i = .int .i64 ((pend.length : Int) - 1 - (k : Int)) ∧ J ((bkAll pend.length).take k) wr ∧ Below n0 W wr)
    (fun i _ => (intOf i + 1).toNat)
  case atStart => exact ⟨0, Nat.zero_le _, by go_num, h0, Below.refl _ _⟩
  case round =>
    obtain ⟨k, hk, rfl, hJs, hB⟩ := hrel
    by_cases hlt : k < pend.length
    · have hle : pend.length - 1 - k < pend.length := by omega
      obtain ⟨gp, rfl, hgp, hr0⟩ := hAp (pend.length - 1 - k) hle
      have hcs : wr.cell? ⟨Bs, 0, none⟩ = some (.slice (some ⟨gp, 0, none⟩) pend.length cp) := (hB.cell (p := ⟨Bs, 0, none⟩) hBs0).trans hBs
      have hrg : wr.rangeAt gp ((pend.length - 1 - k) * 513) (wcells pend[pend.length - 1 - k]) := fun j v hv => (hB.cell (p := ⟨gp, _, none⟩) hgp).trans (hr0 j v hv)
      obtain ⟨fn, tmps, assign, body, hy, hR⟩ := hY ((bkAll pend.length).take k) (bk pend.length k hlt) wr hJs (by rw [List.length_take, bkAll_len]; omega)
      unfold encW bk arrV at hy
      obtain ⟨x, hx⟩ : ∃ x, x = pend[pend.length - 1 - k] := ⟨_, rfl⟩
      simp only [← hx] at hy hrg
      have hszw := wcells_szW (hp x (by rw [hx]; exact List.getElem_mem _))
      have huw := Tryz.underlying115
      obtain ⟨j, hj⟩ : ∃ j, j = pend.length - 1 - k := ⟨_, rfl⟩
      rw [← hj] at hy hrg hle
      have hjI : (pend.length : Int) - 1 - (k : Int) = (j : Int) := by omega
      rw [hjI]
      have Hj := Lib.hid hj
      have hjl : (j : Int) < (pend.length : Int) := by omega
      clear hx hr0 hj hjI hAp
      gi_wp2_with (refine wpListIn_load_mid rfl _ _ rfl gp (j * 513) rfl (wcells x) _ hrg huw rfl hszw ?_)
      refine hR.mono ?_
      rintro e W3 (⟨rfl, hJ3, hk3⟩ | ⟨rfl, hJx3⟩)
      · have H5 := Lib.hid (show (j : Int) - 1 = (pend.length : Int) - 1 - ((k + 1 : Nat) : Int) by have := Hj.out; omega)
        gi_wp2
        go_roundw
        case rel => exact ⟨k + 1, by omega, by rw [H5.out], by rw [bkAll_take hlt]; exact hJ3, hB.trans hk3⟩
        case measure => first | (simp [intOf]; done) | (simp [intOf]; have := Hj.out; omega)
      · gi_wp2
        refine bodyPost_ret (results_none rfl _ _ _) rfl ?_
        exact ⟨⟨_, rfl⟩, .inr ⟨_, ⟨k + 1, by omega, (bkAll_take hlt).symm⟩, hJx3⟩⟩
    · obtain rfl : k = pend.length := by omega
      have hneg : ¬ (0 : Int) ≤ (pend.length : Int) - 1 - (pend.length : Int) := by omega
      gi_wp2
      go_end0
      rw [List.take_of_length_le (by rw [bkAll_len]; exact Nat.le_refl _)] at hJs
      exact ⟨⟨_, rfl⟩, .inl (by first | exact hJs | exact ⟨_, rfl, hJs⟩)⟩
theorem back_stops (n : Nat) (hn : 1 ≤ n) (n0 Bs cp : Nat) (Ap : Option Addr) (pend : List Wr) (hp : ∀ x ∈ pend, x.2.length = 512) (hreach : pend.length ≤ 1000000000) (w : World) (hBs0 : Bs < n0) (hn0 : n0 ≤ w.heap.size) (hBs : w.cell? ⟨Bs, 0, none⟩ = some (.slice Ap pend.length cp))
    (hAp : ∀ k (hk : k < pend.length), ∃ gp, Ap = some ⟨gp, 0, none⟩ ∧ gp < n0 ∧ w.rangeAt gp (k * 513) (wcells pend[k])) :
    SeqStopsK Fence.wide n Tryz.prog 136 #[.pointer (some ⟨Bs, 0, none⟩)] (encW pend) (Below n0) (fun ys => ys = bkAll pend.length) (fun pre => ∃ k, k ≤ pend.length ∧ pre = (bkAll pend.length).take k) pend.length w := fun l J Jx W hW hJ hJx hY h0 =>
  back1_in n hn n0 l Bs cp Ap pend hp hreach hBs0 J Jx hY W ((hW.cell (p := ⟨Bs, 0, none⟩) (by show Bs < _; omega)).trans hBs)
    (fun k hk => by
      obtain ⟨gp, h1, h2, h3⟩ := hAp k hk
      exact ⟨gp, h1, h2, fun j v hv => (hW.cell (p := ⟨gp, _, none⟩) (by show gp < _; omega)).trans (h3 j v hv)⟩) h0
set_option maxRecDepth 100000 in
set_option maxHeartbeats 400000 in
theorem backward_any (A : Option Addr) (n c : Nat) (w : World) :
    Calls Tryz.prog 125 #[.slice A n c] w fun e w' => e = .returned (.func (.func 136) #[] #[.pointer (some ⟨w.heap.size, 0, none⟩)]) ∧
      w'.cell? ⟨w.heap.size, 0, none⟩ = some (.slice A n c) ∧ Below w.heap.size w w' ∧ w.heap.size < w'.heap.size := by
  go_enter Tryz.func125, Tryz.ntmps125
  go_wp2
  go_ret
  refine ⟨rfl, ?_, b1alloc _ _, ?_⟩
  all_goals simp
end Go.Proofs.YtchcmklelmlbgaaGreat.Disk

/- The walk of disk.Read. -/
namespace Go.Proofs.YtchcmklelmlbgaaGreat.Disk
open Go.RowKit Go.Shelf Go.Proofs.YtchcmklelmlbgaaGreat.Ch
attribute [local go_sem] Oper.semAt_some
set_option linter.unusedVariables false
set_option maxRecDepth 100000

/-- what is read: the newest pending write of the place, else what is kept -/
theorem kept_pend (all pend : List Wr) (p : Nat) (k : Nat) (hk : k < pend.length) (hp : pend[pend.length - 1 - k].1 = p) (hno : ∀ j, j < k → ∀ (h : pend.length - 1 - j < pend.length), pend[pend.length - 1 - j].1 ≠ p) : kept (all ++ pend) p = pend[pend.length - 1 - k].2 := by
  obtain ⟨i, hi⟩ : ∃ i, i = pend.length - 1 - k := ⟨_, rfl⟩
  have hil : i < pend.length := by omega
  have hsplit : all ++ pend = (all ++ pend.take i ++ [pend[i]]) ++ pend.drop (i + 1) := by
    rw [List.append_assoc all, ← List.take_succ_eq_append_getElem hil, List.append_assoc, List.take_append_drop]
  rw [hsplit, kept_append _ _ _ (fun w hw => by
    obtain ⟨j, hj, rfl⟩ := List.getElem_of_mem hw
    rw [List.length_drop] at hj
    rw [List.getElem_drop]
    have := hno (k - 1 - j) (by omega) (by omega)
    have he : pend.length - 1 - (k - 1 - j) = i + 1 + j := by omega
    simp only [he] at this
    exact this), kept_snoc]
  subst hi
  rw [if_pos hp]
theorem kept_none (all pend : List Wr) (p : Nat) (hno : ∀ j, j < pend.length → ∀ (h : pend.length - 1 - j < pend.length), pend[pend.length - 1 - j].1 ≠ p) : kept (all ++ pend) p = kept all p :=
  kept_append _ _ _ (fun w hw => by
    obtain ⟨j, hj, rfl⟩ := List.getElem_of_mem hw
    have := hno (pend.length - 1 - j) (by omega) (by omega)
    have he : pend.length - 1 - (pend.length - 1 - j) = j := by omega
    simp only [he] at this
    exact this)
/-- what Read tells -/
def Told8 (w w' : World) (r : List UInt8 × Int) (e : Ending) : Prop := ∃ v, e = .returned (.tuple #[v, .int .i64 r.2]) ∧ New8 w w' r.1 v ∧ Below w.heap.size w w'
/-- the walk stopped at the newest write of the place: its row lies in a block of its own, the results in their cells -/
def Hit (X : World) (B : Nat) (q : Nat) (pend : List Wr) (pre : List (Fin pend.length)) : Prop :=
  ∃ (pre0 : List (Fin pend.length)) (x : Fin pend.length) (bx : Nat), pre = pre0 ++ [x] ∧ (∀ y ∈ pre0, pend[y.1].1 ≠ q) ∧ pend[x.1].1 = q ∧ B ≤ bx ∧
    (BlkT X (B + 1) 51 [.slice (some ⟨bx, 1, none⟩) 512 512] ∧ BlkT X (B + 1 + 1) 29 [.int .i64 0] ∧ BlkT X bx 115 (wcells pend[x.1]))
theorem hit_from {B0 B q : Nat} {pend : List Wr} : OwnFrom B0 (fun pre W => Hit W B q pend pre) := fun pre W W' row hs hg hr => by
  obtain ⟨pre0, x, bx, h1, h2, h3, h4, h5, h6, h7⟩ := hs
  exact ⟨pre0, x, bx, h1, h2, h3, h4, blkT_from (β := Unit) _ _ _ () W W' row h5 hg hr, blkT_from (β := Unit) _ _ _ () W W' row h6 hg hr, blkT_from (β := Unit) _ _ _ () W W' row h7 hg hr⟩
theorem new8_wait {w X : World} {bx : Nat} {x : Wr} (hbx : w.heap.size ≤ bx) (h : BlkT X bx 115 (wcells x)) (hl : x.2.length = 512) : New8 w X x.2 (.slice (some ⟨bx, 1, none⟩) 512 512) := by
  refine ⟨_, 512, by rw [hl], by omega, by unfold maxLen; omega, fun _ => ⟨bx, 1, rfl, hbx, lt_of_block h, fun i hi => ?_⟩⟩
  have := blk_bytes (BlkT.blk h) i (x.2.map e8)[i] (List.getElem?_eq_getElem hi)
  exact this
theorem New8.move {w w1 w2 w3 : World} {l : List UInt8} {v : Value} (h : New8 w1 w2 l v) (hs : w.heap.size ≤ w1.heap.size) (hk : ∀ b, w1.heap.size ≤ b → b < w2.heap.size → w3.heap[b]? = w2.heap[b]?) (hz : w2.heap.size ≤ w3.heap.size) : New8 w w3 l v := by
  obtain ⟨A, c, h0, h1, h2, h3⟩ := h
  refine ⟨A, c, h0, h1, h2, fun hne => ?_⟩
  obtain ⟨b, off, h4, h5, h6, h7⟩ := h3 hne
  exact ⟨b, off, h4, by omega, by omega, fun i hi => (World.cell?_of_block (hk b h5 h6)).trans (h7 i hi)⟩
theorem hit_kept (all pend : List Wr) (q k : Nat) (hk : k ≤ pend.length) (pre0 : List (Fin pend.length)) (x : Fin pend.length) (hpk : pre0 ++ [x] = (bkAll pend.length).take k) (hno : ∀ y ∈ pre0, pend[y.1].1 ≠ q) (hxq : pend[x.1].1 = q) :
    kept (all ++ pend) q = pend[x.1].2 := by
  cases k with
  | zero => simp at hpk
  | succ k =>
    have hkl : k < pend.length := hk
    rw [bkAll_take hkl] at hpk
    obtain ⟨rfl, hx⟩ := List.append_inj' hpk rfl
    obtain rfl : x = bk pend.length k hkl := by simpa using hx
    refine kept_pend all pend q k (by omega) hxq (fun j hj h => ?_)
    refine hno (bk pend.length j (by omega)) ?_
    have h1 : bk pend.length j (by omega) ∈ (bkAll pend.length).take (j + 1) := by rw [bkAll_take (by omega)]; simp
    have h2 : (bkAll pend.length).take (j + 1) = ((bkAll pend.length).take k).take (j + 1) := by rw [List.take_take, Nat.min_eq_left (by omega)]
    rw [h2] at h1
    exact List.mem_of_mem_take h1
set_option maxHeartbeats 2000000 in
theorem read_any (g : Nat) (fp : List Nat) (s : St) (p : Int) (w : World) (h : DAt w g fp s) (hs : s.sz ≤ 100000000) :
    Calls Tryz.prog 111 #[.pointer (some ⟨g, 0, none⟩), .int .i64 p] w fun e w' => Told8 w w' (read s p) e := by
  have hdn := fun W (hW : Below w.heap.size w W) => down_any g fp s W (h.on hW)
  have has := fun W (hW : Below w.heap.size w W) => asked_any g fp s p W (h.on hW)
  have bw3 := b3alloc w (.cells #[.int .i64 p] 3) (.cells #[.slice none 0 0] 51) (.cells #[.int .i64 0] 29)
  cases hd : s.down with
  | true =>
    have hw : read s p = ([], 12) := by unfold read; rw [if_pos hd]
    rw [hw]
    rw [hd] at hdn
    have Hdn := Lib.hid hdn
    clear hw hd has hdn
    go_enter Tryz.func111, Tryz.ntmps111
    go_wp2_with fail
    go_step3
    go_wp2_with fail
    refine (Hdn.out _ bw3).mono ?_
    rintro e w1 ⟨rfl, rfl⟩
    go_wp2
    rw [Exit.noGoto_ret]
    refine bodyPost_ret (v := .tuple #[.slice none 0 0, .int .i64 12]) (by simp [results, Tryz.results111, go_sem]) rfl ?_
    exact ⟨_, rfl, New8.nil _ _, b3alloc _ _ _ _⟩
  | false =>
    rw [hd] at hdn
    have Hdn := Lib.hid hdn
    by_cases hp : p < 0 ∨ (s.size : Int) ≤ p
    · have hw : read s p = ([], 2) := by unfold read; rw [if_neg (by simp [hd]), if_pos hp]
      have hf : askF s p = 2 := if_pos hp
      rw [hw]
      rw [hf] at has
      have Has := Lib.hid has
      clear hw hd has hdn hp hf
      go_enter Tryz.func111, Tryz.ntmps111
      go_wp2_with fail
      go_step3
      go_wp2_with fail
      refine (Hdn.out _ bw3).mono ?_
      rintro e w1 ⟨rfl, rfl⟩
      go_wp2_with fail
      refine (Has.out _ bw3).mono ?_
      rintro e w1 ⟨rfl, rfl⟩
      go_wp2
      rw [Exit.noGoto_ret]
      refine bodyPost_ret (v := .tuple #[.slice none 0 0, .int .i64 2]) (by simp [results, Tryz.results111, go_sem]) rfl ?_
      exact ⟨_, rfl, New8.nil _ _, b3alloc _ _ _ _⟩
    · have hf : askF s p = 0 := if_neg hp
      have hw : read s p = (kept (s.all ++ s.pend) p.toNat, 0) := by unfold read; rw [if_neg (by simp [hd]), if_neg hp]
      rw [hw]
      rw [hf] at has
      have Has := Lib.hid has
      obtain ⟨q, rfl⟩ : ∃ q : Nat, p = (q : Int) := ⟨p.toNat, by omega⟩
      rw [Int.toNat_natCast]
      have hka := kept_any g fp s (q : Int)
      rw [show keptAt s (q : Int) = kept s.all q from by rw [keptAt, if_neg hp, Int.toNat_natCast]] at hka
      have Hka := Lib.hid hka
      obtain ⟨vk, vp, va, acs, hL⟩ := h
      obtain ⟨Ap, cp, rfl⟩ := own_form hL.pend
      have hL3 := hL.on bw3
      obtain ⟨_, d1, _, _, _, _, _⟩ := six hL3.blk
      have hpl : s.pend.length ≤ 100000000 := by unfold St.sz at hs; omega
      clear hw hd has hdn hp hf hka
      refine (callsIn_wide (n := 8)).1 ?_
      refine callsIn_of_wp_marks Tryz.func111 rfl trivial ?_ rfl
      simp only [Tryz.ntmps111, List.size_toArray, List.length_cons, List.length_nil, Nat.reduceAdd, Nat.reduceSub, Array.replicate_succ, Array.replicate_zero, List.push_toArray, List.append_toArray, List.nil_append, List.cons_append]
      gi_wp2_with fail
      refine wpIn_wide.2 (wp_scope_straight ((wpIn_wide (n := 8)).1 ?_))
      gi_wp2_with fail
      have e3 : (((w.alloc (.cells #[.int .i64 (q : Int)] 3)).alloc (.cells #[.slice none 0 0] 51)).alloc (.cells #[.int .i64 0] 29)).heap[w.heap.size]? = some (.cells #[.int .i64 (q : Int)] 3 (0, 0)) :=
        (Below.heap_alloc _ _ _ (by simp; omega)).trans ((Below.heap_alloc _ _ _ (by simp)).trans (heap_alloc_new w _))
      have e4 : (((w.alloc (.cells #[.int .i64 (q : Int)] 3)).alloc (.cells #[.slice none 0 0] 51)).alloc (.cells #[.int .i64 0] 29)).heap[w.heap.size + 1]? = some (.cells #[.slice none 0 0] 51 (0, 0)) :=
        (Below.heap_alloc _ _ _ (by simp)).trans (by have := heap_alloc_new (w.alloc (.cells #[.int .i64 (q : Int)] 3)) (.cells #[.slice none 0 0] 51); simpa using this)
      have e5 : (((w.alloc (.cells #[.int .i64 (q : Int)] 3)).alloc (.cells #[.slice none 0 0] 51)).alloc (.cells #[.int .i64 0] 29)).heap[w.heap.size + 1 + 1]? = some (.cells #[.int .i64 0] 29 (0, 0)) := by
        have := heap_alloc_new ((w.alloc (.cells #[.int .i64 (q : Int)] 3)).alloc (.cells #[.slice none 0 0] 51)) (.cells #[.int .i64 0] 29)
        simpa using this
      have hs3 : (((w.alloc (.cells #[.int .i64 (q : Int)] 3)).alloc (.cells #[.slice none 0 0] 51)).alloc (.cells #[.int .i64 0] 29)).heap.size = w.heap.size + 3 := by simp
      obtain ⟨w3, hw3⟩ : ∃ w3, w3 = ((w.alloc (.cells #[.int .i64 (q : Int)] 3)).alloc (.cells #[.slice none 0 0] 51)).alloc (.cells #[.int .i64 0] 29) := ⟨_, rfl⟩
      rw [← hw3] at bw3 hL3 d1 e3 e4 e5 hs3 ⊢
      replace hs3 := Nat.le_of_eq hs3.symm
      clear hw3
      have c3 := cell_of_one e3
      refine ⟨trivial, (callsIn_wide.2 (Hdn.out _ bw3)).mono ?_⟩
      rintro e w1 ⟨rfl, rfl⟩
      gi_wp2_with fail
      refine ⟨trivial, (callsIn_wide.2 (Has.out _ bw3)).mono ?_⟩
      rintro e w1 ⟨rfl, rfl⟩
      gi_wp2_with fail
      refine wpIn_label ?_
      gi_wp2_with fail
      refine ⟨trivial, (callsIn_wide.2 (backward_any Ap s.pend.length cp _)).mono ?_⟩
      rintro e w6 ⟨rfl, cs6, b6, hs6⟩
      gi_wp2_with fail
      have hp512 : ∀ x ∈ s.pend, x.2.length = 512 := fun x hx => (hL3.ok.pend x hx).2
      have hAp : ∀ k (hk : k < s.pend.length), ∃ gp, Ap = some ⟨gp, 0, none⟩ ∧ gp < w6.heap.size ∧ w6.rangeAt gp (k * 513) (wcells s.pend[k]) := fun k hk => by
        obtain ⟨gp, cp', e0, _⟩ := own_some hL3.pend (by omega)
        obtain ⟨rfl, rfl⟩ : Ap = some ⟨gp, 0, none⟩ ∧ cp = cp' := by injection e0 with e1 e2 e3; exact ⟨e1, e3⟩
        obtain ⟨cs, hcs⟩ := own_blk hL3.pend
        exact ⟨gp, rfl, Nat.lt_of_lt_of_le (lt_of_block hcs) b6.size, fun j v hv => (b6.cell (p := ⟨gp, _, none⟩) (lt_of_block hcs)).trans (pend_range hL3 k hk j v hv)⟩
      have hlt3 : w3.heap.size ≤ w6.heap.size := b6.size
      have f3 : BlkT w6 w.heap.size 3 [.int .i64 (q : Int)] := (b6.block _ (by omega)).trans e3
      have f4 : BlkT w6 (w.heap.size + 1) 51 [.slice none 0 0] := (b6.block _ (by omega)).trans e4
      have f5 : BlkT w6 (w.heap.size + 1 + 1) 29 [.int .i64 0] := (b6.block _ (by omega)).trans e5
      have hL6 := hL3.on b6
      have bw6 : Below w.heap.size w w6 := bt bw3 b6
      have HAp := Lib.hid hAp
      have h512 := Lib.hid hp512
      clear hAp hp512 d1 c3 e3 e4 e5 b6 hL3 bw3
      refine wpIn_rangeFunc_ownH (n := 8) rfl (by omega) (gf := 136) (lb := #[.pointer (some ⟨w3.heap.size, 0, none⟩)]) rfl trivial (enters_of Tryz.func136 (by kernel_rfl) rfl)
        (back_stops (8 - 1) (by omega) w6.heap.size w3.heap.size cp Ap s.pend h512.out (by omega) w6 hs6 (Nat.le_refl _) cs6 HAp.out) belowK_t (belowK_b (Nat.le_refl _)) (Below.refl _ _) (fun _ => rfl)
        (fun pre X => Below w6.heap.size w6 X ∧ Hid (∀ y ∈ pre, s.pend[y.1].1 ≠ q))
        (fun c pre X => c = .ret ∧ Hit X w.heap.size q s.pend pre ∧ Below w.heap.size w X)
        (OwnFrom.and (ownFrom_below (Nat.le_refl _) (Nat.le_refl _)) (fun _ _ _ _ hs _ _ => hs))
        (fun c => OwnFrom.and (fun _ _ _ _ hs _ _ => hs) (OwnFrom.and hit_from (ownFrom_below (Nat.le_refl _) bw6.size)))
        ⟨Below.refl _ _, Lib.hid (fun y hy => by cases hy)⟩
        (fun x a' W => ∃ Bx, w6.heap.size ≤ Bx ∧ BlkT W Bx 115 (wcells s.pend[x.1]) ∧ a' = { tmps := #[.pointer (some ⟨g, 0, none⟩), .int .i64 (q : Int), undef, .pointer (some ⟨w.heap.size, 0, none⟩), .pointer (some ⟨w.heap.size + 1, 0, none⟩), .pointer (some ⟨w.heap.size + 1 + 1, 0, none⟩), .int .i64 0, undef, .pointer (some ⟨Bx, 0, none⟩),
          .pointer (some ⟨g, 0, none⟩), .bool false, .pointer (some ⟨g, 0, none⟩), .int .i64 (q : Int), .int .i64 0, .int .i64 0, .bool false, undef, .pointer (some ⟨g, 0, none⟩), .pointer (some ⟨g, 0, none⟩), .pointer (some ⟨g, 1, none⟩), .slice Ap s.pend.length cp, .func (.func 136) #[] #[.pointer (some ⟨w3.heap.size, 0, none⟩)],
          .int .i64 (x.1 : Int), .agg (wcells s.pend[x.1]).toArray, undef, undef, undef, undef, undef, undef, undef, undef, undef], defers := [] })
        (fun x a' _ X Y row hs hg hr => by obtain ⟨Bx, h1, h2, h3⟩ := hs; exact ⟨Bx, h1, blkT_from (β := Unit) Bx _ _ () X Y row h2 hg hr, h3⟩)
        ?assign ?body ?done ?stop
      case assign =>
        rintro l pre x X K ⟨bX, hno⟩ hK
        have hx2 := h512.out _ (List.getElem_mem x.2)
        obtain ⟨y, hy⟩ : ∃ y, y = s.pend[x.1] := ⟨_, rfl⟩
        rw [← hy] at hx2 hK
        unfold encW arrV
        rw [← hy]
        have hyl := wcells_len hx2
        have hszw := wcells_szW hx2
        have hzl : (wcells (0, zero512)).length = (wcells y).length := by rw [hyl, wcells_len (show ((0, zero512) : Wr).2.length = 512 from by simp [zero512])]
        have h1y : ∀ v ∈ wcells y, v.oneCell' = true := wcells_one _
        clear hy
        simp [List.zip_toArray, List.setIfInBounds_toArray]
        gi_wp2_with (first
          | (refine wpListIn_allocT rfl _ rfl (wcells (0, zero512)) zeroW ?_; intro X1 hb1 bX1)
          | (refine wpListIn_storeT rfl _ _ _ rfl rfl (ys := wcells y) rfl hb1 hzl h1y hszw ?_; intro X2 hb2 hg2))
        have b12 : Below X.heap.size X X2 := below_row bX1 hg2 (Nat.le_refl _) bX1.size
        exact hK _ _ ((keeps_below b12).from _) (b12.mono bX.size) ⟨bX.trans (b12.mono bX.size), hno⟩ ⟨X.heap.size, bX.size, hb2, rfl⟩
      case body =>
        rintro l pre x a' X hlw hlr ⟨bX, hno⟩ ⟨Bx, hBx, hb, rfl⟩ hpm
        obtain ⟨y, hy⟩ : ∃ y, y = s.pend[x.1] := ⟨_, rfl⟩
        have hx2 := h512.out _ (List.getElem_mem x.2)
        rw [← hy] at hb hx2
        have hlB : Bx < X.heap.size := lt_of_block hb
        have hcx : X.cell? ⟨Bx, 0, none⟩ = some (.int .i64 (y.1 : Int)) := by
          have := hb.blk.cell (k := 0) (by simp [wcells])
          simpa [wcells] using this
        have hcq : X.cell? ⟨w.heap.size, 0, none⟩ = some (.int .i64 (q : Int)) := cell_of_one ((bX.block _ (by omega)).trans f3)
        have g4 : Boxed X (w.heap.size + 1) 51 (.slice none 0 0) := (bX.block _ (by omega)).trans f4
        have g5 : Boxed X (w.heap.size + 1 + 1) 29 (.int .i64 0) := (bX.block _ (by omega)).trans f5
        have bwX : Below w.heap.size w X := bw6.trans (bX.mono bw6.size)
        have Hy := Lib.hid hy
        simp only [← hy]
        clear hy f3 f4 f5 HAp hL6 cs6
        by_cases hq : y.1 = q
        · have hnn : ((y.1 : Int) != (q : Int)) = false := by simp [hq]
          have hc4 := g4.cell
          have hv4 := g4.frozen
          have g5' := g5.other (B' := w.heap.size + 1) (by omega) (.slice (some ⟨Bx, 1, none⟩) 512 512)
          have hc5 := g5'.cell
          have hv5 := g5'.frozen
          have hb' : BlkT (X.setCell ⟨w.heap.size + 1, 0, none⟩ (.slice (some ⟨Bx, 1, none⟩) 512 512)) Bx 115 (wcells y) := ((grownBy_setCell' X (w.heap.size + 1) _).block Bx hlB (by simp; omega)).trans hb
          have hb'' : BlkT ((X.setCell ⟨w.heap.size + 1, 0, none⟩ (.slice (some ⟨Bx, 1, none⟩) 512 512)).setCell ⟨w.heap.size + 1 + 1, 0, none⟩ (.int .i64 0)) Bx 115 (wcells y) := ((grownBy_setCell' _ (w.heap.size + 1 + 1) _).block Bx (lt_of_block hb') (by simp; omega)).trans hb'
          have h4' := (g4.set (.slice (some ⟨Bx, 1, none⟩) 512 512)).other (B' := w.heap.size + 1 + 1) (by omega) (.int .i64 0)
          have h5' := g5'.set (.int .i64 0)
          have hk : KeepsOthers X ((X.setCell ⟨w.heap.size + 1, 0, none⟩ (.slice (some ⟨Bx, 1, none⟩) 512 512)).setCell ⟨w.heap.size + 1 + 1, 0, none⟩ (.int .i64 0)) :=
            (keeps_row (grownBy_setCell' X (w.heap.size + 1) _) (BlkT.blk g4)).trans (keeps_row (grownBy_setCell' _ (w.heap.size + 1 + 1) _) (BlkT.blk g5'))
          have hbw := (bwX.setCell (p := ⟨w.heap.size + 1, 0, none⟩) (by show w.heap.size ≤ w.heap.size + 1; omega) (.slice (some ⟨Bx, 1, none⟩) 512 512)).setCell (p := ⟨w.heap.size + 1 + 1, 0, none⟩) (by show w.heap.size ≤ w.heap.size + 1 + 1; omega) (.int .i64 0)
          gi_wp2_with fail
          refine ⟨hk.from _, rfl, ⟨pre, x, Bx, rfl, hno.out, by rw [← Hy.out]; exact hq, by omega, h4', h5', by rw [← Hy.out]; exact hb''⟩, hbw⟩
        · have hnn : ((y.1 : Int) != (q : Int)) = true := by simp; omega
          gi_wp2_with fail
          refine ⟨(keeps_below (Below.refl _ _)).from _, Below.refl _ _, bX, Lib.hid (fun z hz => ?_)⟩
          rcases List.mem_append.1 hz with hz | hz
          · exact hno.out z hz
          · obtain rfl := List.mem_singleton.1 hz
            rw [← Hy.out]; exact hq
      case done =>
        rintro D ys X hD rfl ⟨bX, hno⟩ hKD
        have hDX : D < X.heap.size := lt_of_block hKD
        have hno2 : ∀ j, j < s.pend.length → ∀ (h : s.pend.length - 1 - j < s.pend.length), s.pend[s.pend.length - 1 - j].1 ≠ q := fun j hj h => hno.out ⟨s.pend.length - 1 - j, h⟩ (by simp [bkAll])
        have Hkn := Lib.hid (kept_none s.all s.pend q hno2)
        have g4 : Boxed X (w.heap.size + 1) 51 (.slice none 0 0) := (bX.block _ (by omega)).trans f4
        have g5 : Boxed X (w.heap.size + 1 + 1) 29 (.int .i64 0) := (bX.block _ (by omega)).trans f5
        have hcq : X.cell? ⟨w.heap.size, 0, none⟩ = some (.int .i64 (q : Int)) := cell_of_one ((bX.block _ (by omega)).trans f3)
        have bwX : Below w.heap.size w X := bw6.trans (bX.mono bw6.size)
        have Dx : DAt X g fp s := ⟨_, _, _, _, hL6.on bX⟩
        have hwX : w6.heap.size ≤ X.heap.size := bX.size
        clear hno2 f3 f4 f5 HAp hL6 cs6 hno bX
        gi_wp2_with fail
        refine ⟨trivial, (callsIn_wide.2 (Hka.out _ Dx)).mono ?_⟩
        rintro e w8 ⟨v8, rfl, hn8, b8⟩
        have hn9 := hn8
        obtain ⟨A8, c8, rfl, _⟩ := hn9
        have h84 : Boxed w8 (w.heap.size + 1) 51 (.slice none 0 0) := (b8.block _ (by omega)).trans g4
        have h85 : Boxed w8 (w.heap.size + 1 + 1) 29 (.int .i64 0) := (b8.block _ (by omega)).trans g5
        have h8D : w8.heap[D]? = some (.deferred (some [])) := (b8.block _ hDX).trans hKD
        have bw8 : Below w.heap.size w w8 := bwX.trans (b8.mono bwX.size)
        have hsz8 : X.heap.size ≤ w8.heap.size := b8.size
        clear g4 g5 hcq Dx hKD b8 bwX
        have hc4 := h84.cell
        have hv4 := h84.frozen
        have g5' := h85.other (B' := w.heap.size + 1) (by omega) (.slice A8 (kept s.all q).length c8)
        have hc5 := g5'.cell
        have hv5 := g5'.frozen
        gi_wp2_with fail
        have s1 := grownBy_setCell' w8 (w.heap.size + 1) (.slice A8 (kept s.all q).length c8)
        obtain ⟨wa, hwa⟩ : ∃ wa, wa = w8.setCell ⟨w.heap.size + 1, 0, none⟩ (.slice A8 (kept s.all q).length c8) := ⟨_, rfl⟩
        have h94 : Boxed wa (w.heap.size + 1) 51 (.slice A8 (kept s.all q).length c8) := by rw [hwa]; exact h84.set _
        have hba : Below w.heap.size w wa := by rw [hwa]; exact bw8.setCell (p := ⟨w.heap.size + 1, 0, none⟩) (by show w.heap.size ≤ w.heap.size + 1; omega) _
        have hka : ∀ b, b ≠ w.heap.size + 1 → b < w8.heap.size → wa.heap[b]? = w8.heap[b]? := fun b hb hl => by rw [hwa]; exact s1.block b hl (by simp; omega)
        have hza : wa.heap.size = w8.heap.size := by rw [hwa]; simp
        rw [← hwa] at g5' ⊢
        clear hwa s1 hc4 hv4 hc5 hv5 h84 h85
        have s2 := grownBy_setCell' wa (w.heap.size + 1 + 1) (.int .i64 0)
        obtain ⟨wb, hwb⟩ : ∃ wb, wb = wa.setCell ⟨w.heap.size + 1 + 1, 0, none⟩ (.int .i64 0) := ⟨_, rfl⟩
        have h95 : Boxed wb (w.heap.size + 1 + 1) 29 (.int .i64 0) := by rw [hwb]; exact g5'.set _
        have h96 : Boxed wb (w.heap.size + 1) 51 (.slice A8 (kept s.all q).length c8) := by rw [hwb]; exact h94.other (by omega) _
        have hbb : Below w.heap.size w wb := by rw [hwb]; exact hba.setCell (p := ⟨w.heap.size + 1 + 1, 0, none⟩) (by show w.heap.size ≤ w.heap.size + 1 + 1; omega) _
        have hkb : ∀ b, b ≠ w.heap.size + 1 → b ≠ w.heap.size + 1 + 1 → b < w8.heap.size → wb.heap[b]? = w8.heap[b]? := fun b hb hb2 hl => by rw [hwb]; exact (s2.block b (by omega) (by simp; omega)).trans (hka b hb hl)
        have hzb : wb.heap.size = w8.heap.size := by rw [hwb]; simp [hza]
        rw [← hwb]
        clear hwb s2 g5' h94 hba hka hza
        have hKb : wb.heap[D]? = some (.deferred (some [])) := (hkb D (by omega) (by omega) (by omega)).trans h8D
        have hc4 : ((wb.putObj D (.deferred none))).cell? ⟨w.heap.size + 1, 0, none⟩ = some (.slice A8 (kept s.all q).length c8) :=
          (World.cell?_of_block (World.putObj_heap_other (by dsimp only; omega))).trans h96.cell
        have hc5 : ((wb.putObj D (.deferred none))).cell? ⟨w.heap.size + 1 + 1, 0, none⟩ = some (.int .i64 0) :=
          (World.cell?_of_block (World.putObj_heap_other (by dsimp only; omega))).trans h95.cell
        rw [Exit.noGoto_ret]
        refine ⟨by simp, .inl ⟨_, _, rfl, run_takeDeferred hKb, ?_⟩⟩
        refine ⟨.tuple #[.slice A8 (kept s.all q).length c8, .int .i64 0], (by simp [results, Tryz.results111, go_sem, hc4, hc5]), ?_⟩
        refine ⟨_, rfl, ?_, hbb.trans (belowK_b (w := w) (Nat.le_refl _) _ D _ _ (by omega) hKb rfl rfl)⟩
        rw [Hkn.out]
        exact hn8.move (by omega) (fun b h1 h2 => (World.putObj_heap_other (by omega)).trans (hkb b (by omega) (by omega) h2)) (by simp; omega)
      case stop =>
        rintro D c pre X hD hpre ⟨rfl, hit, hB⟩ hKD
        obtain ⟨k, hk, hpk⟩ := hpre
        obtain ⟨pre0, x, bx, rfl, hno, hxq, hbx, h4, h5, hb⟩ := hit
        have Hkp := Lib.hid (hit_kept s.all s.pend q k hk pre0 x hpk hno hxq)
        have hc4 : ((X.putObj D (.deferred none))).cell? ⟨w.heap.size + 1, 0, none⟩ = some (.slice (some ⟨bx, 1, none⟩) 512 512) :=
          (World.cell?_of_block (World.putObj_heap_other (by dsimp only; omega))).trans (cell_of_one h4)
        have hc5 : ((X.putObj D (.deferred none))).cell? ⟨w.heap.size + 1 + 1, 0, none⟩ = some (.int .i64 0) :=
          (World.cell?_of_block (World.putObj_heap_other (by dsimp only; omega))).trans (cell_of_one h5)
        have hne : bx ≠ D := fun e => by
          rw [e] at hb
          rw [show X.heap[D]? = _ from hb] at hKD
          cases hKD
        have hb2 : BlkT (X.putObj D (.deferred none)) bx 115 (wcells s.pend[x.1]) := (World.putObj_heap_other hne).trans hb
        have hx2 := h512.out _ (List.getElem_mem x.2)
        clear hpk hno hb
        gi_wp2_with fail
        rw [Exit.noGoto_ret]
        refine ⟨by simp, .inl ⟨_, _, rfl, run_takeDeferred hKD, ?_⟩⟩
        refine ⟨.tuple #[.slice (some ⟨bx, 1, none⟩) 512 512, .int .i64 0], (by simp [results, Tryz.results111, go_sem, hc4, hc5]), ?_⟩
        refine ⟨_, rfl, ?_, hB.trans (belowK_b (w := w) (Nat.le_refl _) _ D _ _ (by omega) hKD rfl rfl)⟩
        rw [Hkp.out]
        exact new8_wait hbx hb2 hx2
end Go.Proofs.YtchcmklelmlbgaaGreat.Disk

/- Making slices of numbers with room behind them. -/
namespace Go.Proofs.YtchcmklelmlbgaaGreat
open Go.RowKit
set_option linter.unusedVariables false
section
variable {P : Program}
/-- make of a slice of numbers, with room behind it -/
theorem wpList_makeN {w : World} {ops : Array Oper} {rest : List Oper} {o : Oper} {a : Act} {Q : Exit → Act → World → Prop} (hgd : o.guard = none) (t : TypeId) (x y : Operand) (ho : o.op = .makeSlice t x y)
    {e : TypeId} {i : TypeInfo} {k kl kc : IntKind} (ht : P.underlying t = some (.slice e)) (hi : P.info? e = some i) (hz : i.zero = some (.int k 0)) (hs : i.size = 1) (l c : Nat) {lz cz : Int} (hl : a.eval x = .int kl lz) (hlz : lz = (l : Int)) (hc : a.eval y = .int kc cz) (hcz : cz = (c : Int))
    (hlc : l ≤ c) (hb : i.bytes * c ≤ 281474976710656) (hm : c ≤ maxLen)
    (h : ∀ w1, w1.ownsRow w.heap.size e 1 (.slice (some ⟨w.heap.size, 0, none⟩) l c) l (List.replicate l (.int k 0)) → Below w.heap.size w w1 → w.heap.size < w1.heap.size →
      wpList P ops Q rest (a.put o.dst (.slice (some ⟨w.heap.size, 0, none⟩) l c)) w1) : wpList P ops Q (o :: rest) a w := by
  subst hlz hcz
  have hb' : (i.bytes : Int) * (c : Int) ≤ 281474976710656 := by
    have h : ((i.bytes * c : Nat) : Int) ≤ 281474976710656 := by omega
    rwa [Int.natCast_mul] at h
  have hm' : (c : Int) ≤ 9223372036854775807 := by
    have h := hm
    simp [maxLen] at h
    omega
  have hr := run_make (P := P) w t e i _ ht hi hz kl kc l c (by omega) (by omega) hb' hm'
  simp only [Int.toNat_natCast] at hr
  refine wpList_run (w' := w.alloc (.cells (madeCells (Value.int k 0).cells (c * i.size)) e)) hgd (.slice (some ⟨w.heap.size, 0, none⟩) l c) ?_ (h _ ⟨by simp, .inr ⟨w.heap.size, c, _, rfl, Nat.le_refl _, heap_alloc_new w _, hlc, hm, ?_, ?_⟩⟩ (b1alloc _ _) (by simp))
  · unfold execOp
    simp only [ho, hl, hc]
    simp [hr]
  · rw [hs, size_madeCells]
  · rw [hs, made_int, List.take_replicate]
    congr 1
    omega
/-! whole arrays in a region that draws its order -/
theorem wpQuiet_run {ops : Array Oper} {C : World → Prop} {Q : Act → Prop} {a : Act} {o : Oper} {rest : List Oper} (hg : o.guard = none) (v : Value) (hrun : ∀ w, C w → (execOp a.eval o).run P w = .ok (.value v) w)
    (h : wpQuiet P ops C Q rest (a.put o.dst v)) : wpQuiet P ops C Q (o :: rest) a := by
  refine wpQuiet_step fun K hK => ?_
  rw [if_pos (by simp [Region.wanted, hg])]
  refine ⟨v, fun w hw => ?_, hK _ h⟩
  unfold Oper.quietAt
  rw [hrun w hw]
  exact ⟨rfl, rfl⟩
theorem wpQuiet_loadA {ops : Array Oper} {C : World → Prop} {Q : Act → Prop} {a : Act} {o : Oper} {rest : List Oper} (hg : o.guard = none) (t : TypeId) (x : Operand) (ho : o.op = .load t x)
    {g : Nat} (hx : a.eval x = .pointer (some ⟨g, 0, none⟩)) {xs : List Value} (hb : ∀ w, C w → Blk w g xs) {n : Nat} {e : TypeId} (hu : P.underlying t = some (.array n e)) (hi : (P.info? t).map (·.size) = some xs.length)
    (h : wpQuiet P ops C Q rest (a.put o.dst (arrV xs))) : wpQuiet P ops C Q (o :: rest) a := by
  refine wpQuiet_run hg (arrV xs) (fun w hw => ?_) h
  obtain ⟨t', hb⟩ := hb w hw
  unfold execOp
  simp only [ho, hx]
  have := run_loadVar_row (P := P) w g t' t _ _ _ hb hu rfl (by simpa using hi)
  simp [Instr.loadAt, Instr.sureAddr, this, arrV]
end
end Go.Proofs.YtchcmklelmlbgaaGreat

/- Numbers as bytes, most significant first: plain functions; nothing of the program. -/
namespace Go.Proofs.YtchcmklelmlbgaaGreat.Num

def putL (n size : Nat) : List UInt8 := (List.range size).map fun j => UInt8.ofNat (n / 2 ^ (8 * (size - 1 - j)))
theorem putL_len (n size : Nat) : (putL n size).length = size := by simp [putL]
theorem putL_get (n size j : Nat) (h : j < (putL n size).length) : (putL n size)[j] = UInt8.ofNat (n / 2 ^ (8 * (size - 1 - j))) := by simp [putL]
theorem putL_take (n size j : Nat) (h : j < size) : (putL n size).take (j + 1) = (putL n size).take j ++ [UInt8.ofNat (n / 2 ^ (8 * (size - 1 - j)))] := by
  rw [List.take_succ_eq_append_getElem (by rw [putL_len]; exact h), putL_get]
theorem cell_of (n e : Nat) : ((UInt8.ofNat (n / 2 ^ e)).toNat : Int) = (n : Int) / 2 ^ e % 256 := by
  rw [UInt8.toNat_ofNat', Int.natCast_emod, Int.natCast_ediv, Int.natCast_pow]; rfl
/-- the reference's: the last ones are put first -/
def backL (n size k : Nat) : List UInt8 := (List.range size).map fun i => if i < size - k then 0 else UInt8.ofNat (n / 2 ^ (8 * (size - 1 - i)))
theorem backL_len (n size k : Nat) : (backL n size k).length = size := by simp [backL]
theorem backL_zero (n size : Nat) : backL n size 0 = List.replicate size 0 := by
  apply List.ext_getElem
  · simp [backL]
  · intro i h1 h2
    rw [backL_len] at h1
    simp only [backL, List.getElem_map, List.getElem_range, List.getElem_replicate]
    rw [if_pos (by omega)]
theorem backL_all (n size : Nat) : backL n size size = putL n size := by
  unfold backL putL
  apply List.map_congr_left
  intro i _
  rw [if_neg (by omega)]
theorem backL_set (n size k : Nat) (h : k < size) : (backL n size k).set (size - 1 - k) (UInt8.ofNat (n / 2 ^ (8 * k))) = backL n size (k + 1) := by
  apply List.ext_getElem
  · simp [backL]
  · intro i h1 h2
    rw [List.length_set, backL_len] at h1
    rw [List.getElem_set]
    simp only [backL, List.getElem_map, List.getElem_range]
    by_cases e : size - 1 - k = i
    · subst e
      rw [if_pos rfl, if_neg (by omega), show size - 1 - (size - 1 - k) = k by omega]
    · rw [if_neg e]
      by_cases e2 : i < size - k
      · rw [if_pos e2, if_pos (by omega)]
      · rw [if_neg e2, if_neg (by omega)]
/-- the number that bytes are -/
def getN (l : List UInt8) : Nat := l.foldl (fun n c => n * 256 + c.toNat) 0
theorem getN_snoc (l : List UInt8) (c : UInt8) : getN (l ++ [c]) = getN l * 256 + c.toNat := by simp [getN]
theorem getN_take {l : List UInt8} {k : Nat} (h : k < l.length) : getN (l.take (k + 1)) = getN (l.take k) * 256 + l[k].toNat := by
  rw [List.take_succ_eq_append_getElem h, getN_snoc]
theorem getN_lt (l : List UInt8) : ∀ k, k ≤ l.length → getN (l.take k) < 256 ^ k
  | 0, _ => by simp [getN]
  | k + 1, h => by
    rw [getN_take (by omega), Nat.pow_succ]
    have := getN_lt l k (by omega)
    have := l[k].toNat_lt
    omega
theorem getN_8 (l : List UInt8) (h : l.length ≤ 8) : getN l < 18446744073709551616 := by
  have := getN_lt l l.length (Nat.le_refl _)
  rw [List.take_length] at this
  exact Nat.lt_of_lt_of_le this (Nat.pow_le_pow_right (by omega) h)
theorem getN_7 (l : List UInt8) (k : Nat) (hk : k ≤ l.length) (h : k ≤ 7) : getN (l.take k) < 72057594037927936 := 
  Nat.lt_of_lt_of_le (getN_lt l k hk) (Nat.pow_le_pow_right (by omega) h)
theorem putL_succ (n s : Nat) : putL n (s + 1) = putL (n / 256) s ++ [UInt8.ofNat n] := by
  unfold putL
  rw [List.range_succ, List.map_append]
  congr 1
  · apply List.map_congr_left
    intro j hj
    have hj' := List.mem_range.1 hj
    rw [Nat.div_div_eq_div_mul, show (256 : Nat) = 2 ^ 8 from rfl, ← Nat.pow_add]
    congr 3
    omega
  · simp
theorem getN_putL (n s : Nat) : getN (putL n s) = n % 256 ^ s := by
  induction s generalizing n with
  | zero => simp [putL, getN, Nat.mod_one]
  | succ s ih =>
    have h := Nat.mod_mul (x := n) (a := 256) (b := 256 ^ s)
    rw [putL_succ, getN_snoc, ih, UInt8.toNat_ofNat', show 256 ^ (s + 1) = 256 * 256 ^ s by rw [Nat.pow_succ, Nat.mul_comm], h, show (2 : Nat) ^ 8 = 256 from rfl]
    omega
end Go.Proofs.YtchcmklelmlbgaaGreat.Num

/- SHA-256 as a plain function of lists; nothing of the program. -/
namespace Go.Proofs.YtchcmklelmlbgaaGreat.Sha

def kTab : List UInt32 := [
  0x428a2f98, 0x71374491, 0xb5c0fbcf, 0xe9b5dba5, 0x3956c25b, 0x59f111f1, 0x923f82a4, 0xab1c5ed5,
  0xd807aa98, 0x12835b01, 0x243185be, 0x550c7dc3, 0x72be5d74, 0x80deb1fe, 0x9bdc06a7, 0xc19bf174,
  0xe49b69c1, 0xefbe4786, 0x0fc19dc6, 0x240ca1cc, 0x2de92c6f, 0x4a7484aa, 0x5cb0a9dc, 0x76f988da,
  0x983e5152, 0xa831c66d, 0xb00327c8, 0xbf597fc7, 0xc6e00bf3, 0xd5a79147, 0x06ca6351, 0x14292967,
  0x27b70a85, 0x2e1b2138, 0x4d2c6dfc, 0x53380d13, 0x650a7354, 0x766a0abb, 0x81c2c92e, 0x92722c85,
  0xa2bfe8a1, 0xa81a664b, 0xc24b8b70, 0xc76c51a3, 0xd192e819, 0xd6990624, 0xf40e3585, 0x106aa070,
  0x19a4c116, 0x1e376c08, 0x2748774c, 0x34b0bcb5, 0x391c0cb3, 0x4ed8aa4a, 0x5b9cca4f, 0x682e6ff3,
  0x748f82ee, 0x78a5636f, 0x84c87814, 0x8cc70208, 0x90befffa, 0xa4506ceb, 0xbef9a3f7, 0xc67178f2]
theorem kTab_len : kTab.length = 64 := rfl
def kAt (t : Nat) : UInt32 := kTab.getD t 0

/-- turned to the right by n, 0 < n < 32 -/
def rot (x : UInt32) (n : Nat) : UInt32 := (x <<< (UInt32.ofNat (32 - n))) ||| (x >>> (UInt32.ofNat n))
def low (x : UInt32) : UInt32 := rot x 7 ^^^ rot x 18 ^^^ (x >>> 3)
def high (x : UInt32) : UInt32 := rot x 17 ^^^ rot x 19 ^^^ (x >>> 10)

def be32 (b : List UInt8) (t : Nat) : UInt32 := UInt32.ofNat (Num.getN ((b.drop (4 * t)).take 4))
def wnext (b : List UInt8) (l : List UInt32) : UInt32 :=
  if l.length < 16 then be32 b l.length else
    high (l.getD (l.length - 2) 0) + l.getD (l.length - 7) 0 + low (l.getD (l.length - 15) 0) + l.getD (l.length - 16) 0
def wl (b : List UInt8) : Nat → List UInt32
  | 0 => []
  | k + 1 => wl b k ++ [wnext b (wl b k)]
theorem wl_len (b : List UInt8) : ∀ k, (wl b k).length = k
  | 0 => rfl
  | k + 1 => by simp [wl, wl_len b k]
/-- what Words tells -/
def words (b : List UInt8) : List UInt32 := if b.length = 64 then wl b 64 else List.replicate 64 0
theorem words_len (b : List UInt8) : (words b).length = 64 := by
  unfold words; split
  · exact wl_len b 64
  · simp
/-- the words while k of them are there -/
def wpart (b : List UInt8) (k : Nat) : List UInt32 := wl b k ++ List.replicate (64 - k) 0
theorem wpart_len (b : List UInt8) (k : Nat) (h : k ≤ 64) : (wpart b k).length = 64 := by simp [wpart, wl_len]; omega
theorem wpart_zero (b : List UInt8) : wpart b 0 = List.replicate 64 0 := rfl
theorem wpart_all (b : List UInt8) : wpart b 64 = wl b 64 := by simp [wpart]
theorem wpart_set (b : List UInt8) (k : Nat) (h : k < 64) : (wpart b k).set k (wnext b (wl b k)) = wpart b (k + 1) := by
  unfold wpart
  rw [show 64 - k = (64 - (k + 1)) + 1 by omega, List.replicate_succ, List.set_append_right _ _ (by rw [wl_len]; omega), wl_len, Nat.sub_self, List.set_cons_zero]
  simp [wl]
theorem wpart_get (b : List UInt8) (k j : Nat) (h : j < k) : (wpart b k).getD j 0 = (wl b k).getD j 0 := by
  unfold wpart
  simp [List.getD, List.getElem?_append_left (show j < (wl b k).length by rw [wl_len]; exact h)]
theorem wnext_lo (b : List UInt8) (k : Nat) (h : k < 16) : wnext b (wl b k) = be32 b k := by
  unfold wnext; rw [wl_len, if_pos h]
theorem wnext_hi (b : List UInt8) (k : Nat) (h : 16 ≤ k) : wnext b (wl b k) = high ((wpart b k).getD (k - 2) 0) + (wpart b k).getD (k - 7) 0 + low ((wpart b k).getD (k - 15) 0) + (wpart b k).getD (k - 16) 0 := by
  unfold wnext; rw [wl_len, if_neg (by omega), wpart_get _ _ _ (by omega), wpart_get _ _ _ (by omega), wpart_get _ _ _ (by omega), wpart_get _ _ _ (by omega)]

structure H8 where
  a : UInt32
  b : UInt32
  c : UInt32
  d : UInt32
  e : UInt32
  f : UInt32
  g : UInt32
  h : UInt32
def H8.list (s : H8) : List UInt32 := [s.a, s.b, s.c, s.d, s.e, s.f, s.g, s.h]
def xOf (s : H8) (k w : UInt32) : UInt32 := s.h + (rot s.e 6 ^^^ rot s.e 11 ^^^ rot s.e 25) + (s.g ^^^ (s.e &&& (s.f ^^^ s.g))) + k + w
def yOf (s : H8) : UInt32 := (rot s.a 2 ^^^ rot s.a 13 ^^^ rot s.a 22) + (s.a &&& s.b ||| s.c &&& (s.a ||| s.b))
def round (s : H8) (k w : UInt32) : H8 := ⟨xOf s k w + yOf s, s.a, s.b, s.c, s.d + xOf s k w, s.e, s.f, s.g⟩
def rounds (w : List UInt32) (s : H8) : Nat → H8
  | 0 => s
  | t + 1 => round (rounds w s t) (kAt t) (w.getD t 0)
def H8.add (s r : H8) : H8 := ⟨s.a + r.a, s.b + r.b, s.c + r.c, s.d + r.d, s.e + r.e, s.f + r.f, s.g + r.g, s.h + r.h⟩
def block (s : H8) (b : List UInt8) : H8 := if b.length = 64 then (rounds (wl b 64) s 64).add s else s

/-! the reference's forms -/
theorem ch_eq (e f g : UInt32) : (e &&& f) ^^^ (~~~e &&& g) = g ^^^ (e &&& (f ^^^ g)) := by
  apply UInt32.toBitVec_inj.1
  simp only [UInt32.toBitVec_xor, UInt32.toBitVec_and, UInt32.toBitVec_not]
  apply BitVec.eq_of_getLsbD_eq
  intro i hi
  simp only [BitVec.getLsbD_xor, BitVec.getLsbD_and, BitVec.getLsbD_not, hi, decide_true, Bool.true_and]
  cases e.toBitVec.getLsbD i <;> cases f.toBitVec.getLsbD i <;> cases g.toBitVec.getLsbD i <;> rfl
theorem maj_eq (a b c : UInt32) : (a &&& b) ^^^ (a &&& c) ^^^ (b &&& c) = (a &&& b) ||| (c &&& (a ||| b)) := by
  apply UInt32.toBitVec_inj.1
  simp only [UInt32.toBitVec_xor, UInt32.toBitVec_and, UInt32.toBitVec_or]
  apply BitVec.eq_of_getLsbD_eq
  intro i hi
  simp only [BitVec.getLsbD_xor, BitVec.getLsbD_and, BitVec.getLsbD_or]
  cases a.toBitVec.getLsbD i <;> cases b.toBitVec.getLsbD i <;> cases c.toBitVec.getLsbD i <;> rfl

def first : H8 := ⟨0x6a09e667, 0xbb67ae85, 0x3c6ef372, 0xa54ff53a, 0x510e527f, 0x9b05688c, 0x1f83d9ab, 0x5be0cd19⟩

/-- the padding of a row of n bytes -/
def padB (n : Nat) : List UInt8 := 128 :: List.replicate ((119 - n % 64) % 64) 0 ++ Num.putL (8 * n) 8
theorem padB_len (n : Nat) : (padB n).length = 9 + (119 - n % 64) % 64 := by simp [padB, Num.putL_len]; omega
theorem padB_mod (n : Nat) : (n + (padB n).length) % 64 = 0 := by rw [padB_len]; omega
theorem padB_le (n : Nat) : (padB n).length ≤ 72 := by rw [padB_len]; omega

/-- the k-th whole block of 64 bytes -/
def blk (l : List UInt8) (k : Nat) : List UInt8 := (l.drop (64 * k)).take 64
def turned (l : List UInt8) : Nat → H8
  | 0 => first
  | k + 1 => block (turned l k) (blk l k)
def out8 (s : H8) : List UInt8 := s.list.flatMap fun x => Num.putL x.toNat 4
theorem out8_len (s : H8) : (out8 s).length = 32 := by simp [out8, H8.list, Num.putL_len]
def whole (l : List UInt8) : List UInt8 := l ++ padB l.length
theorem whole_mod (l : List UInt8) : (whole l).length % 64 = 0 := by rw [whole, List.length_append, padB_mod]
def sum (l : List UInt8) : List UInt8 := out8 (turned (whole l) ((whole l).length / 64))
theorem sum_len (l : List UInt8) : (sum l).length = 32 := out8_len _
end Go.Proofs.YtchcmklelmlbgaaGreat.Sha

/- HMAC and HKDF with SHA-256 as plain functions of lists; nothing of the program. -/
namespace Go.Proofs.YtchcmklelmlbgaaGreat.Mac
open Go.Proofs.YtchcmklelmlbgaaGreat.Sha (sum sum_len)

/-- filled up with noughts, or cut, to n bytes -/
def padTo (l : List UInt8) (n : Nat) : List UInt8 := l.take n ++ List.replicate (n - l.length) 0
theorem padTo_len (l : List UInt8) (n : Nat) : (padTo l n).length = n := by simp [padTo]; omega
def key (k : List UInt8) : List UInt8 := padTo (if 64 < k.length then sum k else k) 64
theorem key_len (k : List UInt8) : (key k).length = 64 := padTo_len _ _
def over (k : List UInt8) (c : UInt8) : List UInt8 := k.map fun x => x ^^^ c
theorem over_len (k : List UInt8) (c : UInt8) : (over k c).length = k.length := by simp [over]
def inner (k t : List UInt8) : List UInt8 := sum (over (key k) 0x36 ++ t)
def mac (k t : List UInt8) : List UInt8 := sum (over (key k) 0x5c ++ inner k t)
theorem mac_len (k t : List UInt8) : (mac k t).length = 32 := sum_len _
def two (k a b : List UInt8) : List UInt8 := mac k (Num.putL a.length 4 ++ a ++ b)
theorem padTo_self (l : List UInt8) (n : Nat) (h : l.length = n) : padTo l n = l := by subst h; simp [padTo]
theorem key_key (k : List UInt8) : key (key k) = key k := by
  rw [key, key_len, if_neg (by omega), padTo_self _ _ (key_len k)]
theorem mac_key (k t : List UInt8) : mac (key k) t = mac k t := by
  unfold mac inner; rw [key_key]
theorem mac_zeros (k t : List UInt8) (n : Nat) (h : k.length + n ≤ 64) : mac (k ++ List.replicate n 0) t = mac k t := by
  have hk : key (k ++ List.replicate n 0) = key k := by
    unfold key padTo
    rw [if_neg (by simp; omega), if_neg (by omega), List.take_of_length_le (by simp; omega), List.take_of_length_le (by omega), List.append_assoc, List.replicate_append_replicate]
    congr 2
    simp; omega
  unfold mac inner; rw [hk]
end Go.Proofs.YtchcmklelmlbgaaGreat.Mac
namespace Go.Proofs.YtchcmklelmlbgaaGreat.Kdf
open Go.Proofs.YtchcmklelmlbgaaGreat.Mac (mac mac_len)

/-- the n-th tag; before the first one: none -/
def tag (k info : List UInt8) : Nat → List UInt8
  | 0 => []
  | n + 1 => mac k (tag k info n ++ info ++ [UInt8.ofNat (n + 1)])
theorem tag_len (k info : List UInt8) (n : Nat) : (tag k info (n + 1)).length = 32 := mac_len _ _
theorem tag_le (k info : List UInt8) : ∀ n, (tag k info n).length ≤ 32
  | 0 => by simp [tag]
  | n + 1 => by rw [tag_len]; omega
/-- n tags, one behind the other -/
def tags (k info : List UInt8) : Nat → List UInt8
  | 0 => []
  | n + 1 => tags k info n ++ tag k info (n + 1)
theorem tags_len (k info : List UInt8) : ∀ n, (tags k info n).length = 32 * n
  | 0 => rfl
  | n + 1 => by rw [tags, List.length_append, tags_len k info n, tag_len]; omega
theorem tags_take (k info : List UInt8) (n m : Nat) : (tags k info (n + m)).take (32 * n) = tags k info n := by
  induction m with
  | zero => rw [Nat.add_zero, List.take_of_length_le (by rw [tags_len]; omega)]
  | succ m ih => rw [← Nat.add_assoc, tags, List.take_append_of_le_length (by rw [tags_len]; omega), ih]
/-- how many tags so many bytes want -/
def many (size : Nat) : Nat := (size + 31) / 32
def expand (k info : List UInt8) (size : Nat) : List UInt8 := (tags k info (many size)).take size
theorem expand_len (k info : List UInt8) (size : Nat) : (expand k info size).length = size := by
  rw [expand, List.length_take, tags_len]; unfold many; omega
theorem expand_fewer (k info : List UInt8) (size more : Nat) : (expand k info (size + more)).take size = expand k info size := by
  unfold expand
  rw [List.take_take, Nat.min_eq_left (by omega)]
  have h : many (size + more) = many size + (many (size + more) - many size) := by unfold many; omega
  have h2 := tags_take k info (many size) (many (size + more) - many size)
  rw [← h] at h2
  rw [← h2, List.take_take, Nat.min_eq_left (by unfold many; omega)]
def prefixB : List UInt8 := [111, 117, 98, 108, 105, 101, 116, 116, 101, 32]
def infoB (label : List UInt8) : List UInt8 := [0, 32, UInt8.ofNat (prefixB ++ label).length] ++ (prefixB ++ label)
def derive (k label : List UInt8) : List UInt8 := expand k (infoB label) 32
theorem derive_len (k label : List UInt8) : (derive k label).length = 32 := expand_len _ _ _
def chain (k label : List UInt8) : Nat → List UInt8
  | 0 => k
  | n + 1 => derive (chain k label n) label
theorem chain_add (k label : List UInt8) (n : Nat) : ∀ m, chain (chain k label n) label m = chain k label (n + m)
  | 0 => rfl
  | m + 1 => by rw [chain, chain_add k label n m, ← Nat.add_assoc, chain]
end Go.Proofs.YtchcmklelmlbgaaGreat.Kdf

/- A slice of bytes turned into a string, nil and empty ones too; a string turned into a new slice of bytes. -/
namespace Go.Proofs.YtchcmklelmlbgaaGreat
open Go.RowKit

theorem run_conv_rd {P : Program} {w : World} {B : Nat} {A : Option Addr} {l : List UInt8} (src dst e : TypeId) (n c : Nat) (hn : n = l.length) (hs : P.underlying src = some (.slice e)) (he : P.underlying e = some (.int .u8)) (hd : P.underlying dst = some .string)
    (hr : Rd w B A (l.map e8)) : (convert src dst (.slice A n c)).run P w = .ok (.string ⟨l.toArray⟩) w := by
  subst hn
  cases A with
  | none =>
    have hl : l = [] := by
      cases l with
      | nil => rfl
      | cons a l => obtain ⟨b, off, h, _⟩ := hr (by simp); cases h
    subst hl
    simp [convert, run_underlying hs, run_underlying he, run_underlying hd, go_sem]
    rfl
  | some a =>
    refine run_convert_bytes_back w src dst e a c l hs he hd fun j hj => ?_
    obtain ⟨b, off, h, _, hc⟩ := hr (by intro h; simp at h; subst h; exact absurd hj (by simp))
    injection h with h
    subst h
    rw [Addr.add_lit, hc j (by simpa using hj), List.getElem_map]
theorem ba_append (a b : List UInt8) : (⟨a.toArray⟩ ++ ⟨b.toArray⟩ : ByteArray) = ⟨(a ++ b).toArray⟩ := by
  apply ByteArray.ext
  simp
/-- the bytes of a string, in new memory -/
theorem run_conv_new {P : Program} (w : World) (src dst e : TypeId) (l : List UInt8) (hs : P.underlying src = some .string) (hd : P.underlying dst = some (.slice e)) (he : P.underlying e = some (.int .u8)) :
    ∃ c w', (convert src dst (.string ⟨l.toArray⟩)).run P w = .ok (.slice (some ⟨w.heap.size, 0, none⟩) l.length c) w' ∧ Below w.heap.size w w' ∧ w.heap.size < w'.heap.size ∧ l.length ≤ c ∧
      ∀ i (h : i < (l.map e8).length), w'.cell? ⟨w.heap.size, 0 + i, none⟩ = some (l.map e8)[i] := by
  refine ⟨_, _, Lib.run_convert_string_bytes w src dst e ⟨l.toArray⟩ hs hd he, ⟨rfl, rfl, rfl, ?_, fun j hj => Lib.bytesWorld_at_old w e _ j hj⟩, ?_, ?_, fun i hi => ?_⟩
  · rw [Lib.bytesWorld_size]; omega
  · rw [Lib.bytesWorld_size]; omega
  · have := grownCap_ge w l.length 0 e
    simpa [ByteArray.size] using this
  · have hi' : i < l.length := by simpa using hi
    rw [Nat.zero_add, Lib.bytesWorld_cell w e _ i (by simpa [ByteArray.size] using hi')]
    simp [List.getD, hi']
end Go.Proofs.YtchcmklelmlbgaaGreat

/- The walks of the reference's small helpers (oublietteref01). -/
namespace Go.Proofs.YtchcmklelmlbgaaGreat.R1
open Go.RowKit
set_option linter.unusedVariables false
set_option maxRecDepth 100000

theorem info8 : (Tryz.prog.info? 5).map (fun i => (i.zero, i.size, i.bytes)) = some (some (.int .u8 0), 1, 1) := by kernel_rfl



/-- are bytes the same? -/
def sameB (a b : List UInt8) : Bool := decide (a = b)
theorem sameB_self (a : List UInt8) : sameB a a = true := by simp [sameB]
theorem sameB_of {a b : List UInt8} (h : a = b) : sameB a b = true := by simp [sameB, h]
theorem sameB_len {a b : List UInt8} (h : a.length ≠ b.length) : sameB a b = false := by
  simp only [sameB, decide_eq_false_iff_not]; intro e; exact h (by rw [e])
theorem sameB_at {a b : List UInt8} {k : Nat} (ha : k < a.length) (hb : k < b.length) (h : a[k] ≠ b[k]) : sameB a b = false := by
  simp only [sameB, decide_eq_false_iff_not]; intro e; subst e; exact h rfl
theorem sameB_all {a b : List UInt8} (hl : a.length = b.length) (h : ∀ j (ha : j < a.length) (hb : j < b.length), a[j] = b[j]) : sameB a b = true :=
  sameB_of (List.ext_getElem hl h)
theorem agree_succ {l m : List UInt8} {k : Nat} (h : ∀ j (ha : j < l.length) (hb : j < m.length), j < k → l[j] = m[j]) {h1 : k < l.length} {h2 : k < m.length} (he : l[k] = m[k]) :
    ∀ j (ha : j < l.length) (hb : j < m.length), j < k + 1 → l[j] = m[j] := fun j ha hb hj => by
  rcases Nat.lt_or_ge j k with e | e
  · exact h j ha hb e
  · obtain rfl : j = k := by omega
    exact he
set_option maxHeartbeats 400000 in
theorem same_any (A B : Option Addr) (l m : List UInt8) (n o c d : Nat) (w : World) (hn : n = l.length) (ho : o = m.length) (ha : Rd w w.heap.size A (l.map e8)) (hb : Rd w w.heap.size B (m.map e8)) (hl : l.length ≤ 1000000000000) (hm : m.length ≤ 1000000000000) :
    Calls Tryz.prog 95 #[.slice A n c, .slice B o d] w fun e w' => e = .returned (.bool (sameB l m)) ∧ Below w.heap.size w w' := by
  subst hn ho
  by_cases hlen : l.length = m.length
  · have hne := bne_no (congrArg (Nat.cast : Nat → Int) hlen)
    have Hlen := Lib.hid hlen
    have hle : l.length ≤ m.length := by omega
    clear hlen
    go_enter Tryz.func95, Tryz.ntmps95
    go_wp2
    go_loopw [5] (fun i wr => ∃ k : Nat, k ≤ l.length ∧ i = .int .i64 k ∧ Hid (∀ j (ha : j < l.length) (hb : j < m.length), j < k → l[j] = m[j]) ∧ Below w.heap.size w wr) (fun i _ => l.length - (intOf i).toNat)
    case atStart => exact ⟨0, by omega, rfl, fun j _ _ h => absurd h (by omega), Below.refl _ _⟩
    case round =>
      obtain ⟨k, hk, rfl, heq, hbel⟩ := hrel
      by_cases hlt : k < l.length
      · obtain ⟨b, off, rfl, hbb, hc⟩ := (ha.below hbel).get (k := k) (by simpa using hlt)
        obtain ⟨b', off', rfl, hbb', hc'⟩ := (hb.below hbel).get (k := k) (by simp; omega)
        rw [List.getElem_map] at hc hc'
        have hlt' : k < m.length := by omega
        by_cases hx : l[k] = m[k]
        · have hx' := bne8_no hx
          have Hx := Lib.hid hx
          clear hx
          go_wp2
          go_quiet (fail)
          go_wp2
          go_roundw
          case rel => exact ⟨k + 1, by omega, by go_num, agree_succ heq.out Hx.out, by simpa using bdrew hbel _⟩
          case measure => simp [intOf]; omega
        · have hx' := bne8 hx
          have Hx := Lib.hid (sameB_at hlt hlt' hx)
          clear hx
          go_wp2
          go_quiet (fail)
          go_wp2
          go_ret
          exact ⟨ret_bool Hx.out.symm, bdrew hbel _⟩
      · have Hx := Lib.hid (sameB_all Hlen.out fun j h1 h2 => heq.out j h1 h2 (by omega))
        go_wp2
        go_ret
        exact ⟨ret_bool Hx.out.symm, hbel⟩
  · have hne := bne_yes (fun e => hlen (Int.natCast_inj.1 e))
    have Hx := Lib.hid (sameB_len hlen)
    clear hlen
    go_enter Tryz.func95, Tryz.ntmps95
    go_wp2
    go_ret
    exact ⟨ret_bool Hx.out.symm, Below.refl _ _⟩
end Go.Proofs.YtchcmklelmlbgaaGreat.R1

/- The walks of num.Pad, num.Xor, bytes.Repeat (64 times one byte), bytes.Equal, and of the reference's Pad. -/
namespace Go.Proofs.YtchcmklelmlbgaaGreat.Mac
open Go.RowKit
set_option linter.unusedVariables false
set_option maxRecDepth 100000
theorem info8 : (Tryz.prog.info? 5).map (fun i => (i.zero, i.size, i.bytes)) = some (some (.int .u8 0), 1, 1) := by kernel_rfl
theorem size8 : (Tryz.prog.info? 5).map (·.size) = some 1 := by kernel_rfl

theorem splice_len : ∀ (cs xs : List Value) (o : Nat), (splice xs o cs).length = xs.length
  | [], _, _ => rfl
  | v :: r, xs, o => by rw [splice, splice_len r]; simp
theorem splice_get : ∀ (cs xs : List Value) (o i : Nat), o + cs.length ≤ xs.length → (splice xs o cs)[i]? = if o ≤ i ∧ i < o + cs.length then cs[i - o]? else xs[i]?
  | [], xs, o, i, _ => by
    rw [splice, if_neg (by intro h; simp at h; omega)]
  | v :: r, xs, o, i, h => by
    simp only [List.length_cons] at h
    rw [splice, splice_get r (xs.set o v) (o + 1) i (by simp; omega)]
    by_cases h1 : o + 1 ≤ i ∧ i < o + 1 + r.length
    · rw [if_pos h1, if_pos (by simp only [List.length_cons]; omega), show i - o = (i - (o + 1)) + 1 by omega, List.getElem?_cons_succ]
    · rw [if_neg h1]
      by_cases h2 : i = o
      · subst h2
        rw [if_pos (by simp only [List.length_cons]; omega), List.getElem?_set_self (by omega)]
        simp
      · rw [if_neg (by simp only [List.length_cons]; omega), List.getElem?_set_ne (by omega)]
theorem splice_front (xs cs : List Value) (h : cs.length ≤ xs.length) : splice xs 0 cs = cs ++ xs.drop cs.length := by
  apply List.ext_getElem?
  intro i
  rw [splice_get cs xs 0 i (by omega)]
  by_cases h1 : i < cs.length
  · rw [if_pos (by omega), List.getElem?_append_left h1]; simp
  · rw [if_neg (by omega), List.getElem?_append_right (by omega), List.getElem?_drop, show cs.length + (i - cs.length) = i by omega]

/-- many cells of a row of the call's own -/
theorem own_setCells {base : Nat} {e : TypeId} {size g n cap : Nat} : ∀ (cs : List Value) (o : Nat) {w : World} {xs : List Value}, w.ownsRow base e size (.slice (some ⟨g, 0, none⟩) n cap) n xs → (w.setCells g o cs).ownsRow base e size (.slice (some ⟨g, 0, none⟩) n cap) n (splice xs o cs)
  | [], _, _, _, h => h
  | v :: r, o, _, _, h => own_setCells r (o + 1) (World.ownsRow.stored h o v).1
theorem own_at {w : World} {base : Nat} {e : TypeId} {g n cap : Nat} {xs : List Value} (h : w.ownsRow base e 1 (.slice (some ⟨g, 0, none⟩) n cap) n xs) {k : Nat} (hk : k < n) : ∃ v, w.cell? ⟨g, k, none⟩ = some v := by
  have hl := h.1
  exact ⟨_, (World.ownsRow.cellAt h k (by omega)).trans (List.getElem?_eq_getElem (show k < xs.length by omega))⟩
section
variable {P : Program}
/-- the builtin copy into the front of a row of the call's own -/
theorem wpList_copyO {w : World} {ops : Array Oper} {rest : List Oper} {o : Oper} {a : Act} {Q : Exit → Act → World → Prop} (hgd : o.guard = none) (d s : Operand) (t t' : TypeId)
    (ho : o.op = .call { callee := .builtin .copy, args := #[d, s], argTypes := #[t, t'] }) {g n cap : Nat} {A : Option Addr} {sLen sCap : Nat} (hd : a.eval d = .slice (some ⟨g, 0, none⟩) n cap) (hs : a.eval s = .slice A sLen sCap)
    {e : TypeId} (hu : P.underlying t = some (.slice e)) (hi : (P.info? e).map (·.size) = some 1) {base : Nat} {xs : List Value} (hown : w.ownsRow base e 1 (.slice (some ⟨g, 0, none⟩) n cap) n xs)
    {B : Nat} {news : List Value} (hl : news.length = sLen) (hr : Rd w B A news) (h1 : ∀ v ∈ news, v.oneCell' = true)
    (h : ∀ w1 r, w1.ownsRow base e 1 (.slice (some ⟨g, 0, none⟩) n cap) n (news.take n ++ xs.drop (news.take n).length) → w.grownBy w1 (some g) → wpList P ops Q rest (a.put o.dst (.int .i64 r)) w1) : wpList P ops Q (o :: rest) a w := by
  have hxl : xs.length = n := by have := hown.1; omega
  refine wpList_plain hgd fun K hK => ?_
  by_cases h0 : Nat.min sLen n = 0
  · have hr := run_copy_none (P := P) w t t' o.type e (some ⟨g, 0, none⟩) A n cap sLen sCap hu hi h0
    unfold Oper.wp execOp
    simp only [ho, resolve, invoke, builtin, Sem.run_bind, Sem.run_pure, Result.andThen_ok, List.map_toArray, List.map_cons, List.map_nil, hd, hs, hr]
    have ht : news.take n = [] := by
      apply List.eq_nil_of_length_eq_zero
      rw [List.length_take, hl, Nat.min_comm]; exact h0
    refine hK _ _ (h _ _ ?_ ⟨rfl, rfl, rfl, Nat.le_refl _, fun _ _ _ => rfl⟩)
    rw [ht]; simpa using hown
  · have hne : news ≠ [] := by rintro rfl; simp at hl; subst hl; simp at h0
    obtain ⟨b, off, rfl, _, hc⟩ := hr hne
    have hcl : (news.take n).length = Nat.min sLen n := by rw [List.length_take, hl]; exact Nat.min_comm _ _
    have hle : (news.take n).length ≤ n := by rw [List.length_take]; omega
    have hr := run_copy_cells (P := P) w t t' o.type e g 0 n cap ⟨b, off, none⟩ sLen sCap (news.take n) hu hi hcl
      (fun j v hv => by
        obtain ⟨hj, rfl⟩ := List.getElem?_eq_some_iff.1 hv
        rw [List.length_take] at hj
        rw [Addr.add_lit, hc j (by omega), List.getElem_take])
      (fun j hj => by
        rw [Nat.zero_add, World.ownsRow.cellAt hown j (by omega), List.getElem?_eq_getElem (show j < xs.length by omega)]; simp)
      (fun j _ => by rw [Nat.zero_add]; exact World.ownsRow.frozenAt hown j) (fun v hv => h1 v (List.mem_of_mem_take hv))
    unfold Oper.wp execOp
    simp only [ho, resolve, invoke, builtin, Sem.run_bind, Sem.run_pure, Result.andThen_ok, List.map_toArray, List.map_cons, List.map_nil, hd, hs, hr]
    have := own_setCells (news.take n) 0 hown
    rw [splice_front _ _ (by omega)] at this
    exact hK _ _ (h _ _ this (setCells_grown g _ 0 w))
end
theorem padTo_cells (l : List UInt8) (s : Nat) : ((l.map e8).take s ++ (List.replicate s (.int .u8 0)).drop ((l.map e8).take s).length) = (padTo l s).map e8 := by
  unfold padTo
  rw [List.map_append, List.map_take, List.drop_replicate]
  congr 1
  rw [List.map_replicate]
  congr 1
  rw [List.length_take, List.length_map]; omega
set_option maxHeartbeats 400000 in
theorem npad_any (A : Option Addr) (l : List UInt8) (n c s : Nat) (z : Int) (hz : z = (s : Int)) (w : World) (hn : n = l.length) (h1 : 1 ≤ s) (h2 : s ≤ 65536) (hr : Rd w w.heap.size A (l.map e8)) :
    Calls Tryz.prog 123 #[.slice A n c, .int .i64 z] w fun e w' => RetB 5 w (padTo l s) e w' := by
  subst hn hz
  obtain ⟨i0, hi0, hz0, hz1, hz2⟩ := info_parts info8
  have h1' : ((s : Int) < 1) = False := by simp; omega
  have h2' : (65536 < (s : Int)) = False := by simp; omega
  go_enter Tryz.func123, Tryz.ntmps123
  go_wp2_with (first
    | ((with_reducible show wpList _ _ _ (⟨some 13, _, _, _, _, _⟩ :: _) _ _); refine wpList_makeN rfl _ _ _ rfl Tryz.underlying51 hi0 hz0 hz1 s s rfl rfl rfl rfl (Nat.le_refl _) (by rw [hz2]; omega) (by unfold maxLen; omega) ?_; intro w1 hown1 bw1 hs1)
    | ((with_reducible show wpList _ _ _ (⟨some 16, _, _, _, _, _⟩ :: _) _ _); refine wpList_copyO rfl _ _ _ _ rfl rfl rfl Tryz.underlying51 size8 hown1 (by simp) (hr.on bw1) (e8_one _) ?_; intro w2 r2 hown2 hg2)
    | fail)
  go_ret
  rw [padTo_cells] at hown2
  exact RetB.mk hown2 rfl (below_row bw1 hg2 (Nat.le_refl _) bw1.size)
/-- the first k bytes are laid in -/
def laidIn (l : List UInt8) (s k : Nat) : List UInt8 := l.take k ++ List.replicate (s - k) 0
theorem laidIn_len (l : List UInt8) (s k : Nat) (h : k ≤ s) (hl : k ≤ l.length) : (laidIn l s k).length = s := by simp [laidIn]; omega
theorem laidIn_set (l : List UInt8) (s k : Nat) (h : k < s) (hl : k < l.length) : (laidIn l s k).set k l[k] = laidIn l s (k + 1) := by
  unfold laidIn
  rw [show s - k = (s - (k + 1)) + 1 by omega, List.replicate_succ, List.set_append_right _ _ (by simp; omega)]
  rw [List.length_take, Nat.min_eq_left (Nat.le_of_lt hl), Nat.sub_self, List.set_cons_zero, List.take_succ_eq_append_getElem hl, List.append_assoc]
  rfl
theorem laidIn_all (l : List UInt8) (s k : Nat) (h : k = min s l.length) : laidIn l s k = padTo l s := by
  subst h
  unfold laidIn padTo
  by_cases hs : s ≤ l.length
  · rw [Nat.min_eq_left hs, show s - s = 0 by omega, show s - l.length = 0 by omega]
  · rw [Nat.min_eq_right (by omega), List.take_of_length_le (Nat.le_refl _), List.take_of_length_le (by omega)]
set_option maxHeartbeats 400000 in
theorem equal_any (A B : Option Addr) (l m : List UInt8) (n o c d : Nat) (w : World) (hn : n = l.length) (ho : o = m.length) (hr : Rd w w.heap.size A (l.map e8)) (hs : Rd w w.heap.size B (m.map e8)) :
    Calls Tryz.prog 130 #[.slice A n c, .slice B o d] w fun e w' => e = .returned (.bool (R1.sameB l m)) ∧ w = w' := by
  subst hn ho
  have h1 := run_conv_rd (P := Tryz.prog) 51 9 5 l.length c rfl Tryz.underlying51 Tryz.underlying5 Tryz.underlying9 hr
  have h2 := run_conv_rd (P := Tryz.prog) 51 9 5 m.length d rfl Tryz.underlying51 Tryz.underlying5 Tryz.underlying9 hs
  go_enter Tryz.func130, Tryz.ntmps130
  go_wp2
  go_ret
  exact ⟨ret_bool (by unfold R1.sameB; by_cases h : l = m <;> simp [h]), rfl⟩
end Go.Proofs.YtchcmklelmlbgaaGreat.Mac

/- The walks of the package num and of the reference's numbers as bytes. -/
namespace Go.Proofs.YtchcmklelmlbgaaGreat.Num
open Go.RowKit
set_option linter.unusedVariables false
set_option maxRecDepth 100000

theorem info8 : (Tryz.prog.info? 5).map (fun i => (i.zero, i.size, i.bytes)) = some (some (.int .u8 0), 1, 1) := by kernel_rfl
/-- bytes of a size outside 1 to 8: none -/
def put (n : Nat) (size : Int) : List UInt8 := if 1 ≤ size ∧ size ≤ 8 then putL n size.toNat else []

set_option maxHeartbeats 400000 in
theorem put_any (n : UInt64) (m : Int) (hm : m = (n.toNat : Int)) (s : Nat) (z : Int) (hz : z = (s : Int)) (hs : 1 ≤ s) (hs8 : s ≤ 8) (w : World) :
    Calls Tryz.prog 108 #[.int .u64 m, .int .i64 z] w fun e w' => RetB 5 w (putL n.toNat s) e w' := by
  subst hm hz
  obtain ⟨i0, hi0, hz0, hz1, hz2⟩ := info_parts info8
  have hn0 : (0 : Int) ≤ (n.toNat : Int) := by omega
  have hn1 : (n.toNat : Int) ≤ 18446744073709551615 := by have := n.toNat_lt; omega
  go_enter Tryz.func108, Tryz.ntmps108
  go_wp2
  go_step3
  go_wp2
  go_step3
  go_wp2
  go_loopw [4, 5] (fun v i wr => ∃ k : Nat, k ≤ s ∧ i = .int .i64 ((s : Int) - 1 - (k : Int)) ∧ wr.ownsRow w.heap.size 5 1 v k (((putL n.toNat s).take k).map e8) ∧ Below w.heap.size w wr) (fun _ i _ => (intOf i + 1).toNat)
  case atStart => exact ⟨0, by omega, by go_num, by simpa using own_nil _ _ _ _, Below.refl _ _⟩
  case round =>
    obtain ⟨k, hk, rfl, hown, hbel⟩ := hrel
    by_cases hlt : k < s
    · have hcell := Lib.hid (cell_of n.toNat (8 * (s - 1 - k)))
      go_wp2_with (at_builtin; refine wpList_append_rd _ rfl _ _ _ rfl w.heap.size 5 i0 _ 1 1 Tryz.underlying51 hi0 hz0 hz1 hz2 rfl (by omega) _ k _ rfl (hown.alloc _) _ _ 1 1 [.int .u8 ((n.toNat : Int) / 2 ^ (8 * (s - 1 - k)) % 256)] rfl rfl (Rd.lit wr _ _ _ (wr.heap.size + 1) rfl (by omega)) (one_int _ _) (by simp only [maxLen]; omega) (by omega) (le_alloc hbel.size _) ?_; intro v1 w1 hown1 hg1 hat1)
      go_roundw
      case rel => exact ⟨k + 1, by omega, by go_num, by rw [putL_take _ _ _ hlt, List.map_append, List.map_singleton]; unfold e8; rw [hcell.out]; exact hown1, (hbel.alloc hbel.size _).grown hg1 (by have := hbel.size; simp; omega) (fun g hg => own_block hown hg)⟩
      case measure => simp [intOf]; omega
    · obtain rfl : k = s := by omega
      rw [List.take_of_length_le (by rw [putL_len]; omega)] at hown
      go_wp2
      rw [Exit.noGoto_ret]
      go_ret
      exact RetB.mk hown rfl hbel
theorem put_le (n : Nat) (s : Int) : (put n s).length ≤ 8 := by
  unfold put
  split
  · rw [putL_len]; omega
  · simp
theorem put_yes {n : Nat} {s : Int} (h0 : 1 ≤ s) (h1 : s ≤ 8) : put n s = putL n s.toNat := if_pos ⟨h0, h1⟩
theorem put_no {n : Nat} {s : Int} (h : s < 1 ∨ 8 < s) : put n s = [] := if_neg (by omega)
theorem retB_nil (E : TypeId) (w : World) : RetB E w [] (.returned (.slice none 0 0)) w := ⟨none, 0, rfl, own_nil _ _ _ _, Below.refl _ _⟩
set_option maxHeartbeats 400000 in
theorem putz_any (n : UInt64) (m : Int) (hm : m = (n.toNat : Int)) (s : Int) (hs0 : -9223372036854775808 ≤ s) (hs1 : s ≤ 9223372036854775807) (w : World) :
    Calls Tryz.prog 108 #[.int .u64 m, .int .i64 s] w fun e w' => RetB 5 w (put n.toNat s) e w' := by
  by_cases h : 1 ≤ s ∧ s ≤ 8
  · rw [put_yes h.1 h.2]
    exact put_any n m hm s.toNat s (by omega) (by omega) (by omega) w
  · have hp := Lib.hid (put_no (n := n.toNat) (show s < 1 ∨ 8 < s by omega))
    have hr := retB_nil 5 w
    rcases (show s < 1 ∨ 8 < s by omega) with h1 | h1
    all_goals
      clear h
      go_enter Tryz.func108, Tryz.ntmps108
      go_wp2
      go_step3
      go_wp2
      go_ret
      rw [hp.out]
      exact hr
theorem or_byte {n c : Nat} (hn : n < 72057594037927936) (hc : c < 256) : bits .or .u64 ((n : Int) * 256) (c : Int) = ((n * 256 + c : Nat) : Int) := by
  have h := u64_or_nat (n * 256) c (by omega) (by omega)
  have h2 : n * 256 ||| c = n * 256 + c := by
    have := Nat.shiftLeft_add_eq_or_of_lt (i := 8) (a := n) (b := c) (by omega)
    rw [Nat.shiftLeft_eq, show (2 : Nat) ^ 8 = 256 from rfl] at this
    omega
  rw [h2] at h
  rw [show ((n : Int) * 256) = ((n * 256 : Nat) : Int) by omega]
  exact h
set_option maxHeartbeats 400000 in
theorem get_any (A : Option Addr) (l : List UInt8) (n cap : Nat) (B : Nat) (w : World) (hn : n = l.length) (hr : Rd w B A (l.map e8)) (h1 : 1 ≤ l.length) (h8 : l.length ≤ 8) :
    Calls Tryz.prog 118 #[.slice A n cap] w fun e w' => e = .returned (.tuple #[.int .u64 (getN l : Int), .int .i64 0]) ∧ w = w' := by
  subst hn
  have hne := beq_no (show (l.length : Int) ≠ 0 by omega)
  go_enter Tryz.func118, Tryz.ntmps118
  go_wp2
  go_loop [2, 5, 16] (fun n _ i => ∃ k : Nat, k ≤ l.length ∧ i = .int .i64 k ∧ n = .int .u64 (getN (l.take k) : Int)) (fun _ _ i => l.length - (intOf i).toNat)
  case atStart => exact ⟨0, by omega, rfl, rfl⟩
  case round =>
    obtain ⟨k, hk, rfl, rfl⟩ := hrel
    by_cases hlt : k < l.length
    · obtain ⟨b, off, rfl, hbb, hc⟩ := hr.get (k := k) (by simpa using hlt)
      rw [List.getElem_map] at hc
      have hb := getN_7 l k hk (by omega)
      have hc0 : (0 : Int) ≤ (l[k].toNat : Int) := by omega
      have hc1 : (l[k].toNat : Int) ≤ 255 := by have := l[k].toNat_lt; omega
      have hv := Lib.hid (show bits .or .u64 ((getN (l.take k) : Int) * 256) (l[k].toNat : Int) = (getN (l.take (k + 1)) : Int) by rw [or_byte hb (by omega), getN_take hlt])
      go_wp2
      go_round
      case rel => exact ⟨k + 1, by omega, by go_num, by rw [hv.out]⟩
      case measure => simp [intOf]; omega
    · obtain rfl : k = l.length := by omega
      have ht := Lib.hid (show getN (l.take l.length) = getN l by rw [List.take_length])
      go_wp2
      go_ret2
      exact ⟨by rw [← ht.out]; rfl, rfl⟩
set_option maxHeartbeats 400000 in
theorem get_no (A : Option Addr) (n cap : Nat) (w : World) (h : n = 0 ∨ 8 < n) (hm : n ≤ maxLen) :
    Calls Tryz.prog 118 #[.slice A n cap] w fun e w' => e = .returned (.tuple #[.int .u64 0, .int .i64 4]) ∧ w = w' := by
  unfold maxLen at hm
  rcases h with rfl | h
  · go_enter Tryz.func118, Tryz.ntmps118
    go_wp2
    go_ret2
    exact ⟨rfl, rfl⟩
  · have hne := beq_no (show (n : Int) ≠ 0 by omega)
    go_enter Tryz.func118, Tryz.ntmps118
    go_wp2
    go_ret2
    exact ⟨rfl, rfl⟩
end Go.Proofs.YtchcmklelmlbgaaGreat.Num

/- A sector and its bytes: plain functions; nothing of the program. -/
namespace Go.Proofs.YtchcmklelmlbgaaGreat.Sec
open Go.Proofs.YtchcmklelmlbgaaGreat.Num (putL getN putL_len)
open Go.Proofs.YtchcmklelmlbgaaGreat.Mac (padTo)

structure X where
  kind : Int
  life : UInt64
  seq : Int
  gen : UInt64
  body : List UInt8
/-- may it stand at a place? -/
def rightF (p : Int) (x : X) : Int := if x.kind < 1 ∨ 5 < x.kind ∨ p < 0 ∨ 1023 < p ∨ x.seq < 0 ∨ 1073741824 < x.seq then 2 else if 479 < x.body.length then 6 else 0
theorem right_of {p : Int} {x : X} (h : rightF p x = 0) : 1 ≤ x.kind ∧ x.kind ≤ 5 ∧ 0 ≤ p ∧ p ≤ 1023 ∧ 0 ≤ x.seq ∧ x.seq ≤ 1073741824 ∧ x.body.length ≤ 479 := by
  unfold rightF at h
  split at h
  · cases h
  · split at h
    · cases h
    · omega
theorem right_2 {p : Int} {x : X} (h : x.kind < 1 ∨ 5 < x.kind ∨ p < 0 ∨ 1023 < p ∨ x.seq < 0 ∨ 1073741824 < x.seq) : rightF p x = 2 := if_pos h
theorem right_6 {p : Int} {x : X} (h : ¬ (x.kind < 1 ∨ 5 < x.kind ∨ p < 0 ∨ 1023 < p ∨ x.seq < 0 ∨ 1073741824 < x.seq)) (hb : 479 < x.body.length) : rightF p x = 6 := by unfold rightF; rw [if_neg h, if_pos hb]
theorem right_0 {p : Int} {x : X} (h : ¬ (x.kind < 1 ∨ 5 < x.kind ∨ p < 0 ∨ 1023 < p ∨ x.seq < 0 ∨ 1073741824 < x.seq)) (hb : ¬ 479 < x.body.length) : rightF p x = 0 := by unfold rightF; rw [if_neg h, if_neg hb]
def head (p : Int) (x : X) : List UInt8 := putL x.kind.toNat 1 ++ putL p.toNat 2 ++ putL x.life.toNat 8 ++ putL x.seq.toNat 4 ++ putL x.gen.toNat 8 ++ putL x.body.length 2
theorem head_len (p : Int) (x : X) : (head p x).length = 25 := by simp [head, putL_len]
/-- the first 504 bytes -/
def text (p : Int) (x : X) : List UInt8 := padTo (head p x ++ x.body) 504
theorem padTo_len (l : List UInt8) (n : Nat) : (padTo l n).length = n := by unfold padTo; simp; omega
theorem text_len (p : Int) (x : X) : (text p x).length = 504 := padTo_len _ _
def zero512 : List UInt8 := List.replicate 512 0
theorem zero512_len : zero512.length = 512 := List.length_replicate ..
def blankB (b : List UInt8) : Bool := decide (b = zero512)
/-- the bytes from a place on -/
def cut (b : List UInt8) (i n : Nat) : List UInt8 := (b.drop i).take n
def lenB (b : List UInt8) : Nat := getN (cut b 23 2)
def ofB (b : List UInt8) : X := ⟨(getN (cut b 0 1) : Int), UInt64.ofNat (getN (cut b 3 8)), (getN (cut b 11 4) : Int), UInt64.ofNat (getN (cut b 15 8)), cut b 25 (lenB b)⟩
theorem cut_len {b : List UInt8} {i n : Nat} (h : i + n ≤ b.length) : (cut b i n).length = n := by simp [cut]; omega
/-- the sector of 504 bytes -/
def reads (p : Int) (b : List UInt8) : Option X := if lenB b ≤ 479 ∧ rightF p (ofB b) = 0 ∧ text p (ofB b) = b then some (ofB b) else none
def same (x y : X) : Bool := decide (x.kind = y.kind) && decide (x.life = y.life) && decide (x.seq = y.seq) && decide (x.gen = y.gen) && decide (x.body = y.body)
theorem cut_take (b : List UInt8) (i n m : Nat) (h : i + n ≤ m) : cut (b.take m) i n = cut b i n := by
  unfold cut
  rw [List.drop_take, List.take_take, Nat.min_eq_left (by omega)]
theorem ofB_take {b : List UInt8} {m : Nat} (hm : 504 ≤ m) (h : lenB b ≤ 479) : ofB (b.take m) = ofB b := by
  have h2 : lenB (b.take m) = lenB b := by unfold lenB; rw [cut_take _ _ _ _ (by omega)]
  unfold ofB
  rw [h2, cut_take _ _ _ _ (by omega), cut_take _ _ _ _ (by omega), cut_take _ _ _ _ (by omega), cut_take _ _ _ _ (by omega), cut_take _ _ _ _ (by omega)]
theorem lenB_take {b : List UInt8} {m : Nat} (hm : 504 ≤ m) : lenB (b.take m) = lenB b := by unfold lenB; rw [cut_take _ _ _ _ (by omega)]
end Go.Proofs.YtchcmklelmlbgaaGreat.Sec

/- Sums of 32 bits as plain functions on lists of bytes; nothing of the program. -/
namespace Go.Proofs.YtchcmklelmlbgaaGreat.Crc

def step (c : UInt32) : UInt32 := (c >>> 1) ^^^ (3988292384 &&& -(c &&& 1))
def steps : Nat → UInt32 → UInt32
  | 0, c => c
  | n + 1, c => step (steps n c)
def byte (c : UInt32) (x : UInt8) : UInt32 := steps 8 (c ^^^ x.toUInt32)
def run (c : UInt32) (l : List UInt8) : UInt32 := l.foldl byte c
def more (s : UInt32) (l : List UInt8) : UInt32 := run (s ^^^ 4294967295) l ^^^ 4294967295

theorem bit (c : UInt32) : c &&& 1 = 0 ∨ c &&& 1 = 1 := by
  have h : (c &&& 1).toNat = c.toNat % 2 := by
    rw [UInt32.toNat_and]; exact Nat.and_two_pow_sub_one_eq_mod c.toNat 1
  rcases Nat.mod_two_eq_zero_or_one c.toNat with e | e
  · exact .inl (UInt32.toNat_inj.1 (by rw [h, e]; rfl))
  · exact .inr (UInt32.toNat_inj.1 (by rw [h, e]; rfl))

theorem step_even {c : UInt32} (h : c.toNat % 2 = 0) : step c = c >>> 1 := by
  have e : c &&& 1 = 0 := UInt32.toNat_inj.1 (by rw [UInt32.toNat_and]; exact (Nat.and_two_pow_sub_one_eq_mod c.toNat 1).trans h)
  rw [step, e]; simp
theorem step_odd {c : UInt32} (h : c.toNat % 2 = 1) : step c = (c >>> 1) ^^^ 3988292384 := by
  have e : c &&& 1 = 1 := UInt32.toNat_inj.1 (by rw [UInt32.toNat_and]; exact (Nat.and_two_pow_sub_one_eq_mod c.toNat 1).trans h)
  rw [step, e]; rfl

/-- what is turned by a step is found again -/
def back (d : UInt32) : UInt32 := if 2147483648 ≤ d.toNat then ((d ^^^ 3988292384) <<< 1) ||| 1 else d <<< 1

theorem half_lt (c : UInt32) : (c >>> 1).toNat < 2147483648 := by
  have := c.toNat_lt
  have e : (c >>> 1).toNat = c.toNat / 2 := by rw [UInt32.toNat_shiftRight]; simp [Nat.shiftRight_eq_div_pow]
  omega
theorem half (c : UInt32) : (c >>> 1).toNat = c.toNat / 2 := by rw [UInt32.toNat_shiftRight]; simp [Nat.shiftRight_eq_div_pow]
theorem dbl (c : UInt32) : (c <<< 1).toNat = c.toNat * 2 % 4294967296 := by
  rw [UInt32.toNat_shiftLeft]; simp [Nat.shiftLeft_eq]

theorem high_xor (a : Nat) (h : a < 2147483648) : 2147483648 ≤ a ^^^ 3988292384 := by
  have h31 : (a ^^^ 3988292384).testBit 31 = true := by
    rw [Nat.testBit_xor, Nat.testBit_lt_two_pow (by omega : a < 2 ^ 31)]; decide
  have := Nat.ge_two_pow_of_testBit h31
  omega

theorem back_step (c : UInt32) : back (step c) = c := by
  rcases Nat.mod_two_eq_zero_or_one c.toNat with e | e
  · rw [step_even e, back, if_neg (by have := half_lt c; omega)]
    apply UInt32.toNat_inj.1
    have := c.toNat_lt
    rw [dbl, half]; omega
  · have hx : 2147483648 ≤ ((c >>> 1) ^^^ 3988292384).toNat := by
      rw [UInt32.toNat_xor]; exact high_xor _ (half_lt c)
    rw [step_odd e, back, if_pos hx]
    have hc : ((c >>> 1) ^^^ (3988292384 : UInt32)) ^^^ (3988292384 : UInt32) = c >>> 1 := by rw [UInt32.xor_assoc, UInt32.xor_self, UInt32.xor_zero]
    rw [hc]
    apply UInt32.toNat_inj.1
    have := c.toNat_lt
    rw [UInt32.toNat_or, dbl, half]
    have h2 : c.toNat / 2 * 2 % 4294967296 = 2 * (c.toNat / 2) := by omega
    have h3 : (2 * (c.toNat / 2) ||| (1 : Nat)) = 2 * (c.toNat / 2) + 1 := by
      have := Nat.two_pow_add_eq_or_of_lt (i := 1) (b := 1) (by decide) (c.toNat / 2)
      simpa using this.symm
    rw [h2]
    show (2 * (c.toNat / 2) ||| 1) = _
    rw [h3]; omega

theorem step_inj {a b : UInt32} (h : step a = step b) : a = b := by rw [← back_step a, h, back_step]
theorem steps_inj : ∀ n {a b : UInt32}, steps n a = steps n b → a = b
  | 0, _, _, h => h
  | n + 1, _, _, h => steps_inj n (step_inj h)
theorem xor_left_inj {a b c : UInt32} (h : c ^^^ a = c ^^^ b) : a = b := by
  have : c ^^^ (c ^^^ a) = c ^^^ (c ^^^ b) := by rw [h]
  rwa [← UInt32.xor_assoc, ← UInt32.xor_assoc, UInt32.xor_self, UInt32.zero_xor, UInt32.zero_xor] at this
theorem xor_right_inj {a b c : UInt32} (h : a ^^^ c = b ^^^ c) : a = b := xor_left_inj (c := c) (by rw [UInt32.xor_comm c a, UInt32.xor_comm c b, h])
theorem byte_inj_left {a b : UInt32} {x : UInt8} (h : byte a x = byte b x) : a = b := xor_right_inj (steps_inj 8 h)
theorem byte_inj_right {c : UInt32} {x y : UInt8} (h : byte c x = byte c y) : x = y := by
  have e := xor_left_inj (steps_inj 8 h)
  have : x.toUInt32.toNat = y.toUInt32.toNat := by rw [e]
  simp at this
  exact UInt8.toNat_inj.1 this
theorem run_inj : ∀ (l : List UInt8) {a b : UInt32}, run a l = run b l → a = b
  | [], _, _, h => h
  | x :: l, _, _, h => byte_inj_left (run_inj l (by simpa [run] using h))
theorem run_append (c : UInt32) (a b : List UInt8) : run c (a ++ b) = run (run c a) b := by simp [run]
theorem run_set (c : UInt32) : ∀ (l : List UInt8) (i : Nat) (y : UInt8) (h : i < l.length), y ≠ l[i] → run c (l.set i y) ≠ run c l := by
  intro l i y h hne he
  have e1 : l.set i y = l.take i ++ y :: l.drop (i + 1) := List.set_eq_take_append_cons_drop.trans (if_pos h)
  have e2 : l = l.take i ++ l[i] :: l.drop (i + 1) := by rw [List.getElem_cons_drop h, List.take_append_drop]
  rw [e1] at he
  have he' := he.trans (congrArg (run c) e2)
  rw [run_append, run_append] at he'
  exact hne (byte_inj_right (c := run c (l.take i)) (run_inj (l.drop (i + 1)) (a := byte (run c (l.take i)) y) (b := byte (run c (l.take i)) l[i]) he'))

theorem more_join (a b : List UInt8) : more 0 (a ++ b) = more (more 0 a) b := by
  unfold more
  rw [run_append]
  congr 2
  rw [UInt32.xor_assoc, UInt32.xor_self, UInt32.xor_zero]
theorem more_set (l : List UInt8) (i : Nat) (y : UInt8) (h : i < l.length) (hne : y ≠ l[i]) : more 0 (l.set i y) ≠ more 0 l :=
  fun e => run_set _ l i y h hne (xor_right_inj e)
theorem run_take (c : UInt32) (l : List UInt8) (k : Nat) (h : k < l.length) : run c (l.take (k + 1)) = byte (run c (l.take k)) l[k] := by
  rw [List.take_succ_eq_append_getElem h, run_append]; rfl

/-- the document's step -/
def rstep (c : UInt32) : UInt32 := if c.toNat % 2 = 1 then (c / 2) ^^^ 3988292384 else c / 2
theorem halfdiv (c : UInt32) : c >>> 1 = c / 2 := by
  apply UInt32.toNat_inj.1
  rw [half, UInt32.toNat_div]; rfl
theorem rstep_eq (c : UInt32) : rstep c = step c := by
  unfold rstep
  rcases Nat.mod_two_eq_zero_or_one c.toNat with e | e
  · rw [if_neg (by omega), step_even e, halfdiv]
  · rw [if_pos e, step_odd e, halfdiv]
end Go.Proofs.YtchcmklelmlbgaaGreat.Crc

/- The walks of the package crc and of the reference's sums: each returns what the plain functions say. -/
namespace Go.Proofs.YtchcmklelmlbgaaGreat.Crc
open Go.RowKit

theorem step_word (c : UInt32) : bits .xor .u32 ((c.toNat : Int) / 2) (bits .and .u32 3988292384 (-bits .and .u32 (c.toNat : Int) 1 % 4294967296)) = ((step c).toNat : Int) := by
  have h1 : bits .and .u32 (c.toNat : Int) 1 = ((c &&& 1).toNat : Int) := and32 c 1
  have h2 : (c.toNat : Int) / (2 : Int) = ((c >>> 1).toNat : Int) := by rw [half]; omega
  have h3 : -((c &&& 1).toNat : Int) % 4294967296 = ((-(c &&& 1)).toNat : Int) := by rcases bit c with e | e <;> rw [e] <;> rfl
  rw [h1, h2, h3]
  have h4 : bits .and .u32 3988292384 ((-(c &&& 1)).toNat : Int) = ((3988292384 &&& -(c &&& 1)).toNat : Int) := and32 3988292384 _
  rw [h4, xor32]; rfl

set_option maxHeartbeats 400000 in
theorem step_any (c : UInt32) (w : World) : Calls Tryz.prog 141 #[.int .u32 (c.toNat : Int)] w fun e w' => e = .returned (.int .u32 ((step c).toNat : Int)) ∧ w = w' := by
  have h0 : (0 : Int) ≤ (c.toNat : Int) := by omega
  have h1 : (c.toNat : Int) ≤ 4294967295 := by have := c.toNat_lt; omega
  have hw := Lib.hid (step_word c)
  go_enter Tryz.func141, Tryz.ntmps141
  go_wp2
  go_ret
  exact ⟨ret_int (by rw [← hw.out]), rfl⟩

set_option maxHeartbeats 400000 in
/-- one byte taken in: the cell that holds the sum -/
theorem byByte_any (c : UInt32) (x : UInt8) (g : Nat) (w : World) (hb : Box w g (.int .u32 (c.toNat : Int))) :
    Calls Tryz.prog 140 #[.int .u8 (x.toNat : Int), .pointer (some ⟨g, 0, none⟩)] w fun e w' =>
      e = .returned (.tuple #[]) ∧ Box w' g (.int .u32 ((byte c x).toNat : Int)) ∧ w.grownBy w' (some g) := by
  have hc := hb.cell
  have hf := hb.free
  have hx0 : (0 : Int) ≤ (x.toNat : Int) := by omega
  have hx1 : (x.toNat : Int) ≤ 255 := by have := x.toNat_lt; omega
  have hx := xor32 c x.toUInt32
  rw [UInt8.toNat_toUInt32] at hx
  go_enter Tryz.func140, Tryz.ntmps140
  go_wp2
  go_loopw [7, 9] (fun i _ wr => ∃ k : Nat, k ≤ 8 ∧ i = .int .i64 k ∧ Box wr g (.int .u32 ((steps k (c ^^^ x.toUInt32)).toNat : Int)) ∧ w.grownBy wr (some g)) (fun i _ _ => 8 - (intOf i).toNat)
  case atStart => exact ⟨0, by omega, rfl, hb.set _, grown_set _ _ _⟩
  case round =>
    obtain ⟨k, hk, rfl, hbr, hg⟩ := hrel
    have hcr := hbr.cell
    have hfr := hbr.free
    by_cases hlt : k < 8
    · go_wp2_with (go_at_call 141; refine (step_any _ _).mono ?_; rintro e w' ⟨rfl, rfl⟩)
      go_roundw
      case rel => exact ⟨k + 1, by omega, by go_num, hbr.set _, grown_trans hg (grown_set _ _ _)⟩
      case measure => simp [intOf]; omega
    · obtain rfl : k = 8 := by omega
      go_wp2
      go_end0
      exact ⟨rfl, hbr, hg⟩

set_option maxHeartbeats 400000 in
theorem more_any (s : UInt32) (A : Option Addr) (l : List UInt8) (n cap : Nat) (w : World) (hn : n = l.length) (hr : Rd w w.heap.size A (l.map e8)) (hl : l.length ≤ 1000000000000) :
    Calls Tryz.prog 139 #[.int .u32 (s.toNat : Int), .slice A n cap] w fun e w' => e = .returned (.int .u32 ((more s l).toNat : Int)) ∧ Below w.heap.size w w' := by
  subst hn
  have hx := xor32 s 4294967295
  have e1 : ((4294967295 : UInt32).toNat : Int) = 4294967295 := rfl
  rw [e1] at hx
  go_enter Tryz.func139, Tryz.ntmps139
  go_wp2
  go_loopw [8, 14, 15, 16, 17, 18, 19, 20, 21] (fun _ i _ _ _ _ _ _ _ wr => ∃ k : Nat, k ≤ l.length ∧ i = .int .i64 k ∧ Box wr w.heap.size (.int .u32 ((run (s ^^^ 4294967295) (l.take k)).toNat : Int)) ∧ Below w.heap.size w wr) (fun _ i _ _ _ _ _ _ _ _ => l.length - (intOf i).toNat)
  case atStart => exact ⟨0, by omega, rfl, by simpa [run] using Box.new w _ _, (Below.refl _ _).alloc (Nat.le_refl _) _⟩
  case round =>
    obtain ⟨k, hk, rfl, hb, hbel⟩ := hrel
    by_cases hlt : k < l.length
    · obtain ⟨b, off, rfl, hbb, hc⟩ := (hr.below hbel).get (k := k) (by simpa using hlt)
      rw [List.getElem_map] at hc
      go_wp2_with (go_at_call 140; refine (byByte_any _ _ _ _ hb).mono ?_; rintro e w' ⟨rfl, hb', hg'⟩)
      go_roundw
      case rel => exact ⟨k + 1, by omega, by go_num, by rw [run_take _ _ _ hlt]; exact hb', hbel.grown hg' hbel.size (by simp)⟩
      case measure => simp [intOf]; omega
    · obtain rfl : k = l.length := by omega
      have hc := hb.cell
      rw [List.take_length] at hc
      have hx2 := xor32 (run (s ^^^ 4294967295) l) 4294967295
      rw [e1] at hx2
      go_wp2
      go_ret
      exact ⟨rfl, hbel⟩

set_option maxHeartbeats 400000 in
theorem of_any (A : Option Addr) (l : List UInt8) (n cap : Nat) (w : World) (hn : n = l.length) (hr : Rd w w.heap.size A (l.map e8)) (hl : l.length ≤ 1000000000000) :
    Calls Tryz.prog 138 #[.slice A n cap] w fun e w' => e = .returned (.int .u32 ((more 0 l).toNat : Int)) ∧ Below w.heap.size w w' := by
  subst hn
  go_enter Tryz.func138, Tryz.ntmps138
  go_wp2_with (go_at_call 139; refine (more_any 0 _ _ _ _ _ rfl hr hl).mono ?_; rintro e w' ⟨rfl, hb⟩)
  go_ret
  exact ⟨rfl, hb⟩
end Go.Proofs.YtchcmklelmlbgaaGreat.Crc

/- The walks of the reference's sums (oublietteref06), and crc.Bytes. -/
namespace Go.Proofs.YtchcmklelmlbgaaGreat.Crc
open Go.RowKit
set_option linter.unusedVariables false

theorem rodd (c : UInt32) (h : c.toNat % 2 = 1) : bits .xor .u32 ((c.toNat : Int) / 2) 3988292384 = ((step c).toNat : Int) := by
  have h2 : (c.toNat : Int) / (2 : Int) = ((c >>> 1).toNat : Int) := by rw [half]; omega
  rw [h2, step_odd h]
  exact xor32 (c >>> 1) 3988292384
theorem reven (c : UInt32) (h : c.toNat % 2 = 0) : (c.toNat : Int) / 2 = ((step c).toNat : Int) := by
  have h2 : (c.toNat : Int) / (2 : Int) = ((c >>> 1).toNat : Int) := by rw [half]; omega
  rw [h2, step_even h]





















theorem take_zero_run (c : UInt32) (l : List UInt8) : run c (l.take 0) = c := by simp [run]







































theorem more_zero (l : List UInt8) : more 0 l = run 4294967295 l ^^^ 4294967295 := by unfold more; rw [UInt32.zero_xor]











/-- the sum as eight bytes -/
def sumB (l : List UInt8) : List UInt8 := Num.putL (more 0 l).toNat 8
theorem wide (x : UInt32) : (x.toNat : Int) = ((x.toUInt64).toNat : Int) := by simp
set_option maxHeartbeats 400000 in
theorem bytes_any (A : Option Addr) (l : List UInt8) (n cap : Nat) (w : World) (hn : n = l.length) (hr : Rd w w.heap.size A (l.map e8)) (hl : l.length ≤ 1000000000000) :
    Calls Tryz.prog 134 #[.slice A n cap] w fun e w' => RetB 5 w (sumB l) e w' := by
  subst hn
  have h0 : (0 : Int) ≤ ((more 0 l).toNat : Int) := by omega
  have h1 : ((more 0 l).toNat : Int) ≤ 4294967295 := by have := (more 0 l).toNat_lt; omega
  have hw := Lib.hid (wide (more 0 l))
  have hv : sumB l = Num.putL (more 0 l).toUInt64.toNat 8 := by rw [sumB]; simp
  rw [hv]; clear hv
  go_enter Tryz.func134, Tryz.ntmps134
  go_wp2_with fail
  refine (of_any _ _ _ _ _ rfl hr hl).mono ?_
  rintro e w1 ⟨rfl, hb1⟩
  go_wp2_with fail
  refine (Num.put_any _ _ hw.out 8 _ (by rfl) (by omega) (by omega) _).mono ?_
  rintro e w2 ⟨A2, c2, rfl, hown, hb2⟩
  go_wp2
  go_ret
  exact RetB.after hb1 hown hb2



















end Go.Proofs.YtchcmklelmlbgaaGreat.Crc

/- The small walks of the package sector, and of its reference. -/
namespace Go.Proofs.YtchcmklelmlbgaaGreat.Sec
open Go.RowKit
set_option linter.unusedVariables false
set_option maxRecDepth 100000

theorem info8 : (Tryz.prog.info? 5).map (fun i => (i.zero, i.size, i.bytes)) = some (some (.int .u8 0), 1, 1) := by kernel_rfl
/-- the cells of a sector -/
def xcells (x : X) (A : Option Addr) (c : Nat) : List Value := [.int .i64 x.kind, .int .u64 (x.life.toNat : Int), .int .i64 x.seq, .int .u64 (x.gen.toNat : Int), .slice A x.body.length c]
def xv (x : X) (A : Option Addr) (c : Nat) : Value := .agg #[.int .i64 x.kind, .int .u64 (x.life.toNat : Int), .int .i64 x.seq, .int .u64 (x.gen.toNat : Int), .slice A x.body.length c]
theorem none_any (g : Nat) (w : World) : Calls Tryz.prog 120 #[.pointer (some ⟨g, 0, none⟩)] w fun e w' => e = .returned (.bool false) ∧ w = w' := by
  go_enter Tryz.func120, Tryz.ntmps120
  go_wp2
  go_ret
  exact ⟨rfl, rfl⟩
theorem none_nil (w : World) : Calls Tryz.prog 120 #[.pointer none] w fun e w' => e = .returned (.bool true) ∧ w = w' := by
  go_enter Tryz.func120, Tryz.ntmps120
  go_wp2
  go_ret
  exact ⟨rfl, rfl⟩
def withinB (n l m : Int) : Bool := decide (l ≤ n) && decide (n ≤ m)
theorem within_any (n l m : Int) (w : World) : Calls Tryz.prog 131 #[.int .i64 n, .int .i64 l, .int .i64 m] w fun e w' => e = .returned (.bool (withinB n l m)) ∧ w = w' := by
  by_cases h : l ≤ n
  · have hr := Lib.hid (show withinB n l m = decide (n ≤ m) by simp [withinB, h])
    go_enter Tryz.func131, Tryz.ntmps131
    go_wp2
    go_ret
    exact ⟨ret_bool hr.out.symm, rfl⟩
  · have hr := Lib.hid (show withinB n l m = false by simp [withinB, h])
    go_enter Tryz.func131, Tryz.ntmps131
    go_wp2
    go_ret
    exact ⟨ret_bool hr.out.symm, rfl⟩
set_option maxHeartbeats 1000000 in
theorem right_any (p : Int) (x : X) (A : Option Addr) (c : Nat) (w : World) :
    Calls Tryz.prog 121 #[.int .i64 p, .agg #[.int .i64 x.kind, .int .u64 (x.life.toNat : Int), .int .i64 x.seq, .int .u64 (x.gen.toNat : Int), .slice A x.body.length c]] w fun e w' => e = .returned (.int .i64 (rightF p x)) ∧ Below w.heap.size w w' := by
  have hmf : ∀ w : World, Sem.run Tryz.prog (callFunc 131 #[]) w = .ok (.enter 131 #[]) w := by intro w; simp [go_sem]
  by_cases h1 : x.kind < 1 ∨ 5 < x.kind
  · have hr := Lib.hid (show rightF p x = 2 from right_2 (by omega))
    have hb := Lib.hid (show withinB x.kind 1 5 = false by unfold withinB; simp; omega)
    clear h1
    go_enter Tryz.func121, Tryz.ntmps121
    go_wp2_with (go_at_call 131; refine (within_any _ _ _ _).mono ?_; rintro e w1 ⟨rfl, rfl⟩; try rw [hb.out])
    go_ret
    exact ⟨ret_int hr.out.symm, below_lit _ _⟩
  have hb := Lib.hid (show withinB x.kind 1 5 = true by unfold withinB; simp; omega)
  by_cases h2 : p < 0 ∨ 1023 < p
  · have hr := Lib.hid (show rightF p x = 2 from right_2 (by omega))
    have hb2 := Lib.hid (show withinB p 0 1023 = false by unfold withinB; simp; omega)
    clear h1 h2
    go_enter Tryz.func121, Tryz.ntmps121
    go_wp2_with (go_at_call 131; refine (within_any _ _ _ _).mono ?_; rintro e w1 ⟨rfl, rfl⟩; first | rw [hb.out] | rw [hb2.out])
    go_ret
    exact ⟨ret_int hr.out.symm, below_lit _ _⟩
  have hb2 := Lib.hid (show withinB p 0 1023 = true by unfold withinB; simp; omega)
  by_cases h3 : x.seq < 0 ∨ 1073741824 < x.seq
  · have hr := Lib.hid (show rightF p x = 2 from right_2 (by omega))
    have hb3 := Lib.hid (show withinB x.seq 0 1073741824 = false by unfold withinB; simp; omega)
    clear h1 h2 h3
    go_enter Tryz.func121, Tryz.ntmps121
    go_wp2_with (go_at_call 131; refine (within_any _ _ _ _).mono ?_; rintro e w1 ⟨rfl, rfl⟩; first | rw [hb.out] | rw [hb2.out] | rw [hb3.out])
    go_ret
    exact ⟨ret_int hr.out.symm, below_lit _ _⟩
  have hb3 := Lib.hid (show withinB x.seq 0 1073741824 = true by unfold withinB; simp; omega)
  by_cases h4 : 479 < x.body.length
  · have hr := Lib.hid (show rightF p x = 6 from right_6 (by omega) h4)
    clear h1 h2 h3
    go_enter Tryz.func121, Tryz.ntmps121
    go_wp2_with (go_at_call 131; refine (within_any _ _ _ _).mono ?_; rintro e w1 ⟨rfl, rfl⟩; first | rw [hb.out] | rw [hb2.out] | rw [hb3.out])
    go_ret
    exact ⟨ret_int hr.out.symm, below_lit _ _⟩
  have hr := Lib.hid (show rightF p x = 0 from right_0 (by omega) h4)
  clear h1 h2 h3
  go_enter Tryz.func121, Tryz.ntmps121
  go_wp2_with (go_at_call 131; refine (within_any _ _ _ _).mono ?_; rintro e w1 ⟨rfl, rfl⟩; first | rw [hb.out] | rw [hb2.out] | rw [hb3.out])
  go_ret
  exact ⟨ret_int hr.out.symm, below_lit _ _⟩
theorem nsame_any (A B : Option Addr) (l m : List UInt8) (n o c d : Nat) (w : World) (hn : n = l.length) (ho : o = m.length) (hr : Rd w w.heap.size A (l.map e8)) (hs : Rd w w.heap.size B (m.map e8)) :
    Calls Tryz.prog 113 #[.slice A n c, .slice B o d] w fun e w' => e = .returned (.bool (R1.sameB l m)) ∧ w = w' := by
  subst hn ho
  go_enter Tryz.func113, Tryz.ntmps113
  go_wp2_with (go_at_call 130; refine (Mac.equal_any _ _ _ _ _ _ _ _ _ rfl rfl hr hs).mono ?_; rintro e w' ⟨rfl, rfl⟩)
  go_ret
  exact ⟨rfl, rfl⟩
theorem blank_any (w : World) : Calls Tryz.prog 74 #[] w (RetB 5 w zero512) := by
  obtain ⟨i0, hi0, hz0, hz1, hz2⟩ := info_parts info8
  go_enter Tryz.func74, Tryz.ntmps74
  go_wp2_with ((with_reducible show wpList _ _ _ (⟨some 1, _, _, _, _, _⟩ :: _) _ _); refine wpList_make_full _ rfl _ _ _ rfl w.heap.size 5 i0 _ 1 Tryz.underlying51 hi0 hz0 hz1 _ _ _ _ 512 rfl rfl rfl rfl (by rw [hz2]; omega) (by simp only [maxLen]; omega) (Nat.le_refl _) ?_; intro w1 own1 hg1)
  rw [made_int] at own1
  go_ret
  exact RetB.mk own1 (by rw [zero512, List.map_replicate]; rfl) ((Below.refl _ _).grown hg1 (Nat.le_refl _) (by simp))
theorem isBlank_any (A : Option Addr) (l : List UInt8) (n c : Nat) (w : World) (hn : n = l.length) (hr : Rd w w.heap.size A (l.map e8)) :
    Calls Tryz.prog 127 #[.slice A n c] w fun e w' => e = .returned (.bool (blankB l)) ∧ Below w.heap.size w w' := by
  subst hn
  go_enter Tryz.func127, Tryz.ntmps127
  go_wp2_with fail
  refine (blank_any _).mono ?_
  rintro e w1 ⟨A1, c1, rfl, own1, b1⟩
  go_wp2_with fail
  refine (Mac.equal_any _ _ l zero512 _ _ _ _ _ rfl rfl (hr.on b1) (Rd.own own1)).mono ?_
  rintro e w2 ⟨rfl, rfl⟩
  go_wp2
  go_ret
  exact ⟨rfl, b1⟩
end Go.Proofs.YtchcmklelmlbgaaGreat.Sec

/- The walks of sector.written and of the reference's Text. -/
namespace Go.Proofs.YtchcmklelmlbgaaGreat.Sec
open Go.RowKit
open Go.Proofs.YtchcmklelmlbgaaGreat.Num (putL)
open Go.Proofs.YtchcmklelmlbgaaGreat.Mac (padTo)
set_option linter.unusedVariables false
set_option maxRecDepth 100000
theorem text_eq {p : Int} {x : X} {n0 n1 n3 n5 : UInt64} (e0 : x.kind = (n0.toNat : Int)) (e1 : p = (n1.toNat : Int)) (e3 : x.seq = (n3.toNat : Int)) (e5 : (x.body.length : Int) = (n5.toNat : Int)) :
    text p x = padTo ((((((putL n0.toNat 1 ++ putL n1.toNat 2) ++ putL x.life.toNat 8) ++ putL n3.toNat 4) ++ putL x.gen.toNat 8) ++ putL n5.toNat 2) ++ x.body) 504 := by
  unfold text head
  rw [show x.kind.toNat = n0.toNat by omega, show p.toNat = n1.toNat by omega, show x.seq.toNat = n3.toNat by omega, show x.body.length = n5.toNat by omega]
/-- the first fields' bytes -/
def pre (n0 n1 n2 n3 n4 n5 : UInt64) : Nat → List UInt8
  | 0 => []
  | 1 => putL n0.toNat 1
  | 2 => putL n0.toNat 1 ++ putL n1.toNat 2
  | 3 => (putL n0.toNat 1 ++ putL n1.toNat 2) ++ putL n2.toNat 8
  | 4 => ((putL n0.toNat 1 ++ putL n1.toNat 2) ++ putL n2.toNat 8) ++ putL n3.toNat 4
  | 5 => (((putL n0.toNat 1 ++ putL n1.toNat 2) ++ putL n2.toNat 8) ++ putL n3.toNat 4) ++ putL n4.toNat 8
  | _ => ((((putL n0.toNat 1 ++ putL n1.toNat 2) ++ putL n2.toNat 8) ++ putL n3.toNat 4) ++ putL n4.toNat 8) ++ putL n5.toNat 2
theorem retB_eq {E : TypeId} {w w' : World} {l l' : List UInt8} {e : Ending} (h : RetB E w l e w') (h2 : l = l') : RetB E w l' e w' := h2 ▸ h
theorem own_add {w : World} {base : Nat} {e : TypeId} {v : Value} {n m : Nat} {a b c : List UInt8} (h : w.ownsRow base e 1 v (n + m) (a.map e8 ++ b.map e8)) (hn : n = a.length) (hm : m = b.length) (hc : c = a ++ b) : w.ownsRow base e 1 v c.length (c.map e8) := by
  subst hn hm hc
  rw [List.length_append, List.map_append]; exact h
theorem blk_grown {w w' : World} {b : Nat} {o : Obj} {r : Option Nat} (h : w.heap[b]? = some o) (hlt : b < w.heap.size) (g : w.grownBy w' r) (hr : ∀ k, r = some k → b < k) : w'.heap[b]? = some o :=
  (g.block b hlt (fun e => by have := hr b e.symm; omega)).trans h
theorem five {w : World} {g : Nat} {v0 v1 v2 v3 v4 : Value} {t : TypeId} (h : w.heap[g]? = some (.cells #[v0, v1, v2, v3, v4] t (0, 0))) :
    w.cell? ⟨g, 0, none⟩ = some v0 ∧ w.cell? ⟨g, 1, none⟩ = some v1 ∧ w.cell? ⟨g, 2, none⟩ = some v2 ∧ w.cell? ⟨g, 3, none⟩ = some v3 ∧ w.cell? ⟨g, 4, none⟩ = some v4 ∧ ∀ o, w.frozen? ⟨g, o, none⟩ = false := by
  refine ⟨?_, ?_, ?_, ?_, ?_, ?_⟩ <;> simp [World.cell?, World.frozen?, h]
set_option maxHeartbeats 600000 in
theorem written_any (p : Int) (x : X) (A : Option Addr) (c : Nat) (w : World) (hr : Rd w w.heap.size A (x.body.map e8)) (h : rightF p x = 0) :
    Calls Tryz.prog 122 #[.int .i64 p, .agg #[.int .i64 x.kind, .int .u64 (x.life.toNat : Int), .int .i64 x.seq, .int .u64 (x.gen.toNat : Int), .slice A x.body.length c]] w (RetB 5 w (text p x)) := by
  obtain ⟨i0', hi0, hz0, hz1, hz2⟩ := info_parts info8
  obtain ⟨h1, h2, h3, h4, h5, h6, h7⟩ := right_of h
  obtain ⟨n0, e0⟩ := to64 x.kind (by omega) (by omega)
  obtain ⟨n1, e1⟩ := to64 p (by omega) (by omega)
  obtain ⟨n3, e3⟩ := to64 x.seq (by omega) (by omega)
  obtain ⟨n5, e5⟩ := to64 (x.body.length : Int) (by omega) (by omega)
  have ht := Lib.hid (text_eq e0 e1 e3 e5)
  rw [ht.out]
  obtain ⟨body, hbody⟩ : ∃ b, b = x.body := ⟨_, rfl⟩
  obtain ⟨n2, hn2⟩ : ∃ b, b = x.life := ⟨_, rfl⟩
  obtain ⟨n4, hn4⟩ : ∃ b, b = x.gen := ⟨_, rfl⟩
  rw [← hbody] at hr e5 h7 ⊢
  rw [← hn2, ← hn4]
  have E5 := Lib.hid e5
  rw [e0, e1, e3]
  rw [e0] at h1 h2
  rw [e1] at h3 h4
  rw [e3] at h5 h6
  clear ht h e0 e1 e3 e5 hbody hn2 hn4
  have g2 : (n2.toNat : Int) ≤ 18446744073709551615 := by have := n2.toNat_lt; omega
  have g4 : (n4.toNat : Int) ≤ 18446744073709551615 := by have := n4.toNat_lt; omega
  have hl : ∀ k, (pre n0 n1 n2 n3 n4 n5 k).length ≤ 25 := by
    intro k
    unfold pre
    split <;> simp [Num.putL_len]
  have i0 : ∀ w, (Instr.index 201 (.agg #[.int .u64 (n0.toNat : Int), .int .i64 1, .int .u64 (n1.toNat : Int), .int .i64 2, .int .u64 (n2.toNat : Int), .int .i64 8, .int .u64 (n3.toNat : Int), .int .i64 4, .int .u64 (n4.toNat : Int), .int .i64 8, .int .u64 (body.length : Int), .int .i64 2]) (.int .i64 0)).run Tryz.prog w = .ok (.agg #[.int .u64 (n0.toNat : Int), .int .i64 1]) w := fun _ => by kernel_rfl
  have i1 : ∀ w, (Instr.index 201 (.agg #[.int .u64 (n0.toNat : Int), .int .i64 1, .int .u64 (n1.toNat : Int), .int .i64 2, .int .u64 (n2.toNat : Int), .int .i64 8, .int .u64 (n3.toNat : Int), .int .i64 4, .int .u64 (n4.toNat : Int), .int .i64 8, .int .u64 (body.length : Int), .int .i64 2]) (.int .i64 1)).run Tryz.prog w = .ok (.agg #[.int .u64 (n1.toNat : Int), .int .i64 2]) w := fun _ => by kernel_rfl
  have i2 : ∀ w, (Instr.index 201 (.agg #[.int .u64 (n0.toNat : Int), .int .i64 1, .int .u64 (n1.toNat : Int), .int .i64 2, .int .u64 (n2.toNat : Int), .int .i64 8, .int .u64 (n3.toNat : Int), .int .i64 4, .int .u64 (n4.toNat : Int), .int .i64 8, .int .u64 (body.length : Int), .int .i64 2]) (.int .i64 2)).run Tryz.prog w = .ok (.agg #[.int .u64 (n2.toNat : Int), .int .i64 8]) w := fun _ => by kernel_rfl
  have i3 : ∀ w, (Instr.index 201 (.agg #[.int .u64 (n0.toNat : Int), .int .i64 1, .int .u64 (n1.toNat : Int), .int .i64 2, .int .u64 (n2.toNat : Int), .int .i64 8, .int .u64 (n3.toNat : Int), .int .i64 4, .int .u64 (n4.toNat : Int), .int .i64 8, .int .u64 (body.length : Int), .int .i64 2]) (.int .i64 3)).run Tryz.prog w = .ok (.agg #[.int .u64 (n3.toNat : Int), .int .i64 4]) w := fun _ => by kernel_rfl
  have i4 : ∀ w, (Instr.index 201 (.agg #[.int .u64 (n0.toNat : Int), .int .i64 1, .int .u64 (n1.toNat : Int), .int .i64 2, .int .u64 (n2.toNat : Int), .int .i64 8, .int .u64 (n3.toNat : Int), .int .i64 4, .int .u64 (n4.toNat : Int), .int .i64 8, .int .u64 (body.length : Int), .int .i64 2]) (.int .i64 4)).run Tryz.prog w = .ok (.agg #[.int .u64 (n4.toNat : Int), .int .i64 8]) w := fun _ => by kernel_rfl
  have i5 : ∀ w, (Instr.index 201 (.agg #[.int .u64 (n0.toNat : Int), .int .i64 1, .int .u64 (n1.toNat : Int), .int .i64 2, .int .u64 (n2.toNat : Int), .int .i64 8, .int .u64 (n3.toNat : Int), .int .i64 4, .int .u64 (n4.toNat : Int), .int .i64 8, .int .u64 (body.length : Int), .int .i64 2]) (.int .i64 5)).run Tryz.prog w = .ok (.agg #[.int .u64 (body.length : Int), .int .i64 2]) w := fun _ => by kernel_rfl
  go_enter Tryz.func122, Tryz.ntmps122
  go_wp2
  go_loopw [4, 6, 30] (fun v _ i wr => ∃ k : Nat, k ≤ 6 ∧ i = .int .i64 k ∧ wr.heap[w.heap.size]? = some (.cells #[Value.int IntKind.i64 (n0.toNat : Int), .int .u64 (n2.toNat : Int), .int .i64 (n3.toNat : Int), .int .u64 (n4.toNat : Int), .slice A body.length c] 157 (0, 0)) ∧ wr.ownsRow (w.heap.size + 1) 5 1 v (pre n0 n1 n2 n3 n4 n5 k).length ((pre n0 n1 n2 n3 n4 n5 k).map e8) ∧ Below w.heap.size w wr) (fun _ _ i _ => 6 - (intOf i).toNat)
  case atStart => exact ⟨0, by omega, rfl, heap_alloc_new w _, own_nil _ _ _ _, below_lit _ _⟩
  case round =>
    obtain ⟨k, hk, rfl, hB, own, bel⟩ := hrel
    have hlt := lt_of_block hB
    have hbs : w.heap.size + 1 ≤ wr.heap.size := hlt
    by_cases hk6 : k < 6
    · have hlk := hl k
      rcases (show k = 0 ∨ k = 1 ∨ k = 2 ∨ k = 3 ∨ k = 4 ∨ k = 5 by omega) with rfl | rfl | rfl | rfl | rfl | rfl
      · have hnx := Lib.hid (show pre n0 n1 n2 n3 n4 n5 1 = pre n0 n1 n2 n3 n4 n5 0 ++ putL n0.toNat 1 from rfl)
        obtain ⟨q, hq⟩ : ∃ q, q = pre n0 n1 n2 n3 n4 n5 0 := ⟨_, rfl⟩
        rw [← hq] at own hlk hnx
        clear hq
        go_wp2_with (first
          | (go_at_call 108; refine (Num.put_any n0 _ (by rfl) 1 _ (by rfl) (by omega) (by omega) _).mono ?_; rintro e wp ⟨Ap, cp, rfl, ownp, bp⟩; have own2 := own_on (own.alloc _) bp; have rdp := Rd.own ownp; have bpl := Num.putL_len n0.toNat 1; rw [bpl])
          | ((with_reducible show wpList _ _ _ (⟨some 39, _, _, _, _, _⟩ :: _) _ _); refine wpList_append_rd _ rfl (.tmp 33) (.tmp 38) _ rfl (w.heap.size + 1) 5 i0' _ 1 1 Tryz.underlying51 hi0 hz0 hz1 hz2 rfl (by omega) u4 q.length (q.map e8) rfl own2 _ Ap 1 cp ((putL n0.toNat 1).map e8) rfl (by simp [Num.putL_len]) rdp (e8_one _) (by simp only [maxLen]; omega) (by omega) (by have := bp.size; simp at this; omega) ?_; intro v1 w1 own1 hg1 hat1))
        go_roundw
        case rel => exact ⟨1, by omega, rfl, blk_grown ((bp.block _ (by simp; omega)).trans ((Below.heap_alloc wr _ _ hlt).trans hB)) (Nat.lt_of_lt_of_le (by simp; omega) bp.size) hg1 (fun z hz => by have := own_block own2 hz; omega), own_add own1 rfl (Num.putL_len _ _).symm hnx.out, (bt (bt bel (b1alloc _ _)) bp).grown hg1 (bt (bt bel (b1alloc _ _)) bp).size (fun z hz => by have := own_block own2 hz; omega)⟩
        case measure => simp [intOf]
      · have hnx := Lib.hid (show pre n0 n1 n2 n3 n4 n5 2 = pre n0 n1 n2 n3 n4 n5 1 ++ putL n1.toNat 2 from rfl)
        obtain ⟨q, hq⟩ : ∃ q, q = pre n0 n1 n2 n3 n4 n5 1 := ⟨_, rfl⟩
        rw [← hq] at own hlk hnx
        clear hq
        go_wp2_with (first
          | (go_at_call 108; refine (Num.put_any n1 _ (by rfl) 2 _ (by rfl) (by omega) (by omega) _).mono ?_; rintro e wp ⟨Ap, cp, rfl, ownp, bp⟩; have own2 := own_on (own.alloc _) bp; have rdp := Rd.own ownp; have bpl := Num.putL_len n1.toNat 2; rw [bpl])
          | ((with_reducible show wpList _ _ _ (⟨some 39, _, _, _, _, _⟩ :: _) _ _); refine wpList_append_rd _ rfl (.tmp 33) (.tmp 38) _ rfl (w.heap.size + 1) 5 i0' _ 1 1 Tryz.underlying51 hi0 hz0 hz1 hz2 rfl (by omega) u4 q.length (q.map e8) rfl own2 _ Ap 2 cp ((putL n1.toNat 2).map e8) rfl (by simp [Num.putL_len]) rdp (e8_one _) (by simp only [maxLen]; omega) (by omega) (by have := bp.size; simp at this; omega) ?_; intro v1 w1 own1 hg1 hat1))
        go_roundw
        case rel => exact ⟨2, by omega, rfl, blk_grown ((bp.block _ (by simp; omega)).trans ((Below.heap_alloc wr _ _ hlt).trans hB)) (Nat.lt_of_lt_of_le (by simp; omega) bp.size) hg1 (fun z hz => by have := own_block own2 hz; omega), own_add own1 rfl (Num.putL_len _ _).symm hnx.out, (bt (bt bel (b1alloc _ _)) bp).grown hg1 (bt (bt bel (b1alloc _ _)) bp).size (fun z hz => by have := own_block own2 hz; omega)⟩
        case measure => simp [intOf]
      · have hnx := Lib.hid (show pre n0 n1 n2 n3 n4 n5 3 = pre n0 n1 n2 n3 n4 n5 2 ++ putL n2.toNat 8 from rfl)
        obtain ⟨q, hq⟩ : ∃ q, q = pre n0 n1 n2 n3 n4 n5 2 := ⟨_, rfl⟩
        rw [← hq] at own hlk hnx
        clear hq
        go_wp2_with (first
          | (go_at_call 108; refine (Num.put_any n2 _ (by rfl) 8 _ (by rfl) (by omega) (by omega) _).mono ?_; rintro e wp ⟨Ap, cp, rfl, ownp, bp⟩; have own2 := own_on (own.alloc _) bp; have rdp := Rd.own ownp; have bpl := Num.putL_len n2.toNat 8; rw [bpl])
          | ((with_reducible show wpList _ _ _ (⟨some 39, _, _, _, _, _⟩ :: _) _ _); refine wpList_append_rd _ rfl (.tmp 33) (.tmp 38) _ rfl (w.heap.size + 1) 5 i0' _ 1 1 Tryz.underlying51 hi0 hz0 hz1 hz2 rfl (by omega) u4 q.length (q.map e8) rfl own2 _ Ap 8 cp ((putL n2.toNat 8).map e8) rfl (by simp [Num.putL_len]) rdp (e8_one _) (by simp only [maxLen]; omega) (by omega) (by have := bp.size; simp at this; omega) ?_; intro v1 w1 own1 hg1 hat1))
        go_roundw
        case rel => exact ⟨3, by omega, rfl, blk_grown ((bp.block _ (by simp; omega)).trans ((Below.heap_alloc wr _ _ hlt).trans hB)) (Nat.lt_of_lt_of_le (by simp; omega) bp.size) hg1 (fun z hz => by have := own_block own2 hz; omega), own_add own1 rfl (Num.putL_len _ _).symm hnx.out, (bt (bt bel (b1alloc _ _)) bp).grown hg1 (bt (bt bel (b1alloc _ _)) bp).size (fun z hz => by have := own_block own2 hz; omega)⟩
        case measure => simp [intOf]
      · have hnx := Lib.hid (show pre n0 n1 n2 n3 n4 n5 4 = pre n0 n1 n2 n3 n4 n5 3 ++ putL n3.toNat 4 from rfl)
        obtain ⟨q, hq⟩ : ∃ q, q = pre n0 n1 n2 n3 n4 n5 3 := ⟨_, rfl⟩
        rw [← hq] at own hlk hnx
        clear hq
        go_wp2_with (first
          | (go_at_call 108; refine (Num.put_any n3 _ (by rfl) 4 _ (by rfl) (by omega) (by omega) _).mono ?_; rintro e wp ⟨Ap, cp, rfl, ownp, bp⟩; have own2 := own_on (own.alloc _) bp; have rdp := Rd.own ownp; have bpl := Num.putL_len n3.toNat 4; rw [bpl])
          | ((with_reducible show wpList _ _ _ (⟨some 39, _, _, _, _, _⟩ :: _) _ _); refine wpList_append_rd _ rfl (.tmp 33) (.tmp 38) _ rfl (w.heap.size + 1) 5 i0' _ 1 1 Tryz.underlying51 hi0 hz0 hz1 hz2 rfl (by omega) u4 q.length (q.map e8) rfl own2 _ Ap 4 cp ((putL n3.toNat 4).map e8) rfl (by simp [Num.putL_len]) rdp (e8_one _) (by simp only [maxLen]; omega) (by omega) (by have := bp.size; simp at this; omega) ?_; intro v1 w1 own1 hg1 hat1))
        go_roundw
        case rel => exact ⟨4, by omega, rfl, blk_grown ((bp.block _ (by simp; omega)).trans ((Below.heap_alloc wr _ _ hlt).trans hB)) (Nat.lt_of_lt_of_le (by simp; omega) bp.size) hg1 (fun z hz => by have := own_block own2 hz; omega), own_add own1 rfl (Num.putL_len _ _).symm hnx.out, (bt (bt bel (b1alloc _ _)) bp).grown hg1 (bt (bt bel (b1alloc _ _)) bp).size (fun z hz => by have := own_block own2 hz; omega)⟩
        case measure => simp [intOf]
      · have hnx := Lib.hid (show pre n0 n1 n2 n3 n4 n5 5 = pre n0 n1 n2 n3 n4 n5 4 ++ putL n4.toNat 8 from rfl)
        obtain ⟨q, hq⟩ : ∃ q, q = pre n0 n1 n2 n3 n4 n5 4 := ⟨_, rfl⟩
        rw [← hq] at own hlk hnx
        clear hq
        go_wp2_with (first
          | (go_at_call 108; refine (Num.put_any n4 _ (by rfl) 8 _ (by rfl) (by omega) (by omega) _).mono ?_; rintro e wp ⟨Ap, cp, rfl, ownp, bp⟩; have own2 := own_on (own.alloc _) bp; have rdp := Rd.own ownp; have bpl := Num.putL_len n4.toNat 8; rw [bpl])
          | ((with_reducible show wpList _ _ _ (⟨some 39, _, _, _, _, _⟩ :: _) _ _); refine wpList_append_rd _ rfl (.tmp 33) (.tmp 38) _ rfl (w.heap.size + 1) 5 i0' _ 1 1 Tryz.underlying51 hi0 hz0 hz1 hz2 rfl (by omega) u4 q.length (q.map e8) rfl own2 _ Ap 8 cp ((putL n4.toNat 8).map e8) rfl (by simp [Num.putL_len]) rdp (e8_one _) (by simp only [maxLen]; omega) (by omega) (by have := bp.size; simp at this; omega) ?_; intro v1 w1 own1 hg1 hat1))
        go_roundw
        case rel => exact ⟨5, by omega, rfl, blk_grown ((bp.block _ (by simp; omega)).trans ((Below.heap_alloc wr _ _ hlt).trans hB)) (Nat.lt_of_lt_of_le (by simp; omega) bp.size) hg1 (fun z hz => by have := own_block own2 hz; omega), own_add own1 rfl (Num.putL_len _ _).symm hnx.out, (bt (bt bel (b1alloc _ _)) bp).grown hg1 (bt (bt bel (b1alloc _ _)) bp).size (fun z hz => by have := own_block own2 hz; omega)⟩
        case measure => simp [intOf]
      · have hnx := Lib.hid (show pre n0 n1 n2 n3 n4 n5 6 = pre n0 n1 n2 n3 n4 n5 5 ++ putL n5.toNat 2 from rfl)
        obtain ⟨q, hq⟩ : ∃ q, q = pre n0 n1 n2 n3 n4 n5 5 := ⟨_, rfl⟩
        rw [← hq] at own hlk hnx
        clear hq
        go_wp2_with (first
          | (go_at_call 108; refine (Num.put_any n5 _ E5.out 2 _ (by rfl) (by omega) (by omega) _).mono ?_; rintro e wp ⟨Ap, cp, rfl, ownp, bp⟩; have own2 := own_on (own.alloc _) bp; have rdp := Rd.own ownp; have bpl := Num.putL_len n5.toNat 2; rw [bpl])
          | ((with_reducible show wpList _ _ _ (⟨some 39, _, _, _, _, _⟩ :: _) _ _); refine wpList_append_rd _ rfl (.tmp 33) (.tmp 38) _ rfl (w.heap.size + 1) 5 i0' _ 1 1 Tryz.underlying51 hi0 hz0 hz1 hz2 rfl (by omega) u4 q.length (q.map e8) rfl own2 _ Ap 2 cp ((putL n5.toNat 2).map e8) rfl (by simp [Num.putL_len]) rdp (e8_one _) (by simp only [maxLen]; omega) (by omega) (by have := bp.size; simp at this; omega) ?_; intro v1 w1 own1 hg1 hat1))
        go_roundw
        case rel => exact ⟨6, by omega, rfl, blk_grown ((bp.block _ (by simp; omega)).trans ((Below.heap_alloc wr _ _ hlt).trans hB)) (Nat.lt_of_lt_of_le (by simp; omega) bp.size) hg1 (fun z hz => by have := own_block own2 hz; omega), own_add own1 rfl (Num.putL_len _ _).symm hnx.out, (bt (bt bel (b1alloc _ _)) bp).grown hg1 (bt (bt bel (b1alloc _ _)) bp).size (fun z hz => by have := own_block own2 hz; omega)⟩
        case measure => simp [intOf]
    · obtain rfl : k = 6 := by omega
      obtain ⟨c0, c1, c2, c3, c4, fr⟩ := five hB
      have hnx := Lib.hid (show pre n0 n1 n2 n3 n4 n5 6 = ((((putL n0.toNat 1 ++ putL n1.toNat 2) ++ putL n2.toNat 8) ++ putL n3.toNat 4) ++ putL n4.toNat 8) ++ putL n5.toNat 2 from rfl)
      have hlk := hl 6
      obtain ⟨q, hq⟩ : ∃ q, q = pre n0 n1 n2 n3 n4 n5 6 := ⟨_, rfl⟩
      rw [← hq] at own hlk
      have Hq := Lib.hid (hq.trans hnx.out)
      clear hq hnx
      have hp := fun A1 n d1 W hn h => Mac.npad_any A1 (q ++ body) n d1 504 504 (by rfl) W hn (by omega) (by omega) h
      obtain ⟨R, hR⟩ : ∃ R, R = padTo (q ++ body) 504 := ⟨_, rfl⟩
      rw [← hR] at hp
      have Hp := Lib.hid hp
      have HR := Lib.hid hR
      clear hR hp
      go_wp2_with (first
        | ((with_reducible show wpList _ _ _ (⟨some 44, _, _, _, _, _⟩ :: _) _ _); refine wpList_append_rd _ rfl (.tmp 41) (.tmp 43) _ rfl (w.heap.size + 1) 5 i0' _ 1 1 Tryz.underlying51 hi0 hz0 hz1 hz2 rfl (by omega) u4 q.length (q.map e8) rfl own _ A body.length c (body.map e8) rfl (by simp) (hr.below bel) (e8_one _) (by simp only [maxLen]; omega) (by omega) hbs ?_; intro v1 w1 own1 hg1 hat1; have own2 := own_add own1 rfl rfl rfl; have b1 := bel.grown hg1 bel.size (fun z hz => by have := own_block own hz; omega); obtain ⟨A1, d1, rfl⟩ := own_form own2)
        | (go_at_call 123; refine (Hp.out _ _ _ _ (by simp) (Rd.own own2)).mono ?_; rintro e wp ⟨Ap, cp, rfl, ownp, bp⟩))
      go_ret
      exact retB_eq (RetB.after b1 ownp bp) (by rw [HR.out, Hq.out])
/-- a struct lies in the first new block; behind it bytes are gathered -/
def Inv (w W : World) (xs : Array Value) (T : TypeId) (v : Value) (q : List UInt8) : Prop := W.heap[w.heap.size]? = some (.cells xs T (0, 0)) ∧ W.ownsRow (w.heap.size + 1) 5 1 v q.length (q.map e8) ∧ Below w.heap.size w W ∧ w.heap.size + 1 ≤ W.heap.size
theorem Inv.put {w W W' : World} {xs : Array Value} {T : TypeId} {v : Value} {q : List UInt8} (h : Inv w W xs T v q) (b : Below W.heap.size W W') : Inv w W' xs T v q :=
  ⟨(b.block _ (lt_of_block h.1)).trans h.1, own_on h.2.1 b, bt h.2.2.1 b, Nat.le_trans h.2.2.2 b.size⟩
theorem Inv.app {w W W' : World} {xs : Array Value} {T : TypeId} {v v' : Value} {q b : List UInt8} {m : Nat} (h : Inv w W xs T v q) (o : W'.ownsRow (w.heap.size + 1) 5 1 v' (q.length + m) (q.map e8 ++ b.map e8)) (g : W.grownBy W' v.ownBlock) (hm : m = b.length) : Inv w W' xs T v' (q ++ b) :=
  ⟨blk_grown h.1 (lt_of_block h.1) g (fun z hz => by have := own_block h.2.1 hz; omega), own_add o rfl hm rfl, h.2.2.1.grown g h.2.2.1.size (fun z hz => by have := own_block h.2.1 hz; omega), Nat.le_trans h.2.2.2 g.size⟩
theorem Inv.first {w W W' : World} {xs : Array Value} {T : TypeId} {v : Value} {q : List UInt8} (hB : W.heap[w.heap.size]? = some (.cells xs T (0, 0))) (o : W'.ownsRow W.heap.size 5 1 v q.length (q.map e8)) (b0 : Below w.heap.size w W) (hs : w.heap.size + 1 ≤ W.heap.size) (b : Below W.heap.size W W') : Inv w W' xs T v q :=
  ⟨(b.block _ (lt_of_block hB)).trans hB, own_base o hs, bt b0 b, Nat.le_trans hs b.size⟩
end Go.Proofs.YtchcmklelmlbgaaGreat.Sec

/- The walks of sector.read, with its taker, of the reference's number and Blank. -/
namespace Go.Proofs.YtchcmklelmlbgaaGreat.Sec
open Go.RowKit
open Go.Proofs.YtchcmklelmlbgaaGreat.Num (putL getN)
set_option linter.unusedVariables false
set_option maxRecDepth 100000
/-- a slice of bytes is taken off: its first ones as a number, the rest stays -/
theorem take_any (g : Nat) (b : Nat) (off : Nat) (l : List UInt8) (n c : Nat) (s : Nat) (z : Int) (hz : z = (s : Int)) (w : World) (hb : Box w g (.slice (some ⟨b, off, none⟩) n c)) (hn : n = l.length) (hr : Rd w w.heap.size (some ⟨b, off, none⟩) (l.map e8)) (hs : 1 ≤ s) (h8 : s ≤ 8) (hsl : s < l.length) (hc : n ≤ c) (hcm : c ≤ maxLen) :
    Calls Tryz.prog 137 #[.pointer (some ⟨g, 0, none⟩), .int .i64 z] w fun e w' => e = .returned (.int .u64 (getN (l.take s) : Int)) ∧ Box w' g (.slice (some ⟨b, off + s, none⟩) (n - s) (c - s)) ∧ w.grownBy w' (some g) := by
  subst hn hz
  have hc0 := hb.cell
  have hf0 := hb.free
  unfold maxLen at hcm
  have hr1 : Rd w w.heap.size (some ⟨b, off, none⟩) ((l.take s).map e8) := by rw [List.map_take]; exact hr.take s
  have hl1 : (l.take s).length = s := by rw [List.length_take]; omega
  have hg := Lib.hid (fun d => Num.get_any (some ⟨b, off, none⟩) (l.take s) s d w.heap.size w hl1.symm hr1 (by omega) (by omega))
  have hne : ¬ c = s := by omega
  clear hr hr1
  go_enter Tryz.func137, Tryz.ntmps137
  go_wp2_with (go_at_call 118; refine (hg.out _).mono ?_; rintro e w1 ⟨rfl, rfl⟩)
  go_ret
  exact ⟨rfl, hb.set _, grown_set _ _ _⟩
end Go.Proofs.YtchcmklelmlbgaaGreat.Sec
