/- The walk of disk.Restart. -/
import Derived.Test.YtkapamolligmkaaDisk6
namespace Go.Proofs.Ytkapamolligmkaa.Disk
open Go.RowKit
set_option linter.unusedVariables false
set_option maxRecDepth 100000

section
variable {P : Program} {ops : Array Oper} {ws : List World} {chain : List Nat} {lo : List (Nat × Nat × Nat)}
/-- a new variable -/
theorem wpPs_alloc {Q : Act → Prop} {a : Act} {o : Oper} {rest : List Oper} {k i : Nat} (hg : o.guard = none) (hc : chain.contains k = true) (hi : ix chain k = i) (t : TypeId) (ho : o.op = .alloc t) (w : World) (xs : List Value) (hz : ∀ w, (zeroValue t).run P w = .ok (arrV xs) w)
    (hw : ws[i]? = some w) (hw' : ws[i + 1]? = some (w.alloc (.cells xs.toArray t))) (hK : wpPs P ops ws chain lo Q (k + 1) rest (a.put o.dst (.pointer (some ⟨w.heap.size, 0, none⟩)))) : wpPs P ops ws chain lo Q k (o :: rest) a :=
  wpPs_turn hg hc hi _ w _ hw hw' (.inl (by
    unfold execOp
    simp only [ho]
    simp [Instr.alloc, hz, go_sem, arrV])) hK
/-- a whole variable is stored -/
theorem wpPs_storeA {Q : Act → Prop} {a : Act} {o : Oper} {rest : List Oper} {k i : Nat} (hg : o.guard = none) (hc : chain.contains k = true) (hi : ix chain k = i) (t : TypeId) (x y : Operand) (ho : o.op = .store t x y) (w : World) {g : Nat} (hx : a.eval x = .pointer (some ⟨g, 0, none⟩)) {xs ys : List Value} (hy : a.eval y = arrV ys)
    (hb : Blk w g xs) (hl : xs.length = ys.length) (h1 : ∀ v ∈ ys, v.oneCell' = true) (hsz : (P.info? t).map (·.size) = some ys.length)
    (hw : ws[i]? = some w) (hw' : ws[i + 1]? = some (w.setRow g ys.toArray)) (hd : o.dst = none) (hK : wpPs P ops ws chain lo Q (k + 1) rest a) : wpPs P ops ws chain lo Q k (o :: rest) a := by
  have h : ((execOp a.eval o).run P w = .ok (.value undef) (w.setRow g ys.toArray) ∨ (undef = undef ∧ (execOp a.eval o).run P w = .ok .skip (w.setRow g ys.toArray))) := by
    obtain ⟨t', hb⟩ := hb
    have := run_storeVar_row (P := P) w g t' t _ ys.toArray hb (by simpa using hsz) (by simpa using hl) (by simpa using h1)
    unfold execOp
    simp only [ho, hx, hy]
    first
      | (left; simp [Instr.storeAt, Instr.sureAddr, this, arrV]; done)
      | (right; refine ⟨by trivial, ?_⟩; simp [Instr.storeAt, Instr.sureAddr, this, arrV]; done)
  exact wpPs_turn hg hc hi undef w _ hw hw' h (by rw [hd]; exact hK)
/-- copy, by its run -/
theorem wpPs_copy {Q : Act → Prop} {a : Act} {o : Oper} {rest : List Oper} {k i : Nat} (hg : o.guard = none) (hc : chain.contains k = true) (hi : ix chain k = i) (s x : Operand) (t t' : TypeId) (ho : o.op = .call { callee := .builtin .copy, args := #[s, x], argTypes := #[t, t'] }) (w w' : World) (v0 v1 v : Value)
    (hs : a.eval s = v0) (hx : a.eval x = v1) (hw : ws[i]? = some w) (hw' : ws[i + 1]? = some w') (h : (Builtin.copy_ #[t, t'] o.type #[v0, v1]).run P w = .ok v w')
    (hK : wpPs P ops ws chain lo Q (k + 1) rest (a.put o.dst v)) : wpPs P ops ws chain lo Q k (o :: rest) a :=
  wpPs_turn hg hc hi v w w' hw hw' (.inl (by
    unfold execOp
    simp only [ho, resolve, invoke, builtin, Sem.run_bind, Sem.run_pure, Result.andThen_ok, List.map_toArray, List.map_cons, List.map_nil, hs, hx, h])) hK
end
theorem i64_and1 (n : Int) : bits .and .i64 n 1 = n % 2 := by
  have h1 : (BitVec.ofInt 64 1).toNat = 2 ^ 1 - 1 := by decide
  have key : (BitVec.ofInt 64 n &&& BitVec.ofInt 64 1).toNat = (n % ((2 ^ 64 : Nat) : Int)).toNat % 2 ^ 1 := by
    rw [BitVec.toNat_and, BitVec.toNat_ofInt, h1, Nat.and_two_pow_sub_one_eq_mod]
  show IntKind.i64.wrap ((BitVec.ofInt 64 n &&& BitVec.ofInt 64 1).toNat : Nat) = n % 2
  rw [key, IntKind.wrap_i64]
  omega
abbrev eI (n : Int) : Value := .int .i64 n
set_option maxHeartbeats 400000 in
theorem whole_any (B : Nat) (keep : List Int) (A : Option Addr) (c i : Nat) (w : World) (hB : w.cell? ⟨B, 0, none⟩ = some (.slice A keep.length c)) (hr : Rd w w.heap.size A (keep.map eI)) (hk : keep.length ≤ 1000000) (hi : i ≤ 1000000000) :
    Calls Try.prog 42 #[.int .i64 (i : Int), .pointer (some ⟨B, 0, none⟩)] w fun e w' => e = .returned (.bool (whole keep i)) ∧ Below w.heap.size w w' := by
  by_cases h0 : 0 < keep.length
  · have hm : i % keep.length < keep.length := Nat.mod_lt _ h0
    obtain ⟨b, off, rfl, hb, hc⟩ := hr.get (k := i % keep.length) (by simpa using hm)
    rw [List.getElem_map] at hc
    have hw : whole keep i = (keep[i % keep.length] % 2 == 1) := by
      unfold whole
      rw [decide_eq_true h0, Bool.true_and, List.getD_eq_getElem?_getD, List.getElem?_eq_getElem hm, Option.getD_some]
      rw [Bool.eq_iff_iff, decide_eq_true_eq, beq_iff_eq]
    rw [hw]
    obtain ⟨x, hx⟩ : ∃ x, x = keep[i % keep.length] := ⟨_, rfl⟩
    rw [← hx] at hc ⊢
    have h0I : (0 : Int) < (keep.length : Int) := by omega
    have hmI : (i : Int) % (keep.length : Int) = ((i % keep.length : Nat) : Int) := by omega
    obtain ⟨j, hj⟩ : ∃ j, j = i % keep.length := ⟨_, rfl⟩
    rw [← hj] at hc hmI hm
    have hjI : (j : Int) < (keep.length : Int) := by omega
    have hand := i64_and1 x
    clear hx hw hj
    go_enter Try.func42, Try.ntmps42
    go_wp2
    go_quiet (fail)
    go_wp2
    go_ret
    exact ⟨rfl, bdrew (Below.refl _ _) _⟩
  · have hw : whole keep i = false := by unfold whole; rw [decide_eq_false h0, Bool.false_and]
    rw [hw]
    obtain rfl : keep = [] := List.eq_nil_of_length_eq_zero (by omega)
    simp only [List.length_nil] at hB
    clear hw h0
    go_enter Try.func42, Try.ntmps42
    go_wp2
    go_quiet (fail)
    go_wp2
    go_ret
    exact ⟨rfl, by first | exact bdrew (Below.refl _ _) _ | exact (Below.refl _ _).drew⟩
end Go.Proofs.Ytkapamolligmkaa.Disk
