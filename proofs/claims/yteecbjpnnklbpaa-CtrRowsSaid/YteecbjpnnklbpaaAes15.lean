/- '==' of blocks and of keys, and the calls as the laws need them. -/
import Derived.Test.YteecbjpnnklbpaaAes14
import Derived.Test.YteecbjpnnklbpaaArrEq
namespace Go.Proofs.Yteecbjpnnklbpaa.Aes
open Go.RowKit
set_option linter.unusedVariables false
set_option maxRecDepth 100000
section
variable {P : Program} (w : World)
theorem run_equalIn_self2 (d : Nat) (t e u : TypeId) (n m : Nat) (k : IntKind) (ht : P.underlying t = some (.array n e)) (he : P.underlying e = some (.array m u)) (hu : P.underlying u = some (.int k)) (hsz : ∀ w, (sizeOf e).run P w = .ok m w) (hsz1 : ∀ w, (sizeOf u).run P w = .ok 1 w)
    (xs : List Int) (hx : xs.length = n * m) :
    (Op.equalIn (d + 3) t (.agg (xs.map (Value.int k)).toArray) (.agg (xs.map (Value.int k)).toArray)).run P w = .ok true w := by
  rw [Op.equalIn]
  simp only [Sem.run_bind, run_underlying ht, Result.andThen_ok, hsz, Std.Legacy.Range.forIn_eq_forIn_range', Std.Legacy.Range.size, Nat.sub_zero, Nat.add_sub_cancel, Nat.div_one]
  have hl : ∀ i ∈ List.range' 0 n 1, i < n := fun i hi => by simpa using (List.mem_range'_1.1 hi).2
  generalize List.range' 0 n 1 = l at hl ⊢
  induction l with
  | nil => simp
  | cons i l ih =>
    have hi : i < n := hl i (by simp)
    have hb : i * m + m ≤ n * m := by rw [← Nat.succ_mul]; exact Nat.mul_le_mul_right _ hi
    have px : (Go.part e (xs.map (Value.int k)).toArray (i * m)).run P w = .ok (.agg (((xs.drop (i * m)).take m).map (Value.int k)).toArray) w := by
      simp [Go.part, isAgg, run_underlying he, hsz]
    have pe : (Op.equalIn (d + 2) e (.agg (((xs.drop (i * m)).take m).map (Value.int k)).toArray) (.agg (((xs.drop (i * m)).take m).map (Value.int k)).toArray)).run P w = .ok true w :=
      run_equalIn_self w d e u m k he hu hsz1 _ (by rw [List.length_take, List.length_drop]; omega)
    simp only [List.forIn_cons, Sem.run_bind, px, pe, Result.andThen_ok]
    simp only [Bool.not_true, Bool.false_eq_true, if_false, Sem.run_pure, Result.andThen_ok]
    exact ih fun j hj => hl j (by simp [hj])
theorem run_eql_self2 (t e u : TypeId) (n m : Nat) (k : IntKind) (ht : P.underlying t = some (.array n e)) (he : P.underlying e = some (.array m u)) (hu : P.underlying u = some (.int k)) (hsz : ∀ w, (sizeOf e).run P w = .ok m w) (hsz1 : ∀ w, (sizeOf u).run P w = .ok 1 w)
    (xs : List Int) (hx : xs.length = n * m) :
    (binOp .eql t (.agg (xs.map (Value.int k)).toArray) (.agg (xs.map (Value.int k)).toArray)).run P w = .ok (.bool true) w := by
  rw [run_eql_struct, run_equalIn_self2 w 9997 t e u n m k ht he hu hsz hsz1 xs hx]
  rfl
end
section
variable {P : Program}
theorem wpQuiet_loadG {ops : Array Oper} {C : World → Prop} {Q : Act → Prop} {a : Act} {o : Oper} {rest : List Oper} (t : TypeId) (x : Operand) (ho : o.op = .load t x)
    {g : Nat} (hx : a.eval x = .pointer (some ⟨g, 0, none⟩)) {xs : List Value} (hb : ∀ w, C w → Blk w g xs) {n : Nat} {e : TypeId} (hu : P.underlying t = some (.array n e)) (hi : (P.info? t).map (·.size) = some xs.length)
    (hw : Region.wanted o (yielded ops a.tmps) = true) (h : wpQuiet P ops C Q rest (a.put o.dst (arrV xs))) : wpQuiet P ops C Q (o :: rest) a := by
  refine wpQuiet_step fun K hK => ?_
  rw [if_pos hw]
  refine ⟨arrV xs, fun w hw => ?_, hK _ h⟩
  obtain ⟨t', hb⟩ := hb w hw
  have := run_loadVar_row (P := P) w g t' t _ _ _ hb hu rfl (by simpa using hi)
  have hr : (execOp a.eval o).run P w = .ok (.value (arrV xs)) w := by
    unfold execOp
    simp only [ho, hx]
    simp [Instr.loadAt, Instr.sureAddr, this, arrV]
  unfold Oper.quietAt
  rw [hr]
  exact ⟨rfl, rfl⟩
end
theorem vb_ints (l : List UInt8) : arrV (vb l) = .agg ((l.map fun x => (x.toNat : Int)).map (Value.int .u8)).toArray := by simp [vb, arrV, Function.comp_def]
theorem size1 (w : World) : (sizeOf 5).run Try.prog w = .ok 1 w := by simp [sizeOf, go_sem]; rfl
theorem size16r (w : World) : (sizeOf 22).run Try.prog w = .ok 16 w := by simp [sizeOf, go_sem]; rfl
theorem eq16 (l : List UInt8) (h : l.length = 16) (w : World) : (binOp .eql 22 (arrV (vb l)) (arrV (vb l))).run Try.prog w = .ok (.bool true) w := by
  rw [vb_ints]; exact run_eql_self w _ _ 16 .u8 Try.underlying22 Try.underlying5 size1 _ (by simpa using h)
theorem ne16 (l : List UInt8) (h : l.length = 16) (w : World) : (binOp .neq 22 (arrV (vb l)) (arrV (vb l))).run Try.prog w = .ok (.bool false) w := by
  rw [vb_ints, run_neq_struct, run_equalIn_self w 9998 _ _ 16 .u8 Try.underlying22 Try.underlying5 size1 _ (by simpa using h)]; rfl
theorem is16 (l m : List UInt8) (h : l.length = 16) (h' : m.length = 16) (w : World) : (binOp .eql 22 (arrV (vb l)) (arrV (vb m))).run Try.prog w = .ok (.bool (l == m)) w :=
  run_eql_bytes w 22 5 16 Try.underlying22 Try.underlying5 size1 l m h h'
theorem grd16 (op : BinOp) (l m : List UInt8) (x y : Operand) (w : World) : (eqGuard op 22 x y (arrV (vb l)) (arrV (vb m))).run Try.prog w = .ok () w := run_eqGuard_agg w _ _ x y _ _ (by kernel_rfl)
theorem eqK (l : List UInt8) (h : l.length = 240) (w : World) : (binOp .eql 29 (arrV (vb l)) (arrV (vb l))).run Try.prog w = .ok (.bool true) w := by
  rw [vb_ints]; exact run_eql_self2 w _ _ _ 15 16 .u8 Try.underlying29 Try.underlying22 Try.underlying5 size16r size1 _ (by simpa using h)
theorem grdK (op : BinOp) (l m : List UInt8) (x y : Operand) (w : World) : (eqGuard op 29 x y (arrV (vb l)) (arrV (vb m))).run Try.prog w = .ok () w := run_eqGuard_agg w _ _ x y _ _ (by kernel_rfl)
end Go.Proofs.Yteecbjpnnklbpaa.Aes
