/- ShaNumbers: for every input the law returns true: the numbers of all rounds, and those that it begins with, are of the roots of prime numbers. No condition. -/
import Derived.Test.YtggldbadefbdaaaDoorRoot5
import Derived.Test.YtggldbadefbdaaaDoorShaA
import Derived.Test.YtggldbadefbdaaaDoorOpen
import Derived.Test.YtggldbadefbdaaaDoorTab
import Derived.Test.YtggldbadefbdaaaDoorArrEq
namespace Go.Proofs.YtggldbadefbdaaaDoor.ShaNumbers
open Go.ChangeShapes Go.WideShapes Go.ChangeAt Go.RowKit Go.Joins
open Go.ChangeMaps (open_string shut_string)
set_option linter.unusedVariables false
theorem vw_ints (l : List UInt32) : arrV (Sha.vw l) = .agg ((l.map Sha.c32).map (Value.int .u32)).toArray := by simp [Sha.vw, Function.comp_def, arrV]
theorem size1 (w : World) : (sizeOf 22).run Tryd.prog w = .ok 1 w := by simp [sizeOf, go_sem]; rfl
theorem eq64 (l : List UInt32) (h : l.length = 64) (w : World) : (binOp .eql 28 (arrV (Sha.vw l)) (arrV (Sha.vw l))).run Tryd.prog w = .ok (.bool true) w := by
  rw [vw_ints]; exact run_eql_self w _ _ 64 .u32 Tryd.underlying28 Tryd.underlying22 size1 _ (by simpa using h)
theorem eq8 (s : Sha.H8) (w : World) : (binOp .eql 23 (Sha.h8V s) (Sha.h8V s)).run Tryd.prog w = .ok (.bool true) w := by
  rw [show Sha.h8V s = _ from vw_ints s.list]; exact run_eql_self w _ _ 8 .u32 Tryd.underlying23 Tryd.underlying22 size1 _ (by simp [Sha.H8.list_len])

set_option maxRecDepth 100000 in
set_option maxHeartbeats 400000 in
theorem walk (t : Int) (w : World) (h0 : -9223372036854775808 ≤ t) (h1 : t ≤ 9223372036854775807) (hk : Sha.Tab w) :
    Calls Tryd.prog 6 #[.int .i64 t] w fun e w' => e = .returned (.bool true) ∧ Below w.heap.size w w' := by
  have p1 := Lib.hid (Sha.k_any t w h0 h1 hk)
  have p2 := Lib.hid (Sha.rk_any t w h0 h1)
  have p3 := Lib.hid Sha.first_any
  have p4 := Lib.hid Sha.rfirst_any
  have p5 := Lib.hid Sha.table_any
  have p6 := Lib.hid Sha.ks_any
  have e1 := eq8 Sha.first
  have f1 : ∀ x y w, (eqGuard .eql 23 x y (Sha.h8V Sha.first) (Sha.h8V Sha.first)).run Tryd.prog w = .ok () w := fun x y w => run_eqGuard_agg w _ _ x y _ _ (by kernel_rfl)
  have e2 := eq64 Sha.kTab Sha.kTab_len
  have f2 : ∀ x y w, (eqGuard .eql 28 x y (arrV (Sha.vw Sha.kTab)) (arrV (Sha.vw Sha.kTab))).run Tryd.prog w = .ok () w := fun x y w => run_eqGuard_agg w _ _ x y _ _ (by kernel_rfl)
  obtain ⟨U, hU⟩ : ∃ U, U = Sha.h8V Sha.first := ⟨_, rfl⟩
  obtain ⟨V, hV⟩ : ∃ U, U = arrV (Sha.vw Sha.kTab) := ⟨_, rfl⟩
  obtain ⟨K, hK⟩ : ∃ U, U = Sha.kInt t := ⟨_, rfl⟩
  rw [← hU] at p3 p4 e1 f1
  rw [← hV] at p5 p6 e2 f2
  rw [← hK] at p1 p2
  have Hk := Lib.hid hk
  clear hU hV hK hk
  go_enter Tryd.func6, Tryd.ntmps6
  go_wp2_with fail
  refine p1.out.mono ?_
  rintro e w1 ⟨rfl, rfl⟩
  go_wp2_with fail
  refine p2.out.mono ?_
  rintro e w2 ⟨rfl, b2⟩
  go_wp2_with fail
  refine (p3.out _).mono ?_
  rintro e w3 ⟨rfl, b3⟩
  have bt3 := bt b2 b3
  go_wp2_with fail
  refine (p4.out _).mono ?_
  rintro e w4 ⟨rfl, b4⟩
  have bt4 := bt bt3 b4
  go_wp2_with fail
  refine (p5.out _).mono ?_
  rintro e w5 ⟨rfl, b5⟩
  have bt5 := bt bt4 b5
  go_wp2_with fail
  refine (p6.out _).mono ?_
  rintro e w6 ⟨rfl, b6⟩
  have bt6 := bt bt5 b6
  go_wp2_with (go_at_call 13; refine (Sha.alive_any _ (Hk.out.on bt6)).mono ?_; rintro e w' ⟨rfl, hw⟩)
  go_ret
  exact ⟨rfl, bt bt6 hw⟩

set_option maxRecDepth 100000 in
theorem contract (H : Type) (enc : TypeId × Value → H) (W : World) (base : Nat) (args : Array Value) (ds gs : List (DataW H)) (before : List MemPlace)
    (hval0 : ∀ (j : Nat) t v, Tryd.f6.params[j]? = some t → args[j]? = some v → Value.okWide Tryd.prog W .any base t v)
    (hW : DataW.Whole enc Tryd.prog Tryd.f6.params.toList Rows.shaNumbersSpec.vars false W args.toList ds gs before) (hL : laidMetH Tryd.prog Rows.shaNumbersRow.laid W) :
    Calls Tryd.prog 6 args W fun e W' => ∃ v, e = .returned v ∧ Rows.shaNumbersSpec.post enc Tryd.prog Tryd.f6 false true false false W args v W' := by
  have hk : Sha.Tab W := Laid.tab hL
  have hval : ∀ (j : Nat) t v, Tryd.f6.params[j]? = some t → args[j]? = some v → Value.okWide Tryd.prog W .any base t v := hval0
  have hW' := hW
  obtain ⟨p, q, hA0, hV, rfl, hfz, hnd⟩ := hW
  have hA : DataW.TrodAll enc Tryd.prog W 0 (fun _ => true) true Tryd.f6.params.toList args.toList ds p := hA0
  rw [Tryd.params6] at hA hval
  obtain ⟨v0, vs0, d0, ds0, p0, q0, hargs, rfl, rfl, h0, r0⟩ := trodAll_cons hA
  obtain ⟨rfl, rfl, rfl⟩ := trodAll_nil r0
  obtain rfl : args = #[v0] := by cases args; simp_all
  obtain ⟨rfl, rfl⟩ := trodVars_none hV
  have k0 := h0
  have lt0 := places_lt k0
  obtain ⟨n0, rfl, _, _, w0⟩ := open_int Tryd.underlying3 (hval 0 3 v0 rfl rfl) h0
  clear hA0 hval0
  refine (walk n0 W (wfi w0).1 (wfi w0).2 hk).mono fun e W' ⟨he, bel⟩ => ?_
  subst he
  exact ⟨_, rfl, _, _, _, [], _, [], hW', trodAll_mk1 (shut_bool Tryd.underlying4 _), (trodAll_cons_mk (Below.trod laidOut (by kernel_rfl) (of_decide_eq_true (by kernel_rfl)) k0 bel lt0) trodAll_mk0), rfl, bel.frame _, fun h => by cases h⟩

theorem laid_met (os : Os) : laidMet Tryd.prog Rows.shaNumbersRow.laid ((Laid.laidWorld os).forCall (fun _ _ => 0) ⟨#[], #[.int .i64 0], []⟩).memory :=
  laidMet_of_run' 8 (by kernel_rfl) (by kernel_rfl)
set_option maxRecDepth 100000 in
theorem lifted (os : Os) (started : os.Started) (H : Type) (enc : TypeId × Value → H) (F : Stop.Interp) :
    ReturnsInHanded {} Tryd.checked os 6 .any ((OpenSpec.ofChange Rows.shaNumbersSpec).preRow enc Tryd.prog Tryd.f6 Rows.shaNumbersRow.domain false Rows.shaNumbersRow.laid) (((OpenSpec.ofChange Rows.shaNumbersSpec).at F).post enc Tryd.prog Tryd.f6 false true false false) := by
  obtain ⟨x, hx⟩ := Option.isSome_iff_exists.1 (show (DataW.whole enc Tryd.prog ((Laid.laidWorld os).forCall (fun _ _ => 0) ⟨#[], #[.int .i64 0], []⟩).memory Tryd.f6.params.toList Rows.shaNumbersSpec.vars false (#[.int .i64 0] : Array Value).toList 8).isSome = true by kernel_rfl)
  refine returnsInHanded_of_row (C := Tryd.checked) (s := OpenSpec.ofChange Rows.shaNumbersSpec) own started (by kernel_rfl) Tryd.func6
    (witness_row_at (enc := enc) (C := Tryd.checked) false (Laid.laidWorld os) #[.int .i64 0] rfl (by kernel_rfl) (by kernel_rfl) (by kernel_rfl)
      (OpenSpec.preRow_of_cond 8 hx (by rfl) (fun k hk => by cases hk) (by kernel_rfl) (laid_met os))) ?_
  intro W base args ds gs before hval hW _ _ _ hL _ _
  exact contract H enc W base args ds gs before hval hW hL
theorem said : Rows.ShaNumbersSaid :=
  OpenClaim.holds_of_cond 6 Tryd.f6 rfl rfl rfl rfl rfl rfl rfl ⟨rfl, rfl, rfl, rfl, rfl⟩ rfl rfl rfl rfl rfl (by kernel_rfl) Tryd.func6 (by kernel_rfl)
    (of_decide_eq_true (by kernel_rfl)) (by unfold Func.isWrapper; first | (rw [if_pos (by decide +kernel)]; kernel_rfl) | (rw [if_neg (by decide +kernel)]; exact ⟨rfl, rfl⟩))
    (fun os started H enc _ F => by rw [OpenClaim.pre_eq_preRow]; exact lifted os started H enc F)
theorem plain (f : FuncId) (fn : Func) (hf : Tryd.pinned.checked.prog.funcNamed "oubliette/oubliettelaw07.ShaNumbers" = some f) (hfn : Tryd.pinned.checked.prog.funcs[f]? = some fn) :
    false = Tryd.pinned.checked.prog.looks [] ∧ ∀ (j : Nat) t, fn.params[j]? = some t → Tryd.pinned.checked.prog.wantsStandIn t = false := by
  obtain rfl : f = 6 := Option.some.inj ((show Tryd.prog.funcNamed "oubliette/oubliettelaw07.ShaNumbers" = some 6 by kernel_rfl).symm.trans hf) |>.symm
  obtain rfl : fn = Tryd.f6 := (Option.some.inj (Tryd.func6.symm.trans hfn)).symm
  refine ⟨by kernel_rfl, fun j t ht => ?_⟩
  rw [Tryd.params6] at ht
  have hm : t ∈ ([3] : List TypeId) := by have := Array.mem_of_getElem? ht; simp at this; first | (subst this; simp; done) | (rcases this with h | h <;> (simp [h]; done)) | (rcases this with h | h | h <;> (simp [h]; done)) | (rcases this with h | h | h | h <;> (simp [h]; done)) | (rcases this with h | h | h | h | h <;> (simp [h]; done))
  have hall : (([3] : List TypeId).all fun u => !Tryd.prog.wantsStandIn u) = true := by kernel_rfl
  exact (show Tryd.prog.wantsStandIn t = false by simpa using List.all_eq_true.1 hall t hm)
theorem proved : Rows.ShaNumbersCardSaid :=
  Claim7.holds_tied_plain_at .later [] _ _ _ _ said (fun _ h => by cases h) (by kernel_rfl) (fun _ h => by cases h) shaNumbers_row_tie rfl ⟨rfl, rfl⟩ (by kernel_rfl) rfl plain (by kernel_rfl)
#print axioms proved
end Go.Proofs.YtggldbadefbdaaaDoor.ShaNumbers
