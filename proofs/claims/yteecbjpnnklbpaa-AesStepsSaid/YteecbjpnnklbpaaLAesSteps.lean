/- AesSteps: for every input the law returns true: what becomes of any state in each step. No condition. -/
import Derived.Test.YteecbjpnnklbpaaAes15
import Derived.Test.YteecbjpnnklbpaaOpen
import Derived.Test.YteecbjpnnklbpaaRegion
namespace Go.Proofs.Yteecbjpnnklbpaa.AesSteps
open Go.ChangeShapes Go.WideShapes Go.ChangeAt Go.RowKit Go.Joins
open Go.ChangeMaps (open_string shut_string)
open Go.Proofs.Yteecbjpnnklbpaa.Aes
set_option linter.unusedVariables false

set_option maxRecDepth 100000 in
set_option maxHeartbeats 1000000 in
theorem walk (s k : List UInt8) (w : World) (hs : s.length = 16) (hk : k.length = 16) :
    Calls Try.prog 3 #[arrV (vb s), arrV (vb k)] w fun e w' => e = .returned (.bool true) ∧ Below w.heap.size w w' := by
  have hszs := sizeL hs
  have hszk := sizeL hk
  have a1 : ∀ W, Calls Try.prog 9 #[arrV (vb s)] W fun e w' => e = .returned (arrV (vb (sub s))) ∧ Below W.heap.size W w' := sub_any s hs
  have a2 : ∀ W, Calls Try.prog 10 #[arrV (vb s)] W fun e w' => e = .returned (arrV (vb (sub s))) ∧ Below W.heap.size W w' := rsub_any s hs
  have b1 : ∀ W, Calls Try.prog 11 #[arrV (vb s)] W fun e w' => e = .returned (arrV (vb (shift s))) ∧ Below W.heap.size W w' := shift_any s hs
  have b2 : ∀ W, Calls Try.prog 12 #[arrV (vb s)] W fun e w' => e = .returned (arrV (vb (shift s))) ∧ Below W.heap.size W w' := rshift_any s hs
  have c1 : ∀ W, Calls Try.prog 13 #[arrV (vb s)] W fun e w' => e = .returned (arrV (vb (mixS s))) ∧ Below W.heap.size W w' := mix_any s hs
  have c2 : ∀ W, Calls Try.prog 14 #[arrV (vb s)] W fun e w' => e = .returned (arrV (vb (mixS s))) ∧ Below W.heap.size W w' := rmix_any s hs
  have d1 : ∀ W, Calls Try.prog 15 #[arrV (vb s), arrV (vb k)] W fun e w' => e = .returned (arrV (vb (add s k))) ∧ Below W.heap.size W w' := add_any s k hs hk
  have d2 : ∀ W, Calls Try.prog 16 #[arrV (vb s), arrV (vb k)] W fun e w' => e = .returned (arrV (vb (add s k))) ∧ Below W.heap.size W w' := radd_any s k hs hk
  have e1 := eq16 (sub s) (by rw [sub_len, hs])
  have e2 := eq16 (shift s) (shift_len s)
  have e3 := eq16 (mixS s) (mix_len s)
  have e4 := eq16 (add s k) (add_len s k)
  have f1 := grd16 .eql (sub s) (sub s)
  have f2 := grd16 .eql (shift s) (shift s)
  have f3 := grd16 .eql (mixS s) (mixS s)
  have f4 := grd16 .eql (add s k) (add s k)
  obtain ⟨U1, hU1⟩ : ∃ U, U = arrV (vb (sub s)) := ⟨_, rfl⟩
  obtain ⟨U2, hU2⟩ : ∃ U, U = arrV (vb (shift s)) := ⟨_, rfl⟩
  obtain ⟨U3, hU3⟩ : ∃ U, U = arrV (vb (mixS s)) := ⟨_, rfl⟩
  obtain ⟨U4, hU4⟩ : ∃ U, U = arrV (vb (add s k)) := ⟨_, rfl⟩
  rw [← hU1] at a1 a2 e1 f1
  rw [← hU2] at b1 b2 e2 f2
  rw [← hU3] at c1 c2 e3 f3
  rw [← hU4] at d1 d2 e4 f4
  have A1 := Lib.hid a1
  have A2 := Lib.hid a2
  have B1 := Lib.hid b1
  have B2 := Lib.hid b2
  have C1 := Lib.hid c1
  have C2 := Lib.hid c2
  have D1 := Lib.hid d1
  have D2 := Lib.hid d2
  clear hU1 hU2 hU3 hU4 a1 a2 b1 b2 c1 c2 d1 d2 hs hk
  go_enter Try.func3, Try.ntmps3
  go_wp2_with (first
    | ((with_reducible show wpList _ _ _ (⟨some 2, _, _, _, _, _⟩ :: _) _ _); refine wpList_boxN rfl _ _ rfl (vb s) rfl ?_; intro w1 hb1 bw1 hs1)
    | ((with_reducible show wpList _ _ _ (⟨some 3, _, _, _, _, _⟩ :: _) _ _); refine wpList_boxN rfl _ _ rfl (vb k) rfl ?_; intro w2 hb2 bw2 hs2; have hb12 := hb1.on bw2; have bt2 := bt bw1 bw2)
    | fail)
  refine region_inb (by kernel_rfl) (by kernel_rfl) ?_
  have inbNe := InB.some
  have inbW := @wrap_small
  have inbU := IntKind.wrap_u8'
  repeat (first | (with_reducible refine wpQuiet_nil ?_; fail) | (refine wpQuiet_loadG 22 (.tmp 2) rfl rfl (fun w' hw' => hb12.on hw'.below) Try.underlying22 hszs (by rfl) ?_) | (refine wpQuiet_loadG 22 (.tmp 3) rfl rfl (fun w' hw' => hb2.on hw'.below) Try.underlying22 hszk (by rfl) ?_) | (refine wpQuiet_step (fun K hK => ?_); go_simp; first | (refine hK _ ?_; clear hK K) | (apply Exists.intro; refine ⟨?_, hK _ ?_⟩; (· (intro w' hw'; first | (go_at_call 9; with_reducible refine (A1.out _).mono ?_; rintro e w1 ⟨rfl, b1⟩; exact ⟨rfl, hw'.on b1⟩) | (go_at_call 10; with_reducible refine (A2.out _).mono ?_; rintro e w1 ⟨rfl, b1⟩; exact ⟨rfl, hw'.on b1⟩) | (go_at_call 11; with_reducible refine (B1.out _).mono ?_; rintro e w1 ⟨rfl, b1⟩; exact ⟨rfl, hw'.on b1⟩) | (go_at_call 12; with_reducible refine (B2.out _).mono ?_; rintro e w1 ⟨rfl, b1⟩; exact ⟨rfl, hw'.on b1⟩) | (go_at_call 13; with_reducible refine (C1.out _).mono ?_; rintro e w1 ⟨rfl, b1⟩; exact ⟨rfl, hw'.on b1⟩) | (go_at_call 14; with_reducible refine (C2.out _).mono ?_; rintro e w1 ⟨rfl, b1⟩; exact ⟨rfl, hw'.on b1⟩) | (go_at_call 15; with_reducible refine (D1.out _).mono ?_; rintro e w1 ⟨rfl, b1⟩; exact ⟨rfl, hw'.on b1⟩) | (go_at_call 16; with_reducible refine (D2.out _).mono ?_; rintro e w1 ⟨rfl, b1⟩; exact ⟨rfl, hw'.on b1⟩) | (go_at_call 17; refine (alive_any _).mono ?_; rintro e w1 ⟨rfl, b1⟩; exact ⟨rfl, hw'.on b1⟩) | (have hcw := hw'.cell; go_simp; exact rfl))); clear hK K)))
  refine wpQuiet_nil ?_
  intro wq hq
  clear inbNe inbW inbU
  go_wp2
  go_ret
  exact ⟨rfl, bt bt2 hq.below⟩

set_option maxRecDepth 100000 in
theorem lifted (os : Os) (started : os.Started) (H : Type) (enc : TypeId × Value → H) :
    ReturnsInHanded {} Try.checked os 3 .any (Rows.aesStepsSpec.pre6 enc Try.prog Try.f3 Rows.aesStepsRow.domain false) (Rows.aesStepsSpec.post enc Try.prog Try.f3 false true false false) := by
  refine returnsInHanded_of_change (C := Try.checked) own started (by kernel_rfl) Try.func3
    (ChangeSpec.witness6 (enc := enc) (C := Try.checked) false ⟨#[], #[.agg #[.int .u8 0, .int .u8 0, .int .u8 0, .int .u8 0, .int .u8 0, .int .u8 0, .int .u8 0, .int .u8 0, .int .u8 0, .int .u8 0, .int .u8 0, .int .u8 0, .int .u8 0, .int .u8 0, .int .u8 0, .int .u8 0], .agg #[.int .u8 0, .int .u8 0, .int .u8 0, .int .u8 0, .int .u8 0, .int .u8 0, .int .u8 0, .int .u8 0, .int .u8 0, .int .u8 0, .int .u8 0, .int .u8 0, .int .u8 0, .int .u8 0, .int .u8 0, .int .u8 0]], []⟩ 8 (by kernel_rfl) (by kernel_rfl) (by kernel_rfl) (by kernel_rfl)) ?_
  intro W base args ds gs before hval0 hW hcnd _
  have hval : ∀ (j : Nat) t v, Try.f3.params[j]? = some t → args[j]? = some v → Value.okWide Try.prog W .any base t v := hval0
  have hW' := hW
  obtain ⟨p, q, hA0, hV, rfl, hfz, hnd⟩ := hW
  have hA : DataW.TrodAll enc Try.prog W 0 (fun _ => true) true Try.f3.params.toList args.toList ds p := hA0
  rw [Try.params3] at hA hval
  obtain ⟨v0, vs0, d0, ds0, p0, q0, hargs, rfl, rfl, h0, r0⟩ := trodAll_cons hA
  obtain ⟨v1, vs1, d1, ds1, p1, q1, rfl, rfl, rfl, h1, r1⟩ := trodAll_cons r0
  obtain ⟨rfl, rfl, rfl⟩ := trodAll_nil r1
  obtain rfl : args = #[v0, v1] := by cases args; simp_all
  obtain ⟨rfl, rfl⟩ := trodVars_none hV
  have k0 := h0
  have lt0 := places_lt k0
  obtain ⟨x0, hx0, rfl⟩ := arr16_of (hval 0 22 v0 rfl rfl) h0
  have k1 := h1
  have lt1 := places_lt k1
  obtain ⟨x1, hx1, rfl⟩ := arr16_of (hval 1 22 v1 rfl rfl) h1
  clear hA0 hval0
  refine (walk x0 x1 W hx0 hx1).mono fun e W' ⟨he, bel⟩ => ?_
  subst he
  exact ⟨_, rfl, _, _, _, [], _, [], hW', trodAll_mk1 (shut_bool Try.underlying4 _), (trodAll_cons_mk (Below.trod laidOut (by kernel_rfl) (of_decide_eq_true (by kernel_rfl)) k0 bel lt0) (trodAll_cons_mk (Below.trod laidOut (by kernel_rfl) (of_decide_eq_true (by kernel_rfl)) k1 bel lt1) trodAll_mk0)), rfl, bel.frame _, fun h => by cases h⟩

theorem proved : Rows.AesStepsSaid :=
  OpenClaim.holds_of_wide 3 Try.f3 rfl rfl rfl rfl rfl rfl rfl ⟨rfl, rfl, rfl, rfl, rfl⟩ rfl rfl rfl rfl rfl (by kernel_rfl) Try.func3 (by kernel_rfl)
    (of_decide_eq_true (by kernel_rfl)) (by unfold Func.isWrapper; first | (rw [if_pos (by decide +kernel)]; kernel_rfl) | (rw [if_neg (by decide +kernel)]; exact ⟨rfl, rfl⟩))
    (fun os started H enc _ => lifted os started H enc)
#print axioms proved
end Go.Proofs.Yteecbjpnnklbpaa.AesSteps
