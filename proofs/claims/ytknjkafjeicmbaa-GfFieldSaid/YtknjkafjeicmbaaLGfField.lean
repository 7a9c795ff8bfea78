/- GfField: for every input the law returns true: products do not hang on the order, go over sums, and are undone by inverses, and a column mixed four times is as it was. No condition. -/
import Derived.Test.YtknjkafjeicmbaaGf3
import Derived.Test.YtknjkafjeicmbaaOpen
namespace Go.Proofs.Ytknjkafjeicmbaa.GfField
open Go.ChangeShapes Go.WideShapes Go.ChangeAt Go.RowKit Go.Joins
open Go.ChangeMaps (open_string shut_string)
set_option linter.unusedVariables false

set_option maxRecDepth 100000 in
set_option maxHeartbeats 16000000 in
theorem walk (a b c x0 x1 x2 x3 : UInt8) (w : World) :
    Calls Try.prog 11 #[.int .u8 (a.toNat : Int), .int .u8 (b.toNat : Int), .int .u8 (c.toNat : Int), .agg #[e8 x0, e8 x1, e8 x2, e8 x3]] w fun e w' => e = .returned (.bool true) ∧ Below w.heap.size w w' := by
  have hx := xor8 b c
  obtain ⟨d, hd⟩ : ∃ d, d = b ^^^ c := ⟨_, rfl⟩
  rw [← hd] at hx
  have hy := xor8 (Gf.mul a b) (Gf.mul a c)
  rw [← Gf.mul_right, ← hd] at hy
  have hc := Lib.hid (Gf.mul_comm b a)
  have hs := Lib.hid (Gf.mul_assoc a b c)
  have h1 := Lib.hid (Gf.mul_one a)
  have hi := Lib.hid (Gf.inv_inv a)
  have hm := Lib.hid (show Gf.mix (Gf.mix (Gf.mix (Gf.mix ⟨x0, x1, x2, x3⟩))) = ⟨x0, x1, x2, x3⟩ from Gf.mix4_id ⟨x0, x1, x2, x3⟩)
  clear hd
  have heq : ∀ w, (Go.binOp .eql 52 (.agg #[e8 x0, e8 x1, e8 x2, e8 x3]) (.agg #[e8 x0, e8 x1, e8 x2, e8 x3])).run Try.prog w = .ok (.bool true) w := Gf.eqcol ⟨x0, x1, x2, x3⟩
  by_cases ha : a = 0
  · have t0 : ((a.toNat : Int) != 0) = false := bne8_no (b := 0) ha
    clear ha
    go_enter Try.func11, Try.ntmps11
    go_wp2_with fail
    refine (Gf.mul_any a b _ _ rfl rfl _).mono ?_
    rintro e w1 ⟨rfl, rfl⟩
    go_wp2_with fail
    refine (Gf.mul_any b a _ _ rfl rfl _).mono ?_
    rintro e w1 ⟨rfl, rfl⟩
    rw [hc.out]
    go_wp2_with fail
    refine (Gf.mul_any b c _ _ rfl rfl _).mono ?_
    rintro e w1 ⟨rfl, rfl⟩
    go_wp2_with fail
    refine (Gf.mul_any a (Gf.mul b c) _ _ rfl rfl _).mono ?_
    rintro e w1 ⟨rfl, rfl⟩
    rw [hs.out]
    go_wp2_with fail
    refine (Gf.mul_any a b _ _ rfl rfl _).mono ?_
    rintro e w1 ⟨rfl, rfl⟩
    go_wp2_with fail
    refine (Gf.mul_any (Gf.mul a b) c _ _ rfl rfl _).mono ?_
    rintro e w1 ⟨rfl, rfl⟩
    go_wp2_with fail
    refine (Gf.mul_any a d _ _ rfl rfl _).mono ?_
    rintro e w1 ⟨rfl, rfl⟩
    go_wp2_with fail
    refine (Gf.mul_any a b _ _ rfl rfl _).mono ?_
    rintro e w1 ⟨rfl, rfl⟩
    go_wp2_with fail
    refine (Gf.mul_any a c _ _ rfl rfl _).mono ?_
    rintro e w1 ⟨rfl, rfl⟩
    go_wp2_with fail
    refine (Gf.mul_any a 1 _ _ rfl (by rfl) _).mono ?_
    rintro e w1 ⟨rfl, rfl⟩
    rw [h1.out]
    go_wp2_with fail
    refine (Gf.inverse_any a _ rfl _).mono ?_
    rintro e w1 ⟨rfl, rfl⟩
    go_wp2_with fail
    refine (Gf.inverse_any (Gf.inv a) _ rfl _).mono ?_
    rintro e w1 ⟨rfl, rfl⟩
    rw [hi.out]
    go_wp2_with fail
    refine region_inb (by kernel_rfl) (by kernel_rfl) ?_
    have inbNe := InB.some
    have inbW := @wrap_small
    have inbU := IntKind.wrap_u8'
    repeat (refine wpQuiet_step (fun K hK => ?_); go_simp; first | (refine hK _ ?_; clear hK K) | (apply Exists.intro; refine ⟨?_, hK _ ?_⟩; (· (intro w' hw'; first | (go_at_call 59; with_reducible refine (Gf.column_any _ _).mono ?_; rintro e w1 ⟨rfl, b1⟩; first | (rw [hm.out]; unfold Gf.colV; exact ⟨rfl, hw'.on b1⟩) | exact ⟨rfl, hw'.on b1⟩) | (go_at_call 59; refine (Gf.column_any ⟨x0, x1, x2, x3⟩ _).mono ?_; rintro e w1 ⟨rfl, b1⟩; exact ⟨rfl, hw'.on b1⟩) | (go_at_call 49; refine (Gf.alive_any _).mono ?_; rintro e w1 ⟨rfl, rfl⟩; exact ⟨rfl, hw'⟩) | (have hcw := hw'.cell; go_simp; exact rfl))); clear hK K))
    refine wpQuiet_nil ?_
    intro wq hq
    clear inbNe inbW inbU
    go_wp2
    go_ret
    exact ⟨rfl, bt (b1alloc _ _) hq⟩
  · have t0 : ((a.toNat : Int) != 0) = true := bne8 (b := 0) ha
    have hv := Lib.hid (Gf.mul_inv a ha)
    clear ha
    go_enter Try.func11, Try.ntmps11
    go_wp2_with fail
    refine (Gf.mul_any a b _ _ rfl rfl _).mono ?_
    rintro e w1 ⟨rfl, rfl⟩
    go_wp2_with fail
    refine (Gf.mul_any b a _ _ rfl rfl _).mono ?_
    rintro e w1 ⟨rfl, rfl⟩
    rw [hc.out]
    go_wp2_with fail
    refine (Gf.mul_any b c _ _ rfl rfl _).mono ?_
    rintro e w1 ⟨rfl, rfl⟩
    go_wp2_with fail
    refine (Gf.mul_any a (Gf.mul b c) _ _ rfl rfl _).mono ?_
    rintro e w1 ⟨rfl, rfl⟩
    rw [hs.out]
    go_wp2_with fail
    refine (Gf.mul_any a b _ _ rfl rfl _).mono ?_
    rintro e w1 ⟨rfl, rfl⟩
    go_wp2_with fail
    refine (Gf.mul_any (Gf.mul a b) c _ _ rfl rfl _).mono ?_
    rintro e w1 ⟨rfl, rfl⟩
    go_wp2_with fail
    refine (Gf.mul_any a d _ _ rfl rfl _).mono ?_
    rintro e w1 ⟨rfl, rfl⟩
    go_wp2_with fail
    refine (Gf.mul_any a b _ _ rfl rfl _).mono ?_
    rintro e w1 ⟨rfl, rfl⟩
    go_wp2_with fail
    refine (Gf.mul_any a c _ _ rfl rfl _).mono ?_
    rintro e w1 ⟨rfl, rfl⟩
    go_wp2_with fail
    refine (Gf.mul_any a 1 _ _ rfl (by rfl) _).mono ?_
    rintro e w1 ⟨rfl, rfl⟩
    rw [h1.out]
    go_wp2_with fail
    refine (Gf.inverse_any a _ rfl _).mono ?_
    rintro e w1 ⟨rfl, rfl⟩
    go_wp2_with fail
    refine (Gf.mul_any a (Gf.inv a) _ _ rfl rfl _).mono ?_
    rintro e w1 ⟨rfl, rfl⟩
    rw [hv.out]
    go_wp2_with fail
    refine (Gf.inverse_any a _ rfl _).mono ?_
    rintro e w1 ⟨rfl, rfl⟩
    go_wp2_with fail
    refine (Gf.inverse_any (Gf.inv a) _ rfl _).mono ?_
    rintro e w1 ⟨rfl, rfl⟩
    rw [hi.out]
    go_wp2_with fail
    refine region_inb (by kernel_rfl) (by kernel_rfl) ?_
    have inbNe := InB.some
    have inbW := @wrap_small
    have inbU := IntKind.wrap_u8'
    repeat (refine wpQuiet_step (fun K hK => ?_); go_simp; first | (refine hK _ ?_; clear hK K) | (apply Exists.intro; refine ⟨?_, hK _ ?_⟩; (· (intro w' hw'; first | (go_at_call 59; with_reducible refine (Gf.column_any _ _).mono ?_; rintro e w1 ⟨rfl, b1⟩; first | (rw [hm.out]; unfold Gf.colV; exact ⟨rfl, hw'.on b1⟩) | exact ⟨rfl, hw'.on b1⟩) | (go_at_call 59; refine (Gf.column_any ⟨x0, x1, x2, x3⟩ _).mono ?_; rintro e w1 ⟨rfl, b1⟩; exact ⟨rfl, hw'.on b1⟩) | (go_at_call 49; refine (Gf.alive_any _).mono ?_; rintro e w1 ⟨rfl, rfl⟩; exact ⟨rfl, hw'⟩) | (have hcw := hw'.cell; go_simp; exact rfl))); clear hK K))
    refine wpQuiet_nil ?_
    intro wq hq
    clear inbNe inbW inbU
    go_wp2
    go_ret
    exact ⟨rfl, bt (b1alloc _ _) hq⟩

set_option maxRecDepth 100000 in
theorem lifted (os : Os) (started : os.Started) (H : Type) (enc : TypeId × Value → H) :
    ReturnsInHanded {} Try.checked os 11 .any (Rows.gfFieldSpec.pre6 enc Try.prog Try.f11 Rows.gfFieldRow.domain false) (Rows.gfFieldSpec.post enc Try.prog Try.f11 false true false false) := by
  refine returnsInHanded_of_change (C := Try.checked) own started (by kernel_rfl) Try.func11
    (ChangeSpec.witness6 (enc := enc) (C := Try.checked) false ⟨#[], #[.int .u8 0, .int .u8 0, .int .u8 0, .agg #[.int .u8 0, .int .u8 0, .int .u8 0, .int .u8 0]], []⟩ 8 (by kernel_rfl) (by kernel_rfl) (by kernel_rfl) (by kernel_rfl)) ?_
  intro W base args ds gs before hval0 hW hcnd _
  have hval : ∀ (j : Nat) t v, Try.f11.params[j]? = some t → args[j]? = some v → Value.okWide Try.prog W .any base t v := hval0
  have hW' := hW
  obtain ⟨p, q, hA0, hV, rfl, hfz, hnd⟩ := hW
  have hA : DataW.TrodAll enc Try.prog W 0 (fun _ => true) true Try.f11.params.toList args.toList ds p := hA0
  rw [Try.params11] at hA hval
  obtain ⟨v0, vs0, d0, ds0, p0, q0, hargs, rfl, rfl, h0, r0⟩ := trodAll_cons hA
  obtain ⟨v1, vs1, d1, ds1, p1, q1, rfl, rfl, rfl, h1, r1⟩ := trodAll_cons r0
  obtain ⟨v2, vs2, d2, ds2, p2, q2, rfl, rfl, rfl, h2, r2⟩ := trodAll_cons r1
  obtain ⟨v3, vs3, d3, ds3, p3, q3, rfl, rfl, rfl, h3, r3⟩ := trodAll_cons r2
  obtain ⟨rfl, rfl, rfl⟩ := trodAll_nil r3
  obtain rfl : args = #[v0, v1, v2, v3] := by cases args; simp_all
  obtain ⟨rfl, rfl⟩ := trodVars_none hV
  have k0 := h0
  have lt0 := places_lt k0
  obtain ⟨n0, rfl, _, _, w0⟩ := open_int Try.underlying5 (hval 0 5 v0 rfl rfl) h0
  obtain ⟨x0, rfl⟩ := wf8 w0
  have k1 := h1
  have lt1 := places_lt k1
  obtain ⟨n1, rfl, _, _, w1⟩ := open_int Try.underlying5 (hval 1 5 v1 rfl rfl) h1
  obtain ⟨x1, rfl⟩ := wf8 w1
  have k2 := h2
  have lt2 := places_lt k2
  obtain ⟨n2, rfl, _, _, w2⟩ := open_int Try.underlying5 (hval 2 5 v2 rfl rfl) h2
  obtain ⟨x2, rfl⟩ := wf8 w2
  have k3 := h3
  have lt3 := places_lt k3
  obtain ⟨x3, rfl⟩ := arr4_of (hval 3 52 v3 rfl rfl) h3
  clear hA0 hval0
  refine (walk x0 x1 x2 (x3.1) (x3.2.1) (x3.2.2.1) (x3.2.2.2) W ).mono fun e W' ⟨he, bel⟩ => ?_
  subst he
  exact ⟨_, rfl, _, _, _, [], _, [], hW', trodAll_mk1 (shut_bool Try.underlying4 _), (trodAll_cons_mk (Below.trod laidOut (by kernel_rfl) (of_decide_eq_true (by kernel_rfl)) k0 bel lt0) (trodAll_cons_mk (Below.trod laidOut (by kernel_rfl) (of_decide_eq_true (by kernel_rfl)) k1 bel lt1) (trodAll_cons_mk (Below.trod laidOut (by kernel_rfl) (of_decide_eq_true (by kernel_rfl)) k2 bel lt2) (trodAll_cons_mk (Below.trod laidOut (by kernel_rfl) (of_decide_eq_true (by kernel_rfl)) k3 bel lt3) trodAll_mk0)))), rfl, bel.frame _, fun h => by cases h⟩

theorem proved : Rows.GfFieldSaid :=
  OpenClaim.holds_of_wide 11 Try.f11 rfl rfl rfl rfl rfl rfl rfl ⟨rfl, rfl, rfl, rfl, rfl⟩ rfl rfl rfl rfl rfl (by kernel_rfl) Try.func11 (by kernel_rfl)
    (of_decide_eq_true (by kernel_rfl)) (by unfold Func.isWrapper; first | (rw [if_pos (by decide +kernel)]; kernel_rfl) | (rw [if_neg (by decide +kernel)]; exact ⟨rfl, rfl⟩))
    (fun os started H enc _ => lifted os started H enc)
#print axioms proved
end Go.Proofs.Ytknjkafjeicmbaa.GfField
