/- PolicyTurns: for every input the law returns true: the header of the next epoch, or why there is none. No condition. -/
import Derived.Test.YtdkcdojcglmlbaaOpenPol
namespace Go.Proofs.Ytdkcdojcglmlbaa.PolicyTurns
open Go.ChangeShapes Go.WideShapes Go.ChangeAt Go.RowKit Go.Joins
open Go.ChangeMaps (open_string shut_string)
open Go.Proofs.Ytdkcdojcglmlbaa.Pol
set_option linter.unusedVariables false
set_option maxRecDepth 100000
theorem alive_any (w : World) : Calls Try.prog 21 #[] w fun e w' => e = .returned (.bool true) ∧ Below w.heap.size w w' := by
  have ho := Lib.hid (fun w => poldest_any 2 1 5 w (by omega) (by omega))
  rw [show oldest 2 1 5 = 4 by decide] at ho
  go_enter Try.func21, Try.ntmps21
  go_wp2_with (go_at_call 80; refine (ho.out _).mono ?_; rintro e1 w1 ⟨rfl, b2⟩)
  go_ret
  exact ⟨rfl, b2⟩
theorem two_new (w : World) (a b : List Value) (ta tb : TypeId) :
    Bl ((w.alloc (.cells a.toArray ta)).alloc (.cells b.toArray tb)) w.heap.size ta a ∧ Bl ((w.alloc (.cells a.toArray ta)).alloc (.cells b.toArray tb)) (w.heap.size + 1) tb b := by
  have h1 : Bl (w.alloc (.cells a.toArray ta)) w.heap.size ta a := heap_alloc_new w _
  have h2 : Bl ((w.alloc (.cells a.toArray ta)).alloc (.cells b.toArray tb)) (w.heap.size + 1) tb b := by
    have := heap_alloc_new (w.alloc (.cells a.toArray ta)) (.cells b.toArray tb)
    simpa [Bl] using this
  exact ⟨h1.on (b1alloc _ _), h2⟩
set_option maxHeartbeats 2000000 in
theorem walk (k d e o s : Int) (t : List UInt8) (w : World) (hk : -9223372036854775808 ≤ k ∧ k ≤ 9223372036854775807) (hd : -9223372036854775808 ≤ d ∧ d ≤ 9223372036854775807) (he : -9223372036854775808 ≤ e ∧ e ≤ 9223372036854775807) (ho : -9223372036854775808 ≤ o ∧ o ≤ 9223372036854775807) (hs : -9223372036854775808 ≤ s ∧ s ≤ 9223372036854775807) :
    Calls Try.prog 4 #[.agg #[.int .i64 k, .int .i64 d], hdr e o s t] w fun E w' => E = .returned (.bool true) ∧ Below w.heap.size w w' := by
  have hal := Lib.hid (fun w => alive_any w)
  have hsz : (⟨t.toArray⟩ : ByteArray).size = t.length := Utf.ba_size t
  by_cases ht : t.length ≤ 100
  · have h1 := Lib.hid (fun w => turn_any k d e o s t w (by omega))
    have h2 := Lib.hid (fun w => rturn_any k d e o s t w (by omega))
    obtain ⟨T, hT⟩ : ∃ T, T = turn k d e o s t := ⟨_, rfl⟩
    rw [← hT] at h1 h2
    clear hT
    unfold hdr at h1 h2 ⊢
    obtain ⟨⟨a, b, c, u⟩, f⟩ := T
    have ht1 : ¬ (100 : Int) < (t.length : Int) := by omega
    go_enter Try.func4, Try.ntmps4
    have T0 := two_new w [.int .i64 k, .int .i64 d] [.int .i64 e, .int .i64 o, .int .i64 s, .string ⟨t.toArray⟩] 39 41
    go_wp2_with (first
      | (go_at_call 22; refine (h1.out _).mono ?_; rintro e1 w1 ⟨rfl, b2⟩; unfold hv hdr; obtain ⟨p0, p1⟩ := (T0.1.on b2).two; obtain ⟨q0, q1, q2, q3, qf⟩ := (T0.2.on b2).four; have l1 := lt_of_block (T0.1.on b2); have l2 := lt_of_block (T0.2.on b2))
      | (go_at_call 23; refine (h2.out _).mono ?_; rintro e2 w2 ⟨rfl, b3⟩; unfold hv hdr; obtain ⟨x0, x1, x2, x3, xf⟩ := (show Bl w2 w1.heap.size _ [.int .i64 a, .int .i64 b, .int .i64 c, .string ⟨u.toArray⟩] from (show Bl _ w1.heap.size _ _ from heap_alloc_new w1 _).on b3).four; have l3 := (show w1.heap.size < w2.heap.size from by have := b3.size; simp at this; omega))
      | (go_at_call 21; refine (hal.out _).mono ?_; rintro e3 w3 ⟨rfl, b4⟩))
    go_ret
    exact ⟨rfl, bt (bt (bt (bt (bt (b2alloc _ _ _) b2) (b1alloc _ _)) b3) (b1alloc _ _)) b4⟩
  · have ht1 : (100 : Int) < (t.length : Int) := by omega
    unfold hdr
    go_enter Try.func4, Try.ntmps4
    go_wp2_with (go_at_call 21; refine (hal.out _).mono ?_; rintro e1 w1 ⟨rfl, b2⟩)
    go_ret
    exact ⟨rfl, bt (b2alloc _ _ _) b2⟩
set_option maxRecDepth 100000 in
theorem lifted (os : Os) (started : os.Started) (H : Type) (enc : TypeId × Value → H) :
    ReturnsInHanded {} Try.checked os 4 .any (Rows.policyTurnsSpec.pre6 enc Try.prog Try.f4 Rows.policyTurnsRow.domain false) (Rows.policyTurnsSpec.post enc Try.prog Try.f4 false true false false) := by
  refine returnsInHanded_of_change (C := Try.checked) own started (by kernel_rfl) Try.func4
    (ChangeSpec.witness6 (enc := enc) (C := Try.checked) false ⟨#[], #[.agg #[.int .i64 0, .int .i64 0], .agg #[.int .i64 0, .int .i64 0, .int .i64 0, .string ⟨#[]⟩]], []⟩ 8 (by kernel_rfl) (by kernel_rfl) (by kernel_rfl) (by kernel_rfl)) ?_
  intro W base args ds gs before hval0 hW hcnd _
  have hval : ∀ (j : Nat) t v, Try.f4.params[j]? = some t → args[j]? = some v → Value.okWide Try.prog W .any base t v := hval0
  have hW' := hW
  obtain ⟨p, q, hA0, hV, rfl, hfz, hnd⟩ := hW
  have hA : DataW.TrodAll enc Try.prog W 0 (fun _ => true) true Try.f4.params.toList args.toList ds p := hA0
  rw [Try.params4] at hA hval
  obtain ⟨v0, vs0, d0, ds0, p0, q0, hargs, rfl, rfl, h0, r0⟩ := trodAll_cons hA
  obtain ⟨v1, vs1, d1, ds1, p1, q1, rfl, rfl, rfl, h1, r1⟩ := trodAll_cons r0
  obtain ⟨rfl, rfl, rfl⟩ := trodAll_nil r1
  obtain rfl : args = #[v0, v1] := by cases args; simp_all
  obtain ⟨rfl, rfl⟩ := trodVars_none hV
  have k0 := h0
  have lt0 := places_lt k0
  obtain ⟨x0a, x0b, rfl, rr0a, rr0b⟩ := policy_of (hval 0 39 v0 rfl rfl) h0
  have k1 := h1
  have lt1 := places_lt k1
  obtain ⟨x1a, x1b, x1c, x1t, rfl, rr1a, rr1b, rr1c⟩ := header_of (hval 1 41 v1 rfl rfl) h1
  clear hA0 hval0
  refine (walk x0a x0b x1a x1b x1c x1t W rr0a rr0b rr1a rr1b rr1c).mono fun e W' ⟨he, bel⟩ => ?_
  subst he
  exact ⟨_, rfl, _, _, _, [], _, [], hW', trodAll_mk1 (shut_bool Try.underlying4 _), (trodAll_cons_mk (Below.trod laidOut (by kernel_rfl) (of_decide_eq_true (by kernel_rfl)) k0 bel lt0) (trodAll_cons_mk (Below.trod laidOut (by kernel_rfl) (of_decide_eq_true (by kernel_rfl)) k1 bel lt1) trodAll_mk0)), rfl, bel.frame _, fun h => by cases h⟩

theorem proved : Rows.PolicyTurnsSaid :=
  OpenClaim.holds_of_wide 4 Try.f4 rfl rfl rfl rfl rfl rfl rfl ⟨rfl, rfl, rfl, rfl, rfl⟩ rfl rfl rfl rfl rfl (by kernel_rfl) Try.func4 (by kernel_rfl)
    (of_decide_eq_true (by kernel_rfl)) (by unfold Func.isWrapper; first | (rw [if_pos (by decide +kernel)]; kernel_rfl) | (rw [if_neg (by decide +kernel)]; exact ⟨rfl, rfl⟩))
    (fun os started H enc _ => lifted os started H enc)
#print axioms proved
end Go.Proofs.Ytdkcdojcglmlbaa.PolicyTurns
