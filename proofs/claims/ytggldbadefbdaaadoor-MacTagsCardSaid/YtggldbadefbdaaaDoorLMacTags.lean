/- MacTags: for every input the law returns true: the tag of any text with any key, and of two, and which tags are right. No condition. -/
import Derived.Test.YtggldbadefbdaaaDoorMac5
import Derived.Test.YtggldbadefbdaaaDoorOpen
import Derived.Test.YtggldbadefbdaaaDoorTab
namespace Go.Proofs.YtggldbadefbdaaaDoor.MacTags
open Go.ChangeShapes Go.WideShapes Go.ChangeAt Go.RowKit Go.Joins
open Go.ChangeMaps (open_string shut_string)
set_option linter.unusedVariables false

set_option maxRecDepth 100000 in
set_option maxHeartbeats 1000000 in
theorem walk (A : Option Addr) (k : List UInt8) (c : Nat) (B : Option Addr) (a : List UInt8) (d : Nat) (C : Option Addr) (b : List UInt8) (f : Nat) (D : Option Addr) (t : List UInt8) (g : Nat) (w : World)
    (ha : Rd w w.heap.size A (k.map e8)) (hc : k.length ≤ c) (hcm : c ≤ maxLen) (hb : Rd w w.heap.size B (a.map e8)) (hd : a.length ≤ d) (hdm : d ≤ maxLen)
    (hC : Rd w w.heap.size C (b.map e8)) (hf : b.length ≤ f) (hfm : f ≤ maxLen) (hD : Rd w w.heap.size D (t.map e8)) (hg : t.length ≤ g) (hgm : g ≤ maxLen) (hk : Sha.Tab w) :
    Calls Tryd.prog 8 #[.slice A k.length c, .slice B a.length d, .slice C b.length f, .slice D t.length g] w fun e w' => e = .returned (.bool true) ∧ Below w.heap.size w w' := by
  unfold maxLen at hcm hdm hfm hgm
  by_cases h1 : 300 < k.length
  · go_enter Tryd.func8, Tryd.ntmps8
    go_wp2_with (go_at_call 31; refine (Mac.alive_any _ hk).mono ?_; rintro e w' ⟨rfl, hw⟩)
    go_ret
    exact ⟨rfl, hw⟩
  by_cases h2 : 300 < a.length
  · go_enter Tryd.func8, Tryd.ntmps8
    go_wp2_with (go_at_call 31; refine (Mac.alive_any _ hk).mono ?_; rintro e w' ⟨rfl, hw⟩)
    go_ret
    exact ⟨rfl, hw⟩
  by_cases h3 : 300 < b.length
  · go_enter Tryd.func8, Tryd.ntmps8
    go_wp2_with (go_at_call 31; refine (Mac.alive_any _ hk).mono ?_; rintro e w' ⟨rfl, hw⟩)
    go_ret
    exact ⟨rfl, hw⟩
  by_cases h4 : 100 < t.length
  · go_enter Tryd.func8, Tryd.ntmps8
    go_wp2_with (go_at_call 31; refine (Mac.alive_any _ hk).mono ?_; rintro e w' ⟨rfl, hw⟩)
    go_ret
    exact ⟨rfl, hw⟩
  have m1 : (Mac.mac k a).length ≤ 32 := by rw [Mac.mac_len]; omega
  have m2 : (Mac.key k).length ≤ 64 := by rw [Mac.key_len]; omega
  have m3 : (Mac.two k a b).length ≤ 32 := by rw [Mac.two, Mac.mac_len]; omega
  go_enter Tryd.func8, Tryd.ntmps8
  go_wp2_with fail
  refine (Mac.rof_any A B k a _ _ _ _ w rfl rfl ha hb (by omega) (by omega)).mono ?_
  rintro e w1 ⟨A1, c1, rfl, own1, b1⟩
  go_wp2_with fail
  refine (Mac.of_any A B k a _ _ _ _ w1 rfl rfl (ha.on b1) (hb.on b1) (by omega) (by omega) (hk.on b1)).mono ?_
  rintro e w2 ⟨A2, c2, rfl, own2, b2⟩
  have t2 := bt b1 b2
  have r1 := (Rd.own own1).on b2
  go_wp2_with fail
  refine (R1.same_any _ _ (Mac.mac k a) (Mac.mac k a) _ _ _ _ _ rfl rfl (Rd.own own2) r1 (by omega) (by omega)).mono ?_
  rintro e w3 ⟨rfl, b3⟩
  have t3 := bt t2 b3
  have r3 := r1.on b3
  rw [R1.sameB_self]
  go_wp2_with fail
  refine (Mac.key_any A k _ _ w3 rfl (ha.on t3) (by omega) (hk.on t3)).mono ?_
  rintro e w4 ⟨A4, c4, rfl, own4, b4⟩
  have t4 := bt t3 b4
  go_wp2_with fail
  refine (Mac.rkey_any A k _ _ w4 rfl (ha.on t4) (by omega)).mono ?_
  rintro e w5 ⟨A5, c5, rfl, own5, b5⟩
  have t5 := bt t4 b5
  go_wp2_with fail
  refine (R1.same_any _ _ (Mac.key k) (Mac.key k) _ _ _ _ _ rfl rfl ((Rd.own own4).on b5) (Rd.own own5) (by omega) (by omega)).mono ?_
  rintro e w6 ⟨rfl, b6⟩
  have t6 := bt t5 b6
  have r6 := r3.on (bt b4 (bt b5 b6))
  rw [R1.sameB_self]
  go_wp2_with fail
  refine (Mac.two_any A B C k a b _ _ _ _ _ _ w6 rfl rfl rfl (ha.on t6) (hb.on t6) (hC.on t6) (by omega) (by omega) (by omega) (hk.on t6)).mono ?_
  rintro e w7 ⟨A7, c7, rfl, own7, b7⟩
  have t7 := bt t6 b7
  go_wp2_with fail
  refine (Mac.rtwo_any A B C k a b _ _ _ _ _ _ w7 rfl rfl rfl (ha.on t7) (hb.on t7) (hC.on t7) (by omega) (by omega) (by omega)).mono ?_
  rintro e w8 ⟨A8, c8, rfl, own8, b8⟩
  have t8 := bt t7 b8
  go_wp2_with fail
  refine (R1.same_any _ _ (Mac.two k a b) (Mac.two k a b) _ _ _ _ _ rfl rfl ((Rd.own own7).on b8) (Rd.own own8) (by omega) (by omega)).mono ?_
  rintro e w9 ⟨rfl, b9⟩
  have t9 := bt t8 b9
  have r9 := r6.on (bt b7 (bt b8 b9))
  rw [R1.sameB_self]
  go_wp2_with fail
  refine (Mac.check_any A B D k a t _ _ _ _ _ _ w9 rfl rfl rfl (ha.on t9) (hb.on t9) (hD.on t9) (by omega) (by omega) (hk.on t9)).mono ?_
  rintro e w10 ⟨rfl, b10⟩
  have t10 := bt t9 b10
  have r10 := r9.on b10
  go_wp2_with fail
  refine (R1.same_any _ _ (Mac.mac k a) t _ _ _ _ _ rfl rfl r10 (hD.on t10) (by omega) (by omega)).mono ?_
  rintro e w11 ⟨rfl, b11⟩
  have t11 := bt t10 b11
  have r11 := r10.on b11
  go_wp2_with fail
  refine (Mac.check_any A B A1 k a (Mac.mac k a) _ _ _ _ _ _ w11 rfl rfl rfl (ha.on t11) (hb.on t11) r11 (by omega) (by omega) (hk.on t11)).mono ?_
  rintro e w12 ⟨rfl, b12⟩
  have t12 := bt t11 b12
  rw [R1.sameB_self]
  go_wp2_with (go_at_call 31; refine (Mac.alive_any _ (hk.on t12)).mono ?_; rintro e w' ⟨rfl, hw⟩)
  go_ret
  exact ⟨rfl, bt t12 hw⟩

set_option maxRecDepth 100000 in
theorem contract (H : Type) (enc : TypeId × Value → H) (W : World) (base : Nat) (args : Array Value) (ds gs : List (DataW H)) (before : List MemPlace)
    (hval0 : ∀ (j : Nat) t v, Tryd.f8.params[j]? = some t → args[j]? = some v → Value.okWide Tryd.prog W .any base t v)
    (hW : DataW.Whole enc Tryd.prog Tryd.f8.params.toList Rows.macTagsSpec.vars false W args.toList ds gs before) (hL : laidMetH Tryd.prog Rows.macTagsRow.laid W) :
    Calls Tryd.prog 8 args W fun e W' => ∃ v, e = .returned v ∧ Rows.macTagsSpec.post enc Tryd.prog Tryd.f8 false true false false W args v W' := by
  have hk : Sha.Tab W := Laid.tab hL
  have hval : ∀ (j : Nat) t v, Tryd.f8.params[j]? = some t → args[j]? = some v → Value.okWide Tryd.prog W .any base t v := hval0
  have hW' := hW
  obtain ⟨p, q, hA0, hV, rfl, hfz, hnd⟩ := hW
  have hA : DataW.TrodAll enc Tryd.prog W 0 (fun _ => true) true Tryd.f8.params.toList args.toList ds p := hA0
  rw [Tryd.params8] at hA hval
  obtain ⟨v0, vs0, d0, ds0, p0, q0, hargs, rfl, rfl, h0, r0⟩ := trodAll_cons hA
  obtain ⟨v1, vs1, d1, ds1, p1, q1, rfl, rfl, rfl, h1, r1⟩ := trodAll_cons r0
  obtain ⟨v2, vs2, d2, ds2, p2, q2, rfl, rfl, rfl, h2, r2⟩ := trodAll_cons r1
  obtain ⟨v3, vs3, d3, ds3, p3, q3, rfl, rfl, rfl, h3, r3⟩ := trodAll_cons r2
  obtain ⟨rfl, rfl, rfl⟩ := trodAll_nil r3
  obtain rfl : args = #[v0, v1, v2, v3] := by cases args; simp_all
  obtain ⟨rfl, rfl⟩ := trodVars_none hV
  have k0 := h0
  have lt0 := places_lt k0
  obtain ⟨a0, len0, cap0, rfl⟩ := okWide_slice Tryd.underlying24 (hval 0 24 v0 rfl rfl)
  obtain ⟨fuel0, hf0⟩ := h0
  obtain ⟨l0, rfl, rr0, rc0, rm0⟩ := bytes_of rfl Tryd.underlying24 Tryd.underlying5 (by kernel_rfl) hf0
  have k1 := h1
  have lt1 := places_lt k1
  obtain ⟨a1, len1, cap1, rfl⟩ := okWide_slice Tryd.underlying24 (hval 1 24 v1 rfl rfl)
  obtain ⟨fuel1, hf1⟩ := h1
  obtain ⟨l1, rfl, rr1, rc1, rm1⟩ := bytes_of rfl Tryd.underlying24 Tryd.underlying5 (by kernel_rfl) hf1
  have k2 := h2
  have lt2 := places_lt k2
  obtain ⟨a2, len2, cap2, rfl⟩ := okWide_slice Tryd.underlying24 (hval 2 24 v2 rfl rfl)
  obtain ⟨fuel2, hf2⟩ := h2
  obtain ⟨l2, rfl, rr2, rc2, rm2⟩ := bytes_of rfl Tryd.underlying24 Tryd.underlying5 (by kernel_rfl) hf2
  have k3 := h3
  have lt3 := places_lt k3
  obtain ⟨a3, len3, cap3, rfl⟩ := okWide_slice Tryd.underlying24 (hval 3 24 v3 rfl rfl)
  obtain ⟨fuel3, hf3⟩ := h3
  obtain ⟨l3, rfl, rr3, rc3, rm3⟩ := bytes_of rfl Tryd.underlying24 Tryd.underlying5 (by kernel_rfl) hf3
  clear hA0 hval0
  refine (walk a0 l0 cap0 a1 l1 cap1 a2 l2 cap2 a3 l3 cap3 W rr0 rc0 rm0 rr1 rc1 rm1 rr2 rc2 rm2 rr3 rc3 rm3 hk).mono fun e W' ⟨he, bel⟩ => ?_
  subst he
  exact ⟨_, rfl, _, _, _, [], _, [], hW', trodAll_mk1 (shut_bool Tryd.underlying4 _), (trodAll_cons_mk (Below.trod laidOut (by kernel_rfl) (of_decide_eq_true (by kernel_rfl)) k0 bel lt0) (trodAll_cons_mk (Below.trod laidOut (by kernel_rfl) (of_decide_eq_true (by kernel_rfl)) k1 bel lt1) (trodAll_cons_mk (Below.trod laidOut (by kernel_rfl) (of_decide_eq_true (by kernel_rfl)) k2 bel lt2) (trodAll_cons_mk (Below.trod laidOut (by kernel_rfl) (of_decide_eq_true (by kernel_rfl)) k3 bel lt3) trodAll_mk0)))), rfl, bel.frame _, fun h => by cases h⟩

theorem laid_met (os : Os) : laidMet Tryd.prog Rows.macTagsRow.laid ((Laid.laidWorld os).forCall (fun _ _ => 0) ⟨#[], #[.slice none 0 0, .slice none 0 0, .slice none 0 0, .slice none 0 0], []⟩).memory :=
  laidMet_of_run' 8 (by kernel_rfl) (by kernel_rfl)
set_option maxRecDepth 100000 in
theorem lifted (os : Os) (started : os.Started) (H : Type) (enc : TypeId × Value → H) (F : Stop.Interp) :
    ReturnsInHanded {} Tryd.checked os 8 .any ((OpenSpec.ofChange Rows.macTagsSpec).preRow enc Tryd.prog Tryd.f8 Rows.macTagsRow.domain false Rows.macTagsRow.laid) (((OpenSpec.ofChange Rows.macTagsSpec).at F).post enc Tryd.prog Tryd.f8 false true false false) := by
  obtain ⟨x, hx⟩ := Option.isSome_iff_exists.1 (show (DataW.whole enc Tryd.prog ((Laid.laidWorld os).forCall (fun _ _ => 0) ⟨#[], #[.slice none 0 0, .slice none 0 0, .slice none 0 0, .slice none 0 0], []⟩).memory Tryd.f8.params.toList Rows.macTagsSpec.vars false (#[.slice none 0 0, .slice none 0 0, .slice none 0 0, .slice none 0 0] : Array Value).toList 8).isSome = true by kernel_rfl)
  refine returnsInHanded_of_row (C := Tryd.checked) (s := OpenSpec.ofChange Rows.macTagsSpec) own started (by kernel_rfl) Tryd.func8
    (witness_row_at (enc := enc) (C := Tryd.checked) false (Laid.laidWorld os) #[.slice none 0 0, .slice none 0 0, .slice none 0 0, .slice none 0 0] rfl (by kernel_rfl) (by kernel_rfl) (by kernel_rfl)
      (OpenSpec.preRow_of_cond 8 hx (by rfl) (fun k hk => by cases hk) (by kernel_rfl) (laid_met os))) ?_
  intro W base args ds gs before hval hW _ _ _ hL _ _
  exact contract H enc W base args ds gs before hval hW hL
theorem said : Rows.MacTagsSaid :=
  OpenClaim.holds_of_cond 8 Tryd.f8 rfl rfl rfl rfl rfl rfl rfl ⟨rfl, rfl, rfl, rfl, rfl⟩ rfl rfl rfl rfl rfl (by kernel_rfl) Tryd.func8 (by kernel_rfl)
    (of_decide_eq_true (by kernel_rfl)) (by unfold Func.isWrapper; first | (rw [if_pos (by decide +kernel)]; kernel_rfl) | (rw [if_neg (by decide +kernel)]; exact ⟨rfl, rfl⟩))
    (fun os started H enc _ F => by rw [OpenClaim.pre_eq_preRow]; exact lifted os started H enc F)
theorem plain (f : FuncId) (fn : Func) (hf : Tryd.pinned.checked.prog.funcNamed "oubliette/oubliettelaw08.MacTags" = some f) (hfn : Tryd.pinned.checked.prog.funcs[f]? = some fn) :
    false = Tryd.pinned.checked.prog.looks [] ∧ ∀ (j : Nat) t, fn.params[j]? = some t → Tryd.pinned.checked.prog.wantsStandIn t = false := by
  obtain rfl : f = 8 := Option.some.inj ((show Tryd.prog.funcNamed "oubliette/oubliettelaw08.MacTags" = some 8 by kernel_rfl).symm.trans hf) |>.symm
  obtain rfl : fn = Tryd.f8 := (Option.some.inj (Tryd.func8.symm.trans hfn)).symm
  refine ⟨by kernel_rfl, fun j t ht => ?_⟩
  rw [Tryd.params8] at ht
  have hm : t ∈ ([24] : List TypeId) := by have := Array.mem_of_getElem? ht; simp at this ⊢; omega
  have hall : (([24] : List TypeId).all fun u => !Tryd.prog.wantsStandIn u) = true := by kernel_rfl
  exact (show Tryd.prog.wantsStandIn t = false by simpa using List.all_eq_true.1 hall t hm)
theorem proved : Rows.MacTagsCardSaid :=
  Claim7.holds_tied_plain_at .later [] _ _ _ _ said (fun _ h => by cases h) (by kernel_rfl) (fun _ h => by cases h) macTags_row_tie rfl ⟨rfl, rfl⟩ (by kernel_rfl) rfl plain (by kernel_rfl)
#print axioms proved
end Go.Proofs.YtggldbadefbdaaaDoor.MacTags
