/- MacParts: for every input the law returns true: the tag of two parts is that of how long the first one is, and both, one behind the other. No condition. -/
import Derived.Test.YtggldbadefbdaaaDoorMac5
import Derived.Test.YtggldbadefbdaaaDoorOpen
import Derived.Test.YtggldbadefbdaaaDoorTab
namespace Go.Proofs.YtggldbadefbdaaaDoor.MacParts
open Go.ChangeShapes Go.WideShapes Go.ChangeAt Go.RowKit Go.Joins
open Go.ChangeMaps (open_string shut_string)
set_option linter.unusedVariables false

set_option maxRecDepth 100000 in
set_option maxHeartbeats 1000000 in
theorem walk (A : Option Addr) (k : List UInt8) (c : Nat) (B : Option Addr) (a : List UInt8) (d : Nat) (C : Option Addr) (b : List UInt8) (f : Nat) (w : World)
    (ha : Rd w w.heap.size A (k.map e8)) (hc : k.length ≤ c) (hcm : c ≤ maxLen) (hb : Rd w w.heap.size B (a.map e8)) (hd : a.length ≤ d) (hdm : d ≤ maxLen)
    (hC : Rd w w.heap.size C (b.map e8)) (hf : b.length ≤ f) (hfm : f ≤ maxLen) (hk : Sha.Tab w) :
    Calls Tryd.prog 9 #[.slice A k.length c, .slice B a.length d, .slice C b.length f] w fun e w' => e = .returned (.bool true) ∧ Below w.heap.size w w' := by
  unfold maxLen at hcm hdm hfm
  by_cases h1 : 300 < k.length
  · go_enter Tryd.func9, Tryd.ntmps9
    go_wp2_with (go_at_call 31; refine (Mac.alive_any _ hk).mono ?_; rintro e w' ⟨rfl, hw⟩)
    go_ret
    exact ⟨rfl, hw⟩
  by_cases h2 : 200 < a.length
  · go_enter Tryd.func9, Tryd.ntmps9
    go_wp2_with (go_at_call 31; refine (Mac.alive_any _ hk).mono ?_; rintro e w' ⟨rfl, hw⟩)
    go_ret
    exact ⟨rfl, hw⟩
  by_cases h3 : 200 < b.length
  · go_enter Tryd.func9, Tryd.ntmps9
    go_wp2_with (go_at_call 31; refine (Mac.alive_any _ hk).mono ?_; rintro e w' ⟨rfl, hw⟩)
    go_ret
    exact ⟨rfl, hw⟩
  have hu : ((UInt64.ofNat a.length).toNat : Int) = (a.length : Int) := by rw [UInt64.toNat_ofNat']; omega
  have hu' : (UInt64.ofNat a.length).toNat = a.length := by rw [UInt64.toNat_ofNat']; omega
  have hpt := Num.rput_any (UInt64.ofNat a.length) _ hu.symm 4 4 rfl (by omega) (by omega) w
  rw [hu'] at hpt
  clear hu hu'
  have hl4 := Num.putL_len a.length 4
  obtain ⟨P4, hP4⟩ : ∃ p, p = Num.putL a.length 4 := ⟨_, rfl⟩
  have htwo := Lib.hid (show Mac.two k a b = Mac.mac k (P4 ++ a ++ b) by rw [Mac.two, hP4])
  rw [← hP4] at hpt hl4
  clear hP4
  have HL4 := Lib.hid hl4
  clear hl4
  have hml := Mac.mac_len k (P4 ++ a ++ b)
  obtain ⟨T, hT⟩ : ∃ T, T = Mac.mac k (P4 ++ a ++ b) := ⟨_, rfl⟩
  rw [← hT] at hml htwo
  have HT := Lib.hid hT
  have HML := Lib.hid hml
  clear hT hml
  go_enter Tryd.func9, Tryd.ntmps9
  go_wp2_with fail
  refine hpt.mono ?_
  clear hpt
  rintro e w1 ⟨A1, c1, rfl, own1, b1⟩
  rw [HL4.out] at own1 ⊢
  go_wp2_with fail
  refine (R1.join_any A1 B P4 a _ _ _ _ w1 HL4.out.symm rfl (Rd.own own1) (hb.on b1) (by rw [HL4.out]; omega)).mono ?_
  rintro e w2 ⟨A2, c2, rfl, own2, b2⟩
  have t2 := bt b1 b2
  have hl2 : (P4 ++ a).length = 4 + a.length := by rw [List.length_append, HL4.out]
  have HL2 := Lib.hid hl2
  rw [hl2] at own2 ⊢
  clear hl2
  go_wp2_with fail
  refine (R1.join_any A2 C (P4 ++ a) b _ _ _ _ w2 HL2.out.symm rfl (Rd.own own2) (hC.on t2) (by rw [HL2.out]; omega)).mono ?_
  rintro e w3 ⟨A3, c3, rfl, own3, b3⟩
  have t3 := bt t2 b3
  have hl3 : (P4 ++ a ++ b).length = 4 + a.length + b.length := by rw [List.length_append, HL2.out]
  have HL3 := Lib.hid hl3
  rw [hl3] at own3 ⊢
  clear hl3
  go_wp2_with fail
  refine (Mac.two_any A B C k a b _ _ _ _ _ _ w3 rfl rfl rfl (ha.on t3) (hb.on t3) (hC.on t3) (by omega) (by omega) (by omega) (hk.on t3)).mono ?_
  rw [htwo.out]
  rintro e w4 ⟨A4, c4, rfl, own4, b4⟩
  rw [HML.out] at own4 ⊢
  have t4 := bt t3 b4
  go_wp2_with fail
  refine (Mac.of_any A A3 k (P4 ++ a ++ b) _ _ _ _ w4 rfl HL3.out.symm (ha.on t4) ((Rd.own own3).on b4) (by omega) (by rw [HL3.out]; omega) (hk.on t4)).mono ?_
  rw [← HT.out]
  rintro e w5 ⟨A5, c5, rfl, own5, b5⟩
  rw [HML.out] at own5 ⊢
  have t5 := bt t4 b5
  go_wp2_with fail
  refine (R1.same_any _ _ T T _ _ _ _ _ HML.out.symm HML.out.symm ((Rd.own own4).on b5) (Rd.own own5) (by rw [HML.out]; omega) (by rw [HML.out]; omega)).mono ?_
  rintro e w6 ⟨rfl, b6⟩
  have t6 := bt t5 b6
  rw [R1.sameB_self]
  have r6 := (Rd.own own4).on (bt b5 b6)
  go_wp2_with fail
  refine (Mac.check_any A A3 A4 k (P4 ++ a ++ b) T _ _ _ _ _ _ w6 rfl HL3.out.symm HML.out.symm (ha.on t6) ((Rd.own own3).on (bt b4 (bt b5 b6))) r6 (by omega) (by rw [HL3.out]; omega) (hk.on t6)).mono ?_
  rw [← HT.out, R1.sameB_self]
  rintro e w7 ⟨rfl, b7⟩
  have t7 := bt t6 b7
  have r7 := r6.on b7
  have r7' : Rd w7 w7.heap.size A4 ((T.take 31).map e8) := by rw [List.map_take]; exact r7.take 31
  have hl31 : (T.take 31).length = 31 := by rw [List.length_take, HML.out]; omega
  have HL31 := Lib.hid hl31
  have hne := Lib.hid (R1.sameB_len (a := T) (b := T.take 31) (by rw [hl31, HML.out]; omega))
  have hcap := own_cap own4
  have hc4 : (31 : Int) ≤ (c4 : Int) := by omega
  clear hl31 hcap
  go_wp2_with fail
  refine (Mac.check_any A A3 A4 k (P4 ++ a ++ b) (T.take 31) _ _ _ _ _ _ w7 rfl HL3.out.symm HL31.out.symm (ha.on t7) ((Rd.own own3).on (bt b4 (bt b5 (bt b6 b7)))) r7' (by omega) (by rw [HL3.out]; omega) (hk.on t7)).mono ?_
  rw [← HT.out, hne.out]
  rintro e w8 ⟨rfl, b8⟩
  have t8 := bt t7 b8
  go_wp2_with (go_at_call 31; refine (Mac.alive_any _ (hk.on t8)).mono ?_; rintro e w' ⟨rfl, hw⟩)
  go_ret
  exact ⟨rfl, bt t8 hw⟩

set_option maxRecDepth 100000 in
theorem contract (H : Type) (enc : TypeId × Value → H) (W : World) (base : Nat) (args : Array Value) (ds gs : List (DataW H)) (before : List MemPlace)
    (hval0 : ∀ (j : Nat) t v, Tryd.f9.params[j]? = some t → args[j]? = some v → Value.okWide Tryd.prog W .any base t v)
    (hW : DataW.Whole enc Tryd.prog Tryd.f9.params.toList Rows.macPartsSpec.vars false W args.toList ds gs before) (hL : laidMetH Tryd.prog Rows.macPartsRow.laid W) :
    Calls Tryd.prog 9 args W fun e W' => ∃ v, e = .returned v ∧ Rows.macPartsSpec.post enc Tryd.prog Tryd.f9 false true false false W args v W' := by
  have hk : Sha.Tab W := Laid.tab hL
  have hval : ∀ (j : Nat) t v, Tryd.f9.params[j]? = some t → args[j]? = some v → Value.okWide Tryd.prog W .any base t v := hval0
  have hW' := hW
  obtain ⟨p, q, hA0, hV, rfl, hfz, hnd⟩ := hW
  have hA : DataW.TrodAll enc Tryd.prog W 0 (fun _ => true) true Tryd.f9.params.toList args.toList ds p := hA0
  rw [Tryd.params9] at hA hval
  obtain ⟨v0, vs0, d0, ds0, p0, q0, hargs, rfl, rfl, h0, r0⟩ := trodAll_cons hA
  obtain ⟨v1, vs1, d1, ds1, p1, q1, rfl, rfl, rfl, h1, r1⟩ := trodAll_cons r0
  obtain ⟨v2, vs2, d2, ds2, p2, q2, rfl, rfl, rfl, h2, r2⟩ := trodAll_cons r1
  obtain ⟨rfl, rfl, rfl⟩ := trodAll_nil r2
  obtain rfl : args = #[v0, v1, v2] := by cases args; simp_all
  obtain ⟨rfl, rfl⟩ := trodVars_none hV
  have k0 := h0
  have lt0 := places_lt k0
  obtain ⟨a0, len0, cap0, rfl⟩ := okWide_slice Tryd.underlying24 (hval 0 24 v0 rfl rfl)
  obtain ⟨fuel0, hf0⟩ := h0
  obtain ⟨l0, rfl, rr0, rc0, rm0⟩ := bytes_of rfl Tryd.underlying24 Tryd.underlying5 (by kernel_rfl) hf0
  have k1 := h1
  have lt1 := places_lt k1
  obtain ⟨a1, len1, cap1, rfl⟩ := okWide_slice Tryd.underlying24 (hval 1 24 v1 rfl rfl)
  obtain ⟨fuel1, hf1⟩ := h1
  obtain ⟨l1, rfl, rr1, rc1, rm1⟩ := bytes_of rfl Tryd.underlying24 Tryd.underlying5 (by kernel_rfl) hf1
  have k2 := h2
  have lt2 := places_lt k2
  obtain ⟨a2, len2, cap2, rfl⟩ := okWide_slice Tryd.underlying24 (hval 2 24 v2 rfl rfl)
  obtain ⟨fuel2, hf2⟩ := h2
  obtain ⟨l2, rfl, rr2, rc2, rm2⟩ := bytes_of rfl Tryd.underlying24 Tryd.underlying5 (by kernel_rfl) hf2
  clear hA0 hval0
  refine (walk a0 l0 cap0 a1 l1 cap1 a2 l2 cap2 W rr0 rc0 rm0 rr1 rc1 rm1 rr2 rc2 rm2 hk).mono fun e W' ⟨he, bel⟩ => ?_
  subst he
  exact ⟨_, rfl, _, _, _, [], _, [], hW', trodAll_mk1 (shut_bool Tryd.underlying4 _), (trodAll_cons_mk (Below.trod laidOut (by kernel_rfl) (of_decide_eq_true (by kernel_rfl)) k0 bel lt0) (trodAll_cons_mk (Below.trod laidOut (by kernel_rfl) (of_decide_eq_true (by kernel_rfl)) k1 bel lt1) (trodAll_cons_mk (Below.trod laidOut (by kernel_rfl) (of_decide_eq_true (by kernel_rfl)) k2 bel lt2) trodAll_mk0))), rfl, bel.frame _, fun h => by cases h⟩

theorem laid_met (os : Os) : laidMet Tryd.prog Rows.macPartsRow.laid ((Laid.laidWorld os).forCall (fun _ _ => 0) ⟨#[], #[.slice none 0 0, .slice none 0 0, .slice none 0 0], []⟩).memory :=
  laidMet_of_run' 8 (by kernel_rfl) (by kernel_rfl)
set_option maxRecDepth 100000 in
theorem lifted (os : Os) (started : os.Started) (H : Type) (enc : TypeId × Value → H) (F : Stop.Interp) :
    ReturnsInHanded {} Tryd.checked os 9 .any ((OpenSpec.ofChange Rows.macPartsSpec).preRow enc Tryd.prog Tryd.f9 Rows.macPartsRow.domain false Rows.macPartsRow.laid) (((OpenSpec.ofChange Rows.macPartsSpec).at F).post enc Tryd.prog Tryd.f9 false true false false) := by
  obtain ⟨x, hx⟩ := Option.isSome_iff_exists.1 (show (DataW.whole enc Tryd.prog ((Laid.laidWorld os).forCall (fun _ _ => 0) ⟨#[], #[.slice none 0 0, .slice none 0 0, .slice none 0 0], []⟩).memory Tryd.f9.params.toList Rows.macPartsSpec.vars false (#[.slice none 0 0, .slice none 0 0, .slice none 0 0] : Array Value).toList 8).isSome = true by kernel_rfl)
  refine returnsInHanded_of_row (C := Tryd.checked) (s := OpenSpec.ofChange Rows.macPartsSpec) own started (by kernel_rfl) Tryd.func9
    (witness_row_at (enc := enc) (C := Tryd.checked) false (Laid.laidWorld os) #[.slice none 0 0, .slice none 0 0, .slice none 0 0] rfl (by kernel_rfl) (by kernel_rfl) (by kernel_rfl)
      (OpenSpec.preRow_of_cond 8 hx (by rfl) (fun k hk => by cases hk) (by kernel_rfl) (laid_met os))) ?_
  intro W base args ds gs before hval hW _ _ _ hL _ _
  exact contract H enc W base args ds gs before hval hW hL
theorem said : Rows.MacPartsSaid :=
  OpenClaim.holds_of_cond 9 Tryd.f9 rfl rfl rfl rfl rfl rfl rfl ⟨rfl, rfl, rfl, rfl, rfl⟩ rfl rfl rfl rfl rfl (by kernel_rfl) Tryd.func9 (by kernel_rfl)
    (of_decide_eq_true (by kernel_rfl)) (by unfold Func.isWrapper; first | (rw [if_pos (by decide +kernel)]; kernel_rfl) | (rw [if_neg (by decide +kernel)]; exact ⟨rfl, rfl⟩))
    (fun os started H enc _ F => by rw [OpenClaim.pre_eq_preRow]; exact lifted os started H enc F)
theorem plain (f : FuncId) (fn : Func) (hf : Tryd.pinned.checked.prog.funcNamed "oubliette/oubliettelaw08.MacParts" = some f) (hfn : Tryd.pinned.checked.prog.funcs[f]? = some fn) :
    false = Tryd.pinned.checked.prog.looks [] ∧ ∀ (j : Nat) t, fn.params[j]? = some t → Tryd.pinned.checked.prog.wantsStandIn t = false := by
  obtain rfl : f = 9 := Option.some.inj ((show Tryd.prog.funcNamed "oubliette/oubliettelaw08.MacParts" = some 9 by kernel_rfl).symm.trans hf) |>.symm
  obtain rfl : fn = Tryd.f9 := (Option.some.inj (Tryd.func9.symm.trans hfn)).symm
  refine ⟨by kernel_rfl, fun j t ht => ?_⟩
  rw [Tryd.params9] at ht
  have hm : t ∈ ([24] : List TypeId) := by have := Array.mem_of_getElem? ht; simp at this ⊢; omega
  have hall : (([24] : List TypeId).all fun u => !Tryd.prog.wantsStandIn u) = true := by kernel_rfl
  exact (show Tryd.prog.wantsStandIn t = false by simpa using List.all_eq_true.1 hall t hm)
theorem proved : Rows.MacPartsCardSaid :=
  Claim7.holds_tied_plain_at .later [] _ _ _ _ said (fun _ h => by cases h) (by kernel_rfl) (fun _ h => by cases h) macParts_row_tie rfl ⟨rfl, rfl⟩ (by kernel_rfl) rfl plain (by kernel_rfl)
#print axioms proved
end Go.Proofs.YtggldbadefbdaaaDoor.MacParts
