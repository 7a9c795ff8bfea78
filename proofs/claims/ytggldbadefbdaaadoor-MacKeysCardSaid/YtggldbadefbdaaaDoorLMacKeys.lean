/- MacKeys: for every input the law returns true: a key of at most 64 bytes, and the same filled up with noughts, make the same tags, and so do a longer one and its sum. No condition. -/
import Derived.Test.YtggldbadefbdaaaDoorMac5
import Derived.Test.YtggldbadefbdaaaDoorOpen
import Derived.Test.YtggldbadefbdaaaDoorTab
namespace Go.Proofs.YtggldbadefbdaaaDoor.MacKeys
open Go.ChangeShapes Go.WideShapes Go.ChangeAt Go.RowKit Go.Joins
open Go.ChangeMaps (open_string shut_string)
set_option linter.unusedVariables false

set_option maxRecDepth 100000 in
set_option maxHeartbeats 1000000 in
theorem walk (A : Option Addr) (k : List UInt8) (c : Nat) (B : Option Addr) (a : List UInt8) (d : Nat) (m : Int) (w : World)
    (ha : Rd w w.heap.size A (k.map e8)) (hc : k.length ≤ c) (hcm : c ≤ maxLen) (hb : Rd w w.heap.size B (a.map e8)) (hd : a.length ≤ d) (hdm : d ≤ maxLen)
    (hm0 : -9223372036854775808 ≤ m) (hm1 : m ≤ 9223372036854775807) (hk : Sha.Tab w) :
    Calls Tryd.prog 7 #[.slice A k.length c, .slice B a.length d, .int .i64 m] w fun e w' => e = .returned (.bool true) ∧ Below w.heap.size w w' := by
  unfold maxLen at hcm hdm
  by_cases h1 : 300 < k.length
  · go_enter Tryd.func7, Tryd.ntmps7
    go_wp2_with (go_at_call 31; refine (Mac.alive_any _ hk).mono ?_; rintro e w' ⟨rfl, hw⟩)
    go_ret
    exact ⟨rfl, hw⟩
  by_cases h2 : 300 < a.length
  · go_enter Tryd.func7, Tryd.ntmps7
    go_wp2_with (go_at_call 31; refine (Mac.alive_any _ hk).mono ?_; rintro e w' ⟨rfl, hw⟩)
    go_ret
    exact ⟨rfl, hw⟩
  have m1 : (Mac.mac k a).length ≤ 32 := by rw [Mac.mac_len]; omega
  have m2 := Mac.key_len k
  have q1 := Lib.hid (Mac.mac_key k a)
  obtain ⟨K, hK⟩ : ∃ K, K = Mac.key k := ⟨_, rfl⟩
  rw [← hK] at m2 q1
  have HK := Lib.hid hK
  have M2 := Lib.hid m2
  clear hK m2
  obtain ⟨i0, hi0, hz0, hz1, hz2⟩ := info_parts Num.info8
  have alone : ∀ (w9 : World), Below w.heap.size w w9 → Sha.Tab w9 := fun w9 b => hk.on b
  by_cases h5 : k.length < 64 ∧ 0 ≤ m ∧ m ≤ 64 - (k.length : Int)
  · obtain ⟨h5, h6, h7⟩ := h5
    obtain ⟨z, rfl⟩ := Int.eq_ofNat_of_zero_le h6
    have h7' : k.length + z ≤ 64 := by omega
    have q2 := Lib.hid (Mac.mac_zeros k a z h7')
    go_enter Tryd.func7, Tryd.ntmps7
    go_wp2_with fail
    refine (Mac.key_any A k _ _ w rfl ha (by omega) hk).mono ?_
    rintro e w1 ⟨A1, c1, rfl, own1, b1⟩
    rw [← HK.out, M2.out] at own1
    rw [← HK.out, M2.out]
    go_wp2_with fail
    refine (Mac.of_any A1 B K a _ _ _ _ w1 M2.out.symm rfl (Rd.own own1) (hb.on b1) (by rw [M2.out]; omega) (by omega) (hk.on b1)).mono ?_
    rw [q1.out]
    rintro e w2 ⟨A2, c2, rfl, own2, b2⟩
    have t2 := bt b1 b2
    go_wp2_with fail
    refine (Mac.of_any A B k a _ _ _ _ w2 rfl rfl (ha.on t2) (hb.on t2) (by omega) (by omega) (hk.on t2)).mono ?_
    rintro e w3 ⟨A3, c3, rfl, own3, b3⟩
    have t3 := bt t2 b3
    go_wp2_with fail
    refine (R1.same_any _ _ (Mac.mac k a) (Mac.mac k a) _ _ _ _ _ rfl rfl ((Rd.own own2).on b3) (Rd.own own3) (by omega) (by omega)).mono ?_
    rintro e w4 ⟨rfl, b4⟩
    have t4 := bt t3 b4
    rw [R1.sameB_self]
    have hzz : (z : Int) ≤ 64 - (k.length : Int) := by omega
    go_wp2_with (at_make; refine wpList_makeN rfl _ _ _ rfl Tryd.underlying24 hi0 hz0 hz1 z z rfl rfl rfl rfl (Nat.le_refl _) (by rw [hz2]; omega) (by unfold maxLen; omega) ?_; intro w5 own5 b5 hs5)
    have t5 := bt t4 b5
    have own5' : w5.ownsRow w4.heap.size 5 1 (.slice (some ⟨w4.heap.size, 0, none⟩) z z) z ((List.replicate z (0 : UInt8)).map e8) := by rw [List.map_replicate]; exact own5
    have r5 := Rd.own own5'
    refine (R1.join_any A _ k (List.replicate z 0) _ _ _ _ w5 rfl (by rw [List.length_replicate]) (ha.on t5) r5 (by rw [List.length_replicate]; omega)).mono ?_
    rintro e w6 ⟨A6, c6, rfl, own6, b6⟩
    have t6 := bt t5 b6
    have hl6 : (k ++ List.replicate z (0 : UInt8)).length = k.length + z := by rw [List.length_append, List.length_replicate]
    rw [hl6] at own6 ⊢
    have Hl6 := Lib.hid hl6
    clear hl6 own5 own5' r5
    go_wp2_with fail
    refine (Mac.of_any A6 B (k ++ List.replicate z 0) a _ _ _ _ w6 Hl6.out.symm rfl (Rd.own own6) (hb.on t6) (by rw [Hl6.out]; omega) (by omega) (hk.on t6)).mono ?_
    rw [q2.out]
    rintro e w7 ⟨A7, c7, rfl, own7, b7⟩
    have t7 := bt t6 b7
    go_wp2_with fail
    refine (Mac.of_any A B k a _ _ _ _ w7 rfl rfl (ha.on t7) (hb.on t7) (by omega) (by omega) (hk.on t7)).mono ?_
    rintro e w8 ⟨A8, c8, rfl, own8, b8⟩
    have t8 := bt t7 b8
    go_wp2_with fail
    refine (R1.same_any _ _ (Mac.mac k a) (Mac.mac k a) _ _ _ _ _ rfl rfl ((Rd.own own7).on b8) (Rd.own own8) (by omega) (by omega)).mono ?_
    rintro e w9 ⟨rfl, b9⟩
    have t9 := bt t8 b9
    rw [R1.sameB_self]
    go_wp2_with (go_at_call 31; refine (Mac.alive_any _ (hk.on t9)).mono ?_; rintro e w' ⟨rfl, hw⟩)
    go_ret
    exact ⟨rfl, bt t9 hw⟩
  · go_enter Tryd.func7, Tryd.ntmps7
    go_wp2_with fail
    refine (Mac.key_any A k _ _ w rfl ha (by omega) hk).mono ?_
    rintro e w1 ⟨A1, c1, rfl, own1, b1⟩
    rw [← HK.out, M2.out] at own1
    rw [← HK.out, M2.out]
    go_wp2_with fail
    refine (Mac.of_any A1 B K a _ _ _ _ w1 M2.out.symm rfl (Rd.own own1) (hb.on b1) (by rw [M2.out]; omega) (by omega) (hk.on b1)).mono ?_
    rw [q1.out]
    rintro e w2 ⟨A2, c2, rfl, own2, b2⟩
    have t2 := bt b1 b2
    go_wp2_with fail
    refine (Mac.of_any A B k a _ _ _ _ w2 rfl rfl (ha.on t2) (hb.on t2) (by omega) (by omega) (hk.on t2)).mono ?_
    rintro e w3 ⟨A3, c3, rfl, own3, b3⟩
    have t3 := bt t2 b3
    go_wp2_with fail
    refine (R1.same_any _ _ (Mac.mac k a) (Mac.mac k a) _ _ _ _ _ rfl rfl ((Rd.own own2).on b3) (Rd.own own3) (by omega) (by omega)).mono ?_
    rintro e w4 ⟨rfl, b4⟩
    have t4 := bt t3 b4
    rw [R1.sameB_self]
    go_wp2_with (go_at_call 31; refine (Mac.alive_any _ (hk.on t4)).mono ?_; rintro e w' ⟨rfl, hw⟩)
    all_goals (go_ret; exact ⟨rfl, bt t4 hw⟩)

set_option maxRecDepth 100000 in
theorem contract (H : Type) (enc : TypeId × Value → H) (W : World) (base : Nat) (args : Array Value) (ds gs : List (DataW H)) (before : List MemPlace)
    (hval0 : ∀ (j : Nat) t v, Tryd.f7.params[j]? = some t → args[j]? = some v → Value.okWide Tryd.prog W .any base t v)
    (hW : DataW.Whole enc Tryd.prog Tryd.f7.params.toList Rows.macKeysSpec.vars false W args.toList ds gs before) (hL : laidMetH Tryd.prog Rows.macKeysRow.laid W) :
    Calls Tryd.prog 7 args W fun e W' => ∃ v, e = .returned v ∧ Rows.macKeysSpec.post enc Tryd.prog Tryd.f7 false true false false W args v W' := by
  have hk : Sha.Tab W := Laid.tab hL
  have hval : ∀ (j : Nat) t v, Tryd.f7.params[j]? = some t → args[j]? = some v → Value.okWide Tryd.prog W .any base t v := hval0
  have hW' := hW
  obtain ⟨p, q, hA0, hV, rfl, hfz, hnd⟩ := hW
  have hA : DataW.TrodAll enc Tryd.prog W 0 (fun _ => true) true Tryd.f7.params.toList args.toList ds p := hA0
  rw [Tryd.params7] at hA hval
  obtain ⟨v0, vs0, d0, ds0, p0, q0, hargs, rfl, rfl, h0, r0⟩ := trodAll_cons hA
  obtain ⟨v1, vs1, d1, ds1, p1, q1, rfl, rfl, rfl, h1, r1⟩ := trodAll_cons r0
  obtain ⟨v2, vs2, d2, ds2, p2, q2, rfl, rfl, rfl, h2, r2⟩ := trodAll_cons r1
  obtain ⟨rfl, rfl, rfl⟩ := trodAll_nil r2
  obtain rfl : args = #[v0, v1, v2] := by cases args; simp_all
  obtain ⟨rfl, rfl⟩ := trodVars_none hV
  have k0 := h0
  have lt0 := places_lt k0
  obtain ⟨a0, len0, cap0, rfl⟩ := okWide_slice Tryd.underlying24 (hval 0 24 v0 rfl rfl)
  obtain ⟨fuel0, hf0⟩ := h0
  obtain ⟨l0, rfl, rr0, rc0, rm0⟩ := bytes_of rfl Tryd.underlying24 Tryd.underlying5 (by kernel_rfl) hf0
  have k1 := h1
  have lt1 := places_lt k1
  obtain ⟨a1, len1, cap1, rfl⟩ := okWide_slice Tryd.underlying24 (hval 1 24 v1 rfl rfl)
  obtain ⟨fuel1, hf1⟩ := h1
  obtain ⟨l1, rfl, rr1, rc1, rm1⟩ := bytes_of rfl Tryd.underlying24 Tryd.underlying5 (by kernel_rfl) hf1
  have k2 := h2
  have lt2 := places_lt k2
  obtain ⟨n2, rfl, _, _, w2⟩ := open_int Tryd.underlying3 (hval 2 3 v2 rfl rfl) h2
  clear hA0 hval0
  refine (walk a0 l0 cap0 a1 l1 cap1 n2 W rr0 rc0 rm0 rr1 rc1 rm1 (wfi w2).1 (wfi w2).2 hk).mono fun e W' ⟨he, bel⟩ => ?_
  subst he
  exact ⟨_, rfl, _, _, _, [], _, [], hW', trodAll_mk1 (shut_bool Tryd.underlying4 _), (trodAll_cons_mk (Below.trod laidOut (by kernel_rfl) (of_decide_eq_true (by kernel_rfl)) k0 bel lt0) (trodAll_cons_mk (Below.trod laidOut (by kernel_rfl) (of_decide_eq_true (by kernel_rfl)) k1 bel lt1) (trodAll_cons_mk (Below.trod laidOut (by kernel_rfl) (of_decide_eq_true (by kernel_rfl)) k2 bel lt2) trodAll_mk0))), rfl, bel.frame _, fun h => by cases h⟩

theorem laid_met (os : Os) : laidMet Tryd.prog Rows.macKeysRow.laid ((Laid.laidWorld os).forCall (fun _ _ => 0) ⟨#[], #[.slice none 0 0, .slice none 0 0, .int .i64 0], []⟩).memory :=
  laidMet_of_run' 8 (by kernel_rfl) (by kernel_rfl)
set_option maxRecDepth 100000 in
theorem lifted (os : Os) (started : os.Started) (H : Type) (enc : TypeId × Value → H) (F : Stop.Interp) :
    ReturnsInHanded {} Tryd.checked os 7 .any ((OpenSpec.ofChange Rows.macKeysSpec).preRow enc Tryd.prog Tryd.f7 Rows.macKeysRow.domain false Rows.macKeysRow.laid) (((OpenSpec.ofChange Rows.macKeysSpec).at F).post enc Tryd.prog Tryd.f7 false true false false) := by
  obtain ⟨x, hx⟩ := Option.isSome_iff_exists.1 (show (DataW.whole enc Tryd.prog ((Laid.laidWorld os).forCall (fun _ _ => 0) ⟨#[], #[.slice none 0 0, .slice none 0 0, .int .i64 0], []⟩).memory Tryd.f7.params.toList Rows.macKeysSpec.vars false (#[.slice none 0 0, .slice none 0 0, .int .i64 0] : Array Value).toList 8).isSome = true by kernel_rfl)
  refine returnsInHanded_of_row (C := Tryd.checked) (s := OpenSpec.ofChange Rows.macKeysSpec) own started (by kernel_rfl) Tryd.func7
    (witness_row_at (enc := enc) (C := Tryd.checked) false (Laid.laidWorld os) #[.slice none 0 0, .slice none 0 0, .int .i64 0] rfl (by kernel_rfl) (by kernel_rfl) (by kernel_rfl)
      (OpenSpec.preRow_of_cond 8 hx (by rfl) (fun k hk => by cases hk) (by kernel_rfl) (laid_met os))) ?_
  intro W base args ds gs before hval hW _ _ _ hL _ _
  exact contract H enc W base args ds gs before hval hW hL
theorem said : Rows.MacKeysSaid :=
  OpenClaim.holds_of_cond 7 Tryd.f7 rfl rfl rfl rfl rfl rfl rfl ⟨rfl, rfl, rfl, rfl, rfl⟩ rfl rfl rfl rfl rfl (by kernel_rfl) Tryd.func7 (by kernel_rfl)
    (of_decide_eq_true (by kernel_rfl)) (by unfold Func.isWrapper; first | (rw [if_pos (by decide +kernel)]; kernel_rfl) | (rw [if_neg (by decide +kernel)]; exact ⟨rfl, rfl⟩))
    (fun os started H enc _ F => by rw [OpenClaim.pre_eq_preRow]; exact lifted os started H enc F)
theorem plain (f : FuncId) (fn : Func) (hf : Tryd.pinned.checked.prog.funcNamed "oubliette/oubliettelaw08.MacKeys" = some f) (hfn : Tryd.pinned.checked.prog.funcs[f]? = some fn) :
    false = Tryd.pinned.checked.prog.looks [] ∧ ∀ (j : Nat) t, fn.params[j]? = some t → Tryd.pinned.checked.prog.wantsStandIn t = false := by
  obtain rfl : f = 7 := Option.some.inj ((show Tryd.prog.funcNamed "oubliette/oubliettelaw08.MacKeys" = some 7 by kernel_rfl).symm.trans hf) |>.symm
  obtain rfl : fn = Tryd.f7 := (Option.some.inj (Tryd.func7.symm.trans hfn)).symm
  refine ⟨by kernel_rfl, fun j t ht => ?_⟩
  rw [Tryd.params7] at ht
  have hm : t ∈ ([3, 24] : List TypeId) := by have := Array.mem_of_getElem? ht; simp at this; first | (subst this; simp) | (rcases this with h | h <;> simp [h]) | (rcases this with h | h | h <;> simp [h]) | (rcases this with h | h | h | h <;> simp [h]) | (rcases this with h | h | h | h | h <;> simp [h])
  have hall : (([3, 24] : List TypeId).all fun u => !Tryd.prog.wantsStandIn u) = true := by kernel_rfl
  exact (show Tryd.prog.wantsStandIn t = false by simpa using List.all_eq_true.1 hall t hm)
theorem proved : Rows.MacKeysCardSaid :=
  Claim7.holds_tied_plain_at .later [] _ _ _ _ said (fun _ h => by cases h) (by kernel_rfl) (fun _ h => by cases h) macKeys_row_tie rfl ⟨rfl, rfl⟩ (by kernel_rfl) rfl plain (by kernel_rfl)
#print axioms proved
end Go.Proofs.YtggldbadefbdaaaDoor.MacKeys
