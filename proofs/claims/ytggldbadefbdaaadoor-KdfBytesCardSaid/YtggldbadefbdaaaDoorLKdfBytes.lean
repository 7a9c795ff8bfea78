/- KdfBytes: for every input the law returns true: what is extracted of any secret, and expanded of any key. No condition. -/
import Derived.Test.YtggldbadefbdaaaDoorKdf6
import Derived.Test.YtggldbadefbdaaaDoorOpen
import Derived.Test.YtggldbadefbdaaaDoorTab
namespace Go.Proofs.YtggldbadefbdaaaDoor.KdfBytes
open Go.ChangeShapes Go.WideShapes Go.ChangeAt Go.RowKit Go.Joins
open Go.ChangeMaps (open_string shut_string)
open Go.Proofs.YtggldbadefbdaaaDoor.Kdf (RetR)
set_option linter.unusedVariables false

set_option maxRecDepth 100000 in
set_option maxHeartbeats 1000000 in
theorem walk (A : Option Addr) (k : List UInt8) (c : Nat) (B : Option Addr) (a : List UInt8) (d : Nat) (C : Option Addr) (b : List UInt8) (f : Nat) (z : Int) (w : World)
    (ha : Rd w w.heap.size A (k.map e8)) (hc : k.length ≤ c) (hcm : c ≤ maxLen) (hb : Rd w w.heap.size B (a.map e8)) (hd : a.length ≤ d) (hdm : d ≤ maxLen)
    (hC : Rd w w.heap.size C (b.map e8)) (hf : b.length ≤ f) (hfm : f ≤ maxLen) (hz0 : -9223372036854775808 ≤ z) (hz1 : z ≤ 9223372036854775807) (hk : Sha.Tab w) :
    Calls Tryd.prog 10 #[.slice A k.length c, .slice B a.length d, .slice C b.length f, .int .i64 z] w fun e w' => e = .returned (.bool true) ∧ Below w.heap.size w w' := by
  unfold maxLen at hcm hdm hfm
  by_cases h1 : 200 < k.length
  · go_enter Tryd.func10, Tryd.ntmps10
    go_wp2_with (go_at_call 39; refine (Kdf.alive_any _ hk).mono ?_; rintro e w' ⟨rfl, hw⟩)
    go_ret
    exact ⟨rfl, hw⟩
  by_cases h2 : 200 < a.length
  · go_enter Tryd.func10, Tryd.ntmps10
    go_wp2_with (go_at_call 39; refine (Kdf.alive_any _ hk).mono ?_; rintro e w' ⟨rfl, hw⟩)
    go_ret
    exact ⟨rfl, hw⟩
  by_cases h3 : 200 < b.length
  · go_enter Tryd.func10, Tryd.ntmps10
    go_wp2_with (go_at_call 39; refine (Kdf.alive_any _ hk).mono ?_; rintro e w' ⟨rfl, hw⟩)
    go_ret
    exact ⟨rfl, hw⟩
  by_cases h4 : 300 < z ∧ z ≤ 8160
  · obtain ⟨h4a, h4b⟩ := h4
    go_enter Tryd.func10, Tryd.ntmps10
    go_wp2_with (go_at_call 39; refine (Kdf.alive_any _ hk).mono ?_; rintro e w' ⟨rfl, hw⟩)
    go_ret
    exact ⟨rfl, hw⟩
  have m1 : (Mac.mac k a).length ≤ 32 := by rw [Mac.mac_len]; omega
  have hE : ∃ (l : List UInt8) (q : Int), l.length ≤ 300 ∧ (∀ w', Below w.heap.size w w' → Calls Tryd.prog 40 #[.slice B a.length d, .slice C b.length f, .int .i64 z] w' fun e w2 => RetR w' l q e w2) ∧
      (∀ w', Below w.heap.size w w' → Calls Tryd.prog 41 #[.slice B a.length d, .slice C b.length f, .int .i64 z] w' fun e w2 => RetR w' l q e w2) := by
    by_cases h5 : 1 ≤ z ∧ z ≤ 8160
    · have hs : z = ((z.toNat : Nat) : Int) := by omega
      refine ⟨Kdf.expand a b z.toNat, 0, by rw [Kdf.expand_len]; omega, fun w' hw => ?_, fun w' hw => ?_⟩
      · exact Kdf.expand_yes B C a b _ d _ f z.toNat z hs (by omega) (by omega) w' rfl rfl (hb.on hw) (hC.on hw) (by omega) (by omega) (hk.on hw)
      · exact Kdf.rexpand_yes B C a b _ d _ f z.toNat z hs (by omega) (by omega) w' rfl rfl (hb.on hw) (hC.on hw) (by omega) (by omega)
    · refine ⟨[], 2, by simp, fun w' hw => ?_, fun w' hw => ?_⟩
      · exact Kdf.expand_no B C _ d _ f z hz0 hz1 (by omega) w'
      · exact Kdf.rexpand_no B C _ d _ f z hz0 hz1 (by omega) w'
  obtain ⟨l, q, hl, e1, e2⟩ := hE
  have E1 := Lib.hid e1
  have E2 := Lib.hid e2
  clear e1 e2
  have h5 : (300 < z) = False ∨ ((300 < z) = True ∧ (z ≤ 8160) = False) := by
    by_cases h : 300 < z
    · exact .inr ⟨eq_true h, eq_false (fun h' => h4 ⟨h, h'⟩)⟩
    · exact .inl (eq_false h)
  clear h4
  rcases h5 with h5 | ⟨h5, h6⟩
  all_goals
    go_enter Tryd.func10, Tryd.ntmps10
    go_wp2_with fail
    refine (E1.out w (Below.refl _ _)).mono ?_
    rintro e w1 ⟨A1, c1, rfl, r1, p1, p2, b1⟩
    unfold maxLen at p2
    go_wp2_with fail
    refine (E2.out w1 b1).mono ?_
    rintro e w2 ⟨A2, c2, rfl, r2, p3, p4, b2⟩
    unfold maxLen at p4
    have t2 := bt b1 b2
    go_wp2_with fail
    refine (Kdf.extract_any A B k a _ _ _ _ w2 rfl rfl (ha.on t2) (hb.on t2) (by omega) (by omega) (hk.on t2)).mono ?_
    rintro e w3 ⟨A3, c3, rfl, own3, b3⟩
    have t3 := bt t2 b3
    go_wp2_with fail
    refine (Mac.rof_any A B k a _ _ _ _ w3 rfl rfl (ha.on t3) (hb.on t3) (by omega) (by omega)).mono ?_
    rintro e w4 ⟨A4, c4, rfl, own4, b4⟩
    have t4 := bt t3 b4
    go_wp2_with fail
    refine (R1.same_any _ _ (Mac.mac k a) (Mac.mac k a) _ _ _ _ _ rfl rfl ((Rd.own own3).on b4) (Rd.own own4) (by omega) (by omega)).mono ?_
    rintro e w5 ⟨rfl, b5⟩
    have t5 := bt t4 b5
    have b25 := bt b3 (bt b4 b5)
    rw [R1.sameB_self]
    go_wp2_with fail
    refine (R1.same_any _ _ l l _ _ _ _ w5 rfl rfl (r1.on (bt b2 b25)) (r2.on b25) (by omega) (by omega)).mono ?_
    rintro e w6 ⟨rfl, b6⟩
    have t6 := bt t5 b6
    rw [R1.sameB_self]
    go_wp2_with (go_at_call 39; refine (Kdf.alive_any _ (hk.on t6)).mono ?_; rintro e w' ⟨rfl, hw⟩)
    go_ret
    exact ⟨rfl, bt t6 hw⟩

set_option maxRecDepth 100000 in
theorem contract (H : Type) (enc : TypeId × Value → H) (W : World) (base : Nat) (args : Array Value) (ds gs : List (DataW H)) (before : List MemPlace)
    (hval0 : ∀ (j : Nat) t v, Tryd.f10.params[j]? = some t → args[j]? = some v → Value.okWide Tryd.prog W .any base t v)
    (hW : DataW.Whole enc Tryd.prog Tryd.f10.params.toList Rows.kdfBytesSpec.vars false W args.toList ds gs before) (hL : laidMetH Tryd.prog Rows.kdfBytesRow.laid W) :
    Calls Tryd.prog 10 args W fun e W' => ∃ v, e = .returned v ∧ Rows.kdfBytesSpec.post enc Tryd.prog Tryd.f10 false true false false W args v W' := by
  have hk : Sha.Tab W := Laid.tab hL
  have hval : ∀ (j : Nat) t v, Tryd.f10.params[j]? = some t → args[j]? = some v → Value.okWide Tryd.prog W .any base t v := hval0
  have hW' := hW
  obtain ⟨p, q, hA0, hV, rfl, hfz, hnd⟩ := hW
  have hA : DataW.TrodAll enc Tryd.prog W 0 (fun _ => true) true Tryd.f10.params.toList args.toList ds p := hA0
  rw [Tryd.params10] at hA hval
  obtain ⟨v0, vs0, d0, ds0, p0, q0, hargs, rfl, rfl, h0, r0⟩ := trodAll_cons hA
  obtain ⟨v1, vs1, d1, ds1, p1, q1, rfl, rfl, rfl, h1, r1⟩ := trodAll_cons r0
  obtain ⟨v2, vs2, d2, ds2, p2, q2, rfl, rfl, rfl, h2, r2⟩ := trodAll_cons r1
  obtain ⟨v3, vs3, d3, ds3, p3, q3, rfl, rfl, rfl, h3, r3⟩ := trodAll_cons r2
  obtain ⟨rfl, rfl, rfl⟩ := trodAll_nil r3
  obtain rfl : args = #[v0, v1, v2, v3] := by cases args; simp_all
  obtain ⟨rfl, rfl⟩ := trodVars_none hV
  have k0 := h0
  have lt0 := places_lt k0
  obtain ⟨a0, len0, cap0, rfl⟩ := okWide_slice Tryd.underlying24 (hval 0 24 v0 rfl rfl)
  obtain ⟨fuel0, hf0⟩ := h0
  obtain ⟨l0, rfl, rr0, rc0, rm0⟩ := bytes_of rfl Tryd.underlying24 Tryd.underlying5 (by kernel_rfl) hf0
  have k1 := h1
  have lt1 := places_lt k1
  obtain ⟨a1, len1, cap1, rfl⟩ := okWide_slice Tryd.underlying24 (hval 1 24 v1 rfl rfl)
  obtain ⟨fuel1, hf1⟩ := h1
  obtain ⟨l1, rfl, rr1, rc1, rm1⟩ := bytes_of rfl Tryd.underlying24 Tryd.underlying5 (by kernel_rfl) hf1
  have k2 := h2
  have lt2 := places_lt k2
  obtain ⟨a2, len2, cap2, rfl⟩ := okWide_slice Tryd.underlying24 (hval 2 24 v2 rfl rfl)
  obtain ⟨fuel2, hf2⟩ := h2
  obtain ⟨l2, rfl, rr2, rc2, rm2⟩ := bytes_of rfl Tryd.underlying24 Tryd.underlying5 (by kernel_rfl) hf2
  have k3 := h3
  have lt3 := places_lt k3
  obtain ⟨n3, rfl, _, _, w3⟩ := open_int Tryd.underlying3 (hval 3 3 v3 rfl rfl) h3
  clear hA0 hval0
  refine (walk a0 l0 cap0 a1 l1 cap1 a2 l2 cap2 n3 W rr0 rc0 rm0 rr1 rc1 rm1 rr2 rc2 rm2 (wfi w3).1 (wfi w3).2 hk).mono fun e W' ⟨he, bel⟩ => ?_
  subst he
  exact ⟨_, rfl, _, _, _, [], _, [], hW', trodAll_mk1 (shut_bool Tryd.underlying4 _), (trodAll_cons_mk (Below.trod laidOut (by kernel_rfl) (of_decide_eq_true (by kernel_rfl)) k0 bel lt0) (trodAll_cons_mk (Below.trod laidOut (by kernel_rfl) (of_decide_eq_true (by kernel_rfl)) k1 bel lt1) (trodAll_cons_mk (Below.trod laidOut (by kernel_rfl) (of_decide_eq_true (by kernel_rfl)) k2 bel lt2) (trodAll_cons_mk (Below.trod laidOut (by kernel_rfl) (of_decide_eq_true (by kernel_rfl)) k3 bel lt3) trodAll_mk0)))), rfl, bel.frame _, fun h => by cases h⟩

theorem laid_met (os : Os) : laidMet Tryd.prog Rows.kdfBytesRow.laid ((Laid.laidWorld os).forCall (fun _ _ => 0) ⟨#[], #[.slice none 0 0, .slice none 0 0, .slice none 0 0, .int .i64 0], []⟩).memory :=
  laidMet_of_run' 8 (by kernel_rfl) (by kernel_rfl)
set_option maxRecDepth 100000 in
theorem lifted (os : Os) (started : os.Started) (H : Type) (enc : TypeId × Value → H) (F : Stop.Interp) :
    ReturnsInHanded {} Tryd.checked os 10 .any ((OpenSpec.ofChange Rows.kdfBytesSpec).preRow enc Tryd.prog Tryd.f10 Rows.kdfBytesRow.domain false Rows.kdfBytesRow.laid) (((OpenSpec.ofChange Rows.kdfBytesSpec).at F).post enc Tryd.prog Tryd.f10 false true false false) := by
  obtain ⟨x, hx⟩ := Option.isSome_iff_exists.1 (show (DataW.whole enc Tryd.prog ((Laid.laidWorld os).forCall (fun _ _ => 0) ⟨#[], #[.slice none 0 0, .slice none 0 0, .slice none 0 0, .int .i64 0], []⟩).memory Tryd.f10.params.toList Rows.kdfBytesSpec.vars false (#[.slice none 0 0, .slice none 0 0, .slice none 0 0, .int .i64 0] : Array Value).toList 8).isSome = true by kernel_rfl)
  refine returnsInHanded_of_row (C := Tryd.checked) (s := OpenSpec.ofChange Rows.kdfBytesSpec) own started (by kernel_rfl) Tryd.func10
    (witness_row_at (enc := enc) (C := Tryd.checked) false (Laid.laidWorld os) #[.slice none 0 0, .slice none 0 0, .slice none 0 0, .int .i64 0] rfl (by kernel_rfl) (by kernel_rfl) (by kernel_rfl)
      (OpenSpec.preRow_of_cond 8 hx (by rfl) (fun k hk => by cases hk) (by kernel_rfl) (laid_met os))) ?_
  intro W base args ds gs before hval hW _ _ _ hL _ _
  exact contract H enc W base args ds gs before hval hW hL
theorem said : Rows.KdfBytesSaid :=
  OpenClaim.holds_of_cond 10 Tryd.f10 rfl rfl rfl rfl rfl rfl rfl ⟨rfl, rfl, rfl, rfl, rfl⟩ rfl rfl rfl rfl rfl (by kernel_rfl) Tryd.func10 (by kernel_rfl)
    (of_decide_eq_true (by kernel_rfl)) (by unfold Func.isWrapper; first | (rw [if_pos (by decide +kernel)]; kernel_rfl) | (rw [if_neg (by decide +kernel)]; exact ⟨rfl, rfl⟩))
    (fun os started H enc _ F => by rw [OpenClaim.pre_eq_preRow]; exact lifted os started H enc F)
theorem plain (f : FuncId) (fn : Func) (hf : Tryd.pinned.checked.prog.funcNamed "oubliette/oubliettelaw09.KdfBytes" = some f) (hfn : Tryd.pinned.checked.prog.funcs[f]? = some fn) :
    false = Tryd.pinned.checked.prog.looks [] ∧ ∀ (j : Nat) t, fn.params[j]? = some t → Tryd.pinned.checked.prog.wantsStandIn t = false := by
  obtain rfl : f = 10 := Option.some.inj ((show Tryd.prog.funcNamed "oubliette/oubliettelaw09.KdfBytes" = some 10 by kernel_rfl).symm.trans hf) |>.symm
  obtain rfl : fn = Tryd.f10 := (Option.some.inj (Tryd.func10.symm.trans hfn)).symm
  refine ⟨by kernel_rfl, fun j t ht => ?_⟩
  rw [Tryd.params10] at ht
  have hm : t ∈ ([3, 24] : List TypeId) := by have := Array.mem_of_getElem? ht; simp at this; first | (subst this; simp) | (rcases this with h | h <;> simp [h]) | (rcases this with h | h | h <;> simp [h]) | (rcases this with h | h | h | h <;> simp [h]) | (rcases this with h | h | h | h | h <;> simp [h])
  have hall : (([3, 24] : List TypeId).all fun u => !Tryd.prog.wantsStandIn u) = true := by kernel_rfl
  exact (show Tryd.prog.wantsStandIn t = false by simpa using List.all_eq_true.1 hall t hm)
theorem proved : Rows.KdfBytesCardSaid :=
  Claim7.holds_tied_plain_at .later [] _ _ _ _ said (fun _ h => by cases h) (by kernel_rfl) (fun _ h => by cases h) kdfBytes_row_tie rfl ⟨rfl, rfl⟩ (by kernel_rfl) rfl plain (by kernel_rfl)
#print axioms proved
end Go.Proofs.YtggldbadefbdaaaDoor.KdfBytes
