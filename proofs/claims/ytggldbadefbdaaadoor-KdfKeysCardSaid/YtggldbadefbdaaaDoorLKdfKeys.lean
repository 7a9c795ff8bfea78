/- KdfKeys: for every input the law returns true: which keys are derived of any one by any label, once and often, and mixed of two. No condition. -/
import Derived.Test.YtggldbadefbdaaaDoorKdf6
import Derived.Test.YtggldbadefbdaaaDoorOpen
import Derived.Test.YtggldbadefbdaaaDoorTab
namespace Go.Proofs.YtggldbadefbdaaaDoor.KdfKeys
open Go.ChangeShapes Go.WideShapes Go.ChangeAt Go.RowKit Go.Joins
open Go.ChangeMaps (open_string shut_string)
open Go.Proofs.YtggldbadefbdaaaDoor.Kdf (RetD)
set_option linter.unusedVariables false

set_option maxRecDepth 100000 in
set_option maxHeartbeats 1000000 in
theorem walk (A : Option Addr) (k : List UInt8) (c : Nat) (B : Option Addr) (a : List UInt8) (d : Nat) (s : ByteArray) (z : Int) (w : World)
    (ha : Rd w w.heap.size A (k.map e8)) (hc : k.length ≤ c) (hcm : c ≤ maxLen) (hb : Rd w w.heap.size B (a.map e8)) (hd : a.length ≤ d) (hdm : d ≤ maxLen)
    (hs : s.size ≤ maxLen) (hz0 : -9223372036854775808 ≤ z) (hz1 : z ≤ 9223372036854775807) (hk : Sha.Tab w) :
    Calls Tryd.prog 12 #[.slice A k.length c, .slice B a.length d, .string s, .int .i64 z] w fun e w' => e = .returned (.bool true) ∧ Below w.heap.size w w' := by
  unfold maxLen at hcm hdm hs
  obtain ⟨lab, rfl⟩ : ∃ l : List UInt8, s = ⟨l.toArray⟩ := ⟨s.data.toList, by simp⟩
  have hsz := Kdf.ba_size lab
  rw [hsz] at hs
  by_cases h1 : 200 < k.length
  · go_enter Tryd.func12, Tryd.ntmps12
    go_wp2_with (go_at_call 39; refine (Kdf.alive_any _ hk).mono ?_; rintro e w' ⟨rfl, hw⟩)
    go_ret
    exact ⟨rfl, hw⟩
  by_cases h2 : 200 < a.length
  · go_enter Tryd.func12, Tryd.ntmps12
    go_wp2_with (go_at_call 39; refine (Kdf.alive_any _ hk).mono ?_; rintro e w' ⟨rfl, hw⟩)
    go_ret
    exact ⟨rfl, hw⟩
  by_cases h3 : 400 < lab.length
  · go_enter Tryd.func12, Tryd.ntmps12
    go_wp2_with (go_at_call 39; refine (Kdf.alive_any _ hk).mono ?_; rintro e w' ⟨rfl, hw⟩)
    go_ret
    exact ⟨rfl, hw⟩
  by_cases h4 : 6 < z
  · go_enter Tryd.func12, Tryd.ntmps12
    go_wp2_with (go_at_call 39; refine (Kdf.alive_any _ hk).mono ?_; rintro e w' ⟨rfl, hw⟩)
    go_ret
    exact ⟨rfl, hw⟩
  have m1 : (Mac.mac k a).length ≤ 32 := by rw [Mac.mac_len]; omega
  obtain ⟨m, hm⟩ : ∃ m : Nat, min (max z 0) 1000 = (m : Int) := ⟨(min (max z 0) 1000).toNat, by omega⟩
  have hm6 := Kdf.chain_le k lab m
  have hch := Lib.hid (fun (W : World) (hW : Below w.heap.size w W) => Kdf.chain_any A k lab _ c z W m hm rfl (ha.on hW) (by omega) (by omega) (hk.on hW))
  have hrch := Lib.hid (fun (W : World) (hW : Below w.heap.size w W) => Kdf.rchain_any A k lab _ c z W m hm rfl (ha.on hW) (by omega) (by omega))
  have hde := Lib.hid (fun (W : World) (hW : Below w.heap.size w W) => Kdf.derive_any A k lab _ c W rfl (ha.on hW) (by omega) (by omega) (hk.on hW))
  have hrde := Lib.hid (fun (W : World) (hW : Below w.heap.size w W) => Kdf.rderive_any A k lab _ c W rfl (ha.on hW) (by omega) (by omega))
  have hdl : (Kdf.derive k lab).length ≤ 32 := by rw [Kdf.derive_len]; omega
  obtain ⟨D, hD⟩ : ∃ D, D = Kdf.derive k lab := ⟨_, rfl⟩
  obtain ⟨H, hH⟩ : ∃ H, H = Kdf.chain k lab m := ⟨_, rfl⟩
  rw [← hD] at hde hrde hdl
  rw [← hH] at hch hrch hm6
  clear hD hH hm
  go_enter Tryd.func12, Tryd.ntmps12
  go_wp2_with fail
  refine (hde.out w (Below.refl _ _)).mono ?_
  rintro e w1 ⟨A1, c1, rfl, r1, b1⟩
  go_wp2_with fail
  refine (hrde.out w1 b1).mono ?_
  rintro e w2 ⟨A2, c2, rfl, r2, b2⟩
  have t2 := bt b1 b2
  go_wp2_with fail
  refine (R1.same_any _ _ D D _ _ _ _ w2 rfl rfl (r1.on b2) r2 (by omega) (by omega)).mono ?_
  rintro e w3 ⟨rfl, b3⟩
  have t3 := bt t2 b3
  rw [R1.sameB_self]
  go_wp2_with fail
  refine (Kdf.mix_any A B k a _ _ _ _ w3 rfl rfl (ha.on t3) (hb.on t3) (by omega) (by omega) (hk.on t3)).mono ?_
  rintro e w4 ⟨A4, c4, rfl, own4, b4⟩
  have t4 := bt t3 b4
  go_wp2_with fail
  refine (Kdf.rmix_any A B k a _ _ _ _ w4 rfl rfl (ha.on t4) (hb.on t4) (by omega) (by omega)).mono ?_
  rintro e w5 ⟨A5, c5, rfl, own5, b5⟩
  have t5 := bt t4 b5
  go_wp2_with fail
  refine (R1.same_any _ _ (Mac.mac k a) (Mac.mac k a) _ _ _ _ _ rfl rfl ((Rd.own own4).on b5) (Rd.own own5) (by omega) (by omega)).mono ?_
  rintro e w6 ⟨rfl, b6⟩
  have t6 := bt t5 b6
  rw [R1.sameB_self]
  go_wp2_with fail
  refine (hch.out w6 t6).mono ?_
  rintro e w7 ⟨A7, c7, rfl, r7, b7⟩
  have t7 := bt t6 b7
  go_wp2_with fail
  refine (hrch.out w7 t7).mono ?_
  rintro e w8 ⟨A8, c8, rfl, r8, b8⟩
  have t8 := bt t7 b8
  go_wp2_with fail
  refine (R1.same_any _ _ H H _ _ _ _ w8 rfl rfl (r7.on b8) r8 (by omega) (by omega)).mono ?_
  rintro e w9 ⟨rfl, b9⟩
  have t9 := bt t8 b9
  rw [R1.sameB_self]
  go_wp2_with (go_at_call 39; refine (Kdf.alive_any _ (hk.on t9)).mono ?_; rintro e w' ⟨rfl, hw⟩)
  go_ret
  exact ⟨rfl, bt t9 hw⟩

set_option maxRecDepth 100000 in
theorem contract (H : Type) (enc : TypeId × Value → H) (W : World) (base : Nat) (args : Array Value) (ds gs : List (DataW H)) (before : List MemPlace)
    (hval0 : ∀ (j : Nat) t v, Tryd.f12.params[j]? = some t → args[j]? = some v → Value.okWide Tryd.prog W .any base t v)
    (hW : DataW.Whole enc Tryd.prog Tryd.f12.params.toList Rows.kdfKeysSpec.vars false W args.toList ds gs before) (hL : laidMetH Tryd.prog Rows.kdfKeysRow.laid W) :
    Calls Tryd.prog 12 args W fun e W' => ∃ v, e = .returned v ∧ Rows.kdfKeysSpec.post enc Tryd.prog Tryd.f12 false true false false W args v W' := by
  have hk : Sha.Tab W := Laid.tab hL
  have hval : ∀ (j : Nat) t v, Tryd.f12.params[j]? = some t → args[j]? = some v → Value.okWide Tryd.prog W .any base t v := hval0
  have hW' := hW
  obtain ⟨p, q, hA0, hV, rfl, hfz, hnd⟩ := hW
  have hA : DataW.TrodAll enc Tryd.prog W 0 (fun _ => true) true Tryd.f12.params.toList args.toList ds p := hA0
  rw [Tryd.params12] at hA hval
  obtain ⟨v0, vs0, d0, ds0, p0, q0, hargs, rfl, rfl, h0, r0⟩ := trodAll_cons hA
  obtain ⟨v1, vs1, d1, ds1, p1, q1, rfl, rfl, rfl, h1, r1⟩ := trodAll_cons r0
  obtain ⟨v2, vs2, d2, ds2, p2, q2, rfl, rfl, rfl, h2, r2⟩ := trodAll_cons r1
  obtain ⟨v3, vs3, d3, ds3, p3, q3, rfl, rfl, rfl, h3, r3⟩ := trodAll_cons r2
  obtain ⟨rfl, rfl, rfl⟩ := trodAll_nil r3
  obtain rfl : args = #[v0, v1, v2, v3] := by cases args; simp_all
  obtain ⟨rfl, rfl⟩ := trodVars_none hV
  have k0 := h0
  have lt0 := places_lt k0
  obtain ⟨a0, len0, cap0, rfl⟩ := okWide_slice Tryd.underlying24 (hval 0 24 v0 rfl rfl)
  obtain ⟨fuel0, hf0⟩ := h0
  obtain ⟨l0, rfl, rr0, rc0, rm0⟩ := bytes_of rfl Tryd.underlying24 Tryd.underlying5 (by kernel_rfl) hf0
  have k1 := h1
  have lt1 := places_lt k1
  obtain ⟨a1, len1, cap1, rfl⟩ := okWide_slice Tryd.underlying24 (hval 1 24 v1 rfl rfl)
  obtain ⟨fuel1, hf1⟩ := h1
  obtain ⟨l1, rfl, rr1, rc1, rm1⟩ := bytes_of rfl Tryd.underlying24 Tryd.underlying5 (by kernel_rfl) hf1
  have k2 := h2
  have lt2 := places_lt k2
  obtain ⟨s2, rfl, _, _, ws2⟩ := open_string Tryd.underlying9 (hval 2 9 v2 rfl rfl) h2
  have k3 := h3
  have lt3 := places_lt k3
  obtain ⟨n3, rfl, _, _, w3⟩ := open_int Tryd.underlying3 (hval 3 3 v3 rfl rfl) h3
  clear hA0 hval0
  refine (walk a0 l0 cap0 a1 l1 cap1 s2 n3 W rr0 rc0 rm0 rr1 rc1 rm1 ws2 (wfi w3).1 (wfi w3).2 hk).mono fun e W' ⟨he, bel⟩ => ?_
  subst he
  exact ⟨_, rfl, _, _, _, [], _, [], hW', trodAll_mk1 (shut_bool Tryd.underlying4 _), (trodAll_cons_mk (Below.trod laidOut (by kernel_rfl) (of_decide_eq_true (by kernel_rfl)) k0 bel lt0) (trodAll_cons_mk (Below.trod laidOut (by kernel_rfl) (of_decide_eq_true (by kernel_rfl)) k1 bel lt1) (trodAll_cons_mk (Below.trod laidOut (by kernel_rfl) (of_decide_eq_true (by kernel_rfl)) k2 bel lt2) (trodAll_cons_mk (Below.trod laidOut (by kernel_rfl) (of_decide_eq_true (by kernel_rfl)) k3 bel lt3) trodAll_mk0)))), rfl, bel.frame _, fun h => by cases h⟩

theorem laid_met (os : Os) : laidMet Tryd.prog Rows.kdfKeysRow.laid ((Laid.laidWorld os).forCall (fun _ _ => 0) ⟨#[], #[.slice none 0 0, .slice none 0 0, .string ⟨#[]⟩, .int .i64 0], []⟩).memory :=
  laidMet_of_run' 8 (by kernel_rfl) (by kernel_rfl)
set_option maxRecDepth 100000 in
theorem lifted (os : Os) (started : os.Started) (H : Type) (enc : TypeId × Value → H) (F : Stop.Interp) :
    ReturnsInHanded {} Tryd.checked os 12 .any ((OpenSpec.ofChange Rows.kdfKeysSpec).preRow enc Tryd.prog Tryd.f12 Rows.kdfKeysRow.domain false Rows.kdfKeysRow.laid) (((OpenSpec.ofChange Rows.kdfKeysSpec).at F).post enc Tryd.prog Tryd.f12 false true false false) := by
  obtain ⟨x, hx⟩ := Option.isSome_iff_exists.1 (show (DataW.whole enc Tryd.prog ((Laid.laidWorld os).forCall (fun _ _ => 0) ⟨#[], #[.slice none 0 0, .slice none 0 0, .string ⟨#[]⟩, .int .i64 0], []⟩).memory Tryd.f12.params.toList Rows.kdfKeysSpec.vars false (#[.slice none 0 0, .slice none 0 0, .string ⟨#[]⟩, .int .i64 0] : Array Value).toList 8).isSome = true by kernel_rfl)
  refine returnsInHanded_of_row (C := Tryd.checked) (s := OpenSpec.ofChange Rows.kdfKeysSpec) own started (by kernel_rfl) Tryd.func12
    (witness_row_at (enc := enc) (C := Tryd.checked) false (Laid.laidWorld os) #[.slice none 0 0, .slice none 0 0, .string ⟨#[]⟩, .int .i64 0] rfl (by kernel_rfl) (by kernel_rfl) (by kernel_rfl)
      (OpenSpec.preRow_of_cond 8 hx (by rfl) (fun k hk => by cases hk) (by kernel_rfl) (laid_met os))) ?_
  intro W base args ds gs before hval hW _ _ _ hL _ _
  exact contract H enc W base args ds gs before hval hW hL
theorem said : Rows.KdfKeysSaid :=
  OpenClaim.holds_of_cond 12 Tryd.f12 rfl rfl rfl rfl rfl rfl rfl ⟨rfl, rfl, rfl, rfl, rfl⟩ rfl rfl rfl rfl rfl (by kernel_rfl) Tryd.func12 (by kernel_rfl)
    (of_decide_eq_true (by kernel_rfl)) (by unfold Func.isWrapper; first | (rw [if_pos (by decide +kernel)]; kernel_rfl) | (rw [if_neg (by decide +kernel)]; exact ⟨rfl, rfl⟩))
    (fun os started H enc _ F => by rw [OpenClaim.pre_eq_preRow]; exact lifted os started H enc F)
theorem plain (f : FuncId) (fn : Func) (hf : Tryd.pinned.checked.prog.funcNamed "oubliette/oubliettelaw09.KdfKeys" = some f) (hfn : Tryd.pinned.checked.prog.funcs[f]? = some fn) :
    false = Tryd.pinned.checked.prog.looks [] ∧ ∀ (j : Nat) t, fn.params[j]? = some t → Tryd.pinned.checked.prog.wantsStandIn t = false := by
  obtain rfl : f = 12 := Option.some.inj ((show Tryd.prog.funcNamed "oubliette/oubliettelaw09.KdfKeys" = some 12 by kernel_rfl).symm.trans hf) |>.symm
  obtain rfl : fn = Tryd.f12 := (Option.some.inj (Tryd.func12.symm.trans hfn)).symm
  refine ⟨by kernel_rfl, fun j t ht => ?_⟩
  rw [Tryd.params12] at ht
  have hm : t ∈ ([3, 9, 24] : List TypeId) := by have := Array.mem_of_getElem? ht; simp at this; first | (subst this; simp; done) | (rcases this with h | h <;> (simp [h]; done)) | (rcases this with h | h | h <;> (simp [h]; done)) | (rcases this with h | h | h | h <;> (simp [h]; done)) | (rcases this with h | h | h | h | h <;> (simp [h]; done))
  have hall : (([3, 9, 24] : List TypeId).all fun u => !Tryd.prog.wantsStandIn u) = true := by kernel_rfl
  exact (show Tryd.prog.wantsStandIn t = false by simpa using List.all_eq_true.1 hall t hm)
theorem proved : Rows.KdfKeysCardSaid :=
  Claim7.holds_tied_plain_at .later [] _ _ _ _ said (fun _ h => by cases h) (by kernel_rfl) (fun _ h => by cases h) kdfKeys_row_tie rfl ⟨rfl, rfl⟩ (by kernel_rfl) rfl plain (by kernel_rfl)
#print axioms proved
end Go.Proofs.YtggldbadefbdaaaDoor.KdfKeys
