/- KdfFewer: for every input the law returns true: fewer bytes are the first ones of more, and a chain goes on where a shorter one ended. No condition. -/
import Derived.Test.YtggldbadefbdaaaDoorKdf6
import Derived.Test.YtggldbadefbdaaaDoorOpen
import Derived.Test.YtggldbadefbdaaaDoorTab
namespace Go.Proofs.YtggldbadefbdaaaDoor.KdfFewer
open Go.ChangeShapes Go.WideShapes Go.ChangeAt Go.RowKit Go.Joins
open Go.ChangeMaps (open_string shut_string)
open Go.Proofs.YtggldbadefbdaaaDoor.Kdf (RetD RetR)
set_option linter.unusedVariables false

set_option maxRecDepth 100000 in
set_option maxHeartbeats 1000000 in
theorem walk (A : Option Addr) (k : List UInt8) (c : Nat) (B : Option Addr) (a : List UInt8) (d : Nat) (z m : Int) (s : ByteArray) (w : World)
    (ha : Rd w w.heap.size A (k.map e8)) (hc : k.length ≤ c) (hcm : c ≤ maxLen) (hb : Rd w w.heap.size B (a.map e8)) (hd : a.length ≤ d) (hdm : d ≤ maxLen)
    (hz0 : -9223372036854775808 ≤ z) (hz1 : z ≤ 9223372036854775807) (hm0 : -9223372036854775808 ≤ m) (hm1 : m ≤ 9223372036854775807) (hs : s.size ≤ maxLen) (hk : Sha.Tab w) :
    Calls Tryd.prog 11 #[.slice A k.length c, .slice B a.length d, .int .i64 z, .int .i64 m, .string s] w fun e w' => e = .returned (.bool true) ∧ Below w.heap.size w w' := by
  unfold maxLen at hcm hdm hs
  obtain ⟨lab, rfl⟩ : ∃ l : List UInt8, s = ⟨l.toArray⟩ := ⟨s.data.toList, by simp⟩
  have hsz := Kdf.ba_size lab
  rw [hsz] at hs
  by_cases h1 : 200 < k.length
  · go_enter Tryd.func11, Tryd.ntmps11
    go_wp2_with (go_at_call 39; refine (Kdf.alive_any _ hk).mono ?_; rintro e w' ⟨rfl, hw⟩)
    go_ret
    exact ⟨rfl, hw⟩
  by_cases h2 : 200 < a.length
  · go_enter Tryd.func11, Tryd.ntmps11
    go_wp2_with (go_at_call 39; refine (Kdf.alive_any _ hk).mono ?_; rintro e w' ⟨rfl, hw⟩)
    go_ret
    exact ⟨rfl, hw⟩
  by_cases h3 : z < 1
  · go_enter Tryd.func11, Tryd.ntmps11
    go_wp2_with (go_at_call 39; refine (Kdf.alive_any _ hk).mono ?_; rintro e w' ⟨rfl, hw⟩)
    go_ret
    exact ⟨rfl, hw⟩
  by_cases h4 : 100 < z
  · go_enter Tryd.func11, Tryd.ntmps11
    go_wp2_with (go_at_call 39; refine (Kdf.alive_any _ hk).mono ?_; rintro e w' ⟨rfl, hw⟩)
    go_ret
    exact ⟨rfl, hw⟩
  by_cases h5 : m < 0
  · go_enter Tryd.func11, Tryd.ntmps11
    go_wp2_with (go_at_call 39; refine (Kdf.alive_any _ hk).mono ?_; rintro e w' ⟨rfl, hw⟩)
    go_ret
    exact ⟨rfl, hw⟩
  by_cases h6 : 100 < m
  · go_enter Tryd.func11, Tryd.ntmps11
    go_wp2_with (go_at_call 39; refine (Kdf.alive_any _ hk).mono ?_; rintro e w' ⟨rfl, hw⟩)
    go_ret
    exact ⟨rfl, hw⟩
  by_cases h7 : 100 < lab.length
  · go_enter Tryd.func11, Tryd.ntmps11
    go_wp2_with (go_at_call 39; refine (Kdf.alive_any _ hk).mono ?_; rintro e w' ⟨rfl, hw⟩)
    go_ret
    exact ⟨rfl, hw⟩
  obtain ⟨x, rfl⟩ : ∃ x : Nat, z = (x : Int) := ⟨z.toNat, by omega⟩
  obtain ⟨y, rfl⟩ : ∃ y : Nat, m = (y : Int) := ⟨m.toNat, by omega⟩
  have x1 : 1 ≤ x := by omega
  have x2 : x ≤ 100 := by omega
  have y1 : y ≤ 100 := by omega
  have he1 := fun (W : World) (hW : Below w.heap.size w W) => Kdf.expand_yes A B k a _ c _ d x (x : Int) rfl x1 (by omega) W rfl rfl (ha.on hW) (hb.on hW) (by omega) (by omega) (hk.on hW)
  have he2 := fun (W : World) (hW : Below w.heap.size w W) => Kdf.expand_yes A B k a _ c _ d (x + y) ((x : Int) + (y : Int)) (by push_cast; rfl) (by omega) (by omega) W rfl rfl (ha.on hW) (hb.on hW) (by omega) (by omega) (hk.on hW)
  have hf := Kdf.expand_fewer k a x y
  have hl1 := Kdf.expand_len k a x
  have hl2 := Kdf.expand_len k a (x + y)
  obtain ⟨U, hU⟩ : ∃ U, U = Kdf.expand k a x := ⟨_, rfl⟩
  obtain ⟨V, hV⟩ : ∃ V, V = Kdf.expand k a (x + y) := ⟨_, rfl⟩
  rw [← hU] at he1 hf hl1
  rw [← hV] at he2 hf hl2
  have HE1 := Lib.hid he1
  have HE2 := Lib.hid he2
  have Hf := Lib.hid hf
  have Hl1 := Lib.hid hl1
  have Hl2 := Lib.hid hl2
  clear hU hV he1 he2 hf hl1 hl2
  have hca := Lib.hid (Kdf.chain_add k lab 2 1)
  have hq2 := Kdf.chain_le k lab 2
  have hq3 := Kdf.chain_le k lab 3
  have hc2 := fun (W : World) (hW : Below w.heap.size w W) => Kdf.chain_any A k lab _ c 2 W 2 (by decide) rfl (ha.on hW) (by omega) (by omega) (hk.on hW)
  have hc3 := fun (W : World) (hW : Below w.heap.size w W) => Kdf.chain_any A k lab _ c 3 W 3 (by decide) rfl (ha.on hW) (by omega) (by omega) (hk.on hW)
  have hc1 := fun (A' : Option Addr) (c' : Nat) (W : World) (hW : Below w.heap.size w W) (hr : Rd W W.heap.size A' ((Kdf.chain k lab 2).map e8)) => Kdf.chain_any A' (Kdf.chain k lab 2) lab _ c' 1 W 1 (by decide) rfl hr (by omega) (by omega) (hk.on hW)
  rw [show Kdf.chain (Kdf.chain k lab 2) lab 1 = Kdf.chain k lab 3 from hca.out] at hc1
  obtain ⟨G, hG⟩ : ∃ G, G = Kdf.chain k lab 2 := ⟨_, rfl⟩
  obtain ⟨H, hH⟩ : ∃ H, H = Kdf.chain k lab 3 := ⟨_, rfl⟩
  rw [← hG] at hc1 hc2 hq2
  rw [← hH] at hc1 hc3 hq3
  have HC1 := Lib.hid hc1
  have HC2 := Lib.hid hc2
  have HC3 := Lib.hid hc3
  clear hG hH hc1 hc2 hc3 hca
  go_enter Tryd.func11, Tryd.ntmps11
  go_wp2_with fail
  refine (HE1.out w (Below.refl _ _)).mono ?_
  rintro e w1 ⟨A1, c1, rfl, r1, p1, p2, b1⟩
  unfold maxLen at p2
  rw [Hl1.out] at p1 ⊢
  go_wp2_with fail
  refine (HE2.out w1 b1).mono ?_
  rintro e w2 ⟨A2, c2, rfl, r2, p3, p4, b2⟩
  unfold maxLen at p4
  rw [Hl2.out] at p3 ⊢
  have t2 := bt b1 b2
  have r3 := r2.take x
  rw [← List.map_take, Hf.out] at r3
  have hcap : (x : Int) ≤ (c2 : Int) := by omega
  have q1 : ((x : Int) = (x : Int) + (y : Int)) = ((x : Int) = (x : Int) + (y : Int)) := rfl
  clear q1
  go_wp2_with fail
  refine (R1.same_any _ _ U U _ _ _ _ w2 Hl1.out.symm Hl1.out.symm (r1.on b2) r3 (by rw [Hl1.out]; omega) (by rw [Hl1.out]; omega)).mono ?_
  rintro e w3 ⟨rfl, b3⟩
  have t3 := bt t2 b3
  rw [R1.sameB_self]
  go_wp2_with fail
  refine (HC2.out w3 t3).mono ?_
  rintro e w4 ⟨A4, c4, rfl, r4, b4⟩
  have t4 := bt t3 b4
  go_wp2_with fail
  refine (HC1.out A4 c4 w4 t4 r4).mono ?_
  rintro e w5 ⟨A5, c5, rfl, r5, b5⟩
  have t5 := bt t4 b5
  go_wp2_with fail
  refine (HC3.out w5 t5).mono ?_
  rintro e w6 ⟨A6, c6, rfl, r6, b6⟩
  have t6 := bt t5 b6
  go_wp2_with fail
  refine (R1.same_any _ _ H H _ _ _ _ w6 rfl rfl (r5.on b6) r6 (by omega) (by omega)).mono ?_
  rintro e w7 ⟨rfl, b7⟩
  have t7 := bt t6 b7
  rw [R1.sameB_self]
  go_wp2_with (go_at_call 39; refine (Kdf.alive_any _ (hk.on t7)).mono ?_; rintro e w' ⟨rfl, hw⟩)
  go_ret
  exact ⟨rfl, bt t7 hw⟩

set_option maxRecDepth 100000 in
theorem contract (H : Type) (enc : TypeId × Value → H) (W : World) (base : Nat) (args : Array Value) (ds gs : List (DataW H)) (before : List MemPlace)
    (hval0 : ∀ (j : Nat) t v, Tryd.f11.params[j]? = some t → args[j]? = some v → Value.okWide Tryd.prog W .any base t v)
    (hW : DataW.Whole enc Tryd.prog Tryd.f11.params.toList Rows.kdfFewerSpec.vars false W args.toList ds gs before) (hL : laidMetH Tryd.prog Rows.kdfFewerRow.laid W) :
    Calls Tryd.prog 11 args W fun e W' => ∃ v, e = .returned v ∧ Rows.kdfFewerSpec.post enc Tryd.prog Tryd.f11 false true false false W args v W' := by
  have hk : Sha.Tab W := Laid.tab hL
  have hval : ∀ (j : Nat) t v, Tryd.f11.params[j]? = some t → args[j]? = some v → Value.okWide Tryd.prog W .any base t v := hval0
  have hW' := hW
  obtain ⟨p, q, hA0, hV, rfl, hfz, hnd⟩ := hW
  have hA : DataW.TrodAll enc Tryd.prog W 0 (fun _ => true) true Tryd.f11.params.toList args.toList ds p := hA0
  rw [Tryd.params11] at hA hval
  obtain ⟨v0, vs0, d0, ds0, p0, q0, hargs, rfl, rfl, h0, r0⟩ := trodAll_cons hA
  obtain ⟨v1, vs1, d1, ds1, p1, q1, rfl, rfl, rfl, h1, r1⟩ := trodAll_cons r0
  obtain ⟨v2, vs2, d2, ds2, p2, q2, rfl, rfl, rfl, h2, r2⟩ := trodAll_cons r1
  obtain ⟨v3, vs3, d3, ds3, p3, q3, rfl, rfl, rfl, h3, r3⟩ := trodAll_cons r2
  obtain ⟨v4, vs4, d4, ds4, p4, q4, rfl, rfl, rfl, h4, r4⟩ := trodAll_cons r3
  obtain ⟨rfl, rfl, rfl⟩ := trodAll_nil r4
  obtain rfl : args = #[v0, v1, v2, v3, v4] := by cases args; simp_all
  obtain ⟨rfl, rfl⟩ := trodVars_none hV
  have k0 := h0
  have lt0 := places_lt k0
  obtain ⟨a0, len0, cap0, rfl⟩ := okWide_slice Tryd.underlying24 (hval 0 24 v0 rfl rfl)
  obtain ⟨fuel0, hf0⟩ := h0
  obtain ⟨l0, rfl, rr0, rc0, rm0⟩ := bytes_of rfl Tryd.underlying24 Tryd.underlying5 (by kernel_rfl) hf0
  have k1 := h1
  have lt1 := places_lt k1
  obtain ⟨a1, len1, cap1, rfl⟩ := okWide_slice Tryd.underlying24 (hval 1 24 v1 rfl rfl)
  obtain ⟨fuel1, hf1⟩ := h1
  obtain ⟨l1, rfl, rr1, rc1, rm1⟩ := bytes_of rfl Tryd.underlying24 Tryd.underlying5 (by kernel_rfl) hf1
  have k2 := h2
  have lt2 := places_lt k2
  obtain ⟨n2, rfl, _, _, w2⟩ := open_int Tryd.underlying3 (hval 2 3 v2 rfl rfl) h2
  have k3 := h3
  have lt3 := places_lt k3
  obtain ⟨n3, rfl, _, _, w3⟩ := open_int Tryd.underlying3 (hval 3 3 v3 rfl rfl) h3
  have k4 := h4
  have lt4 := places_lt k4
  obtain ⟨s4, rfl, _, _, ws4⟩ := open_string Tryd.underlying9 (hval 4 9 v4 rfl rfl) h4
  clear hA0 hval0
  refine (walk a0 l0 cap0 a1 l1 cap1 n2 n3 s4 W rr0 rc0 rm0 rr1 rc1 rm1 (wfi w2).1 (wfi w2).2 (wfi w3).1 (wfi w3).2 ws4 hk).mono fun e W' ⟨he, bel⟩ => ?_
  subst he
  exact ⟨_, rfl, _, _, _, [], _, [], hW', trodAll_mk1 (shut_bool Tryd.underlying4 _), (trodAll_cons_mk (Below.trod laidOut (by kernel_rfl) (of_decide_eq_true (by kernel_rfl)) k0 bel lt0) (trodAll_cons_mk (Below.trod laidOut (by kernel_rfl) (of_decide_eq_true (by kernel_rfl)) k1 bel lt1) (trodAll_cons_mk (Below.trod laidOut (by kernel_rfl) (of_decide_eq_true (by kernel_rfl)) k2 bel lt2) (trodAll_cons_mk (Below.trod laidOut (by kernel_rfl) (of_decide_eq_true (by kernel_rfl)) k3 bel lt3) (trodAll_cons_mk (Below.trod laidOut (by kernel_rfl) (of_decide_eq_true (by kernel_rfl)) k4 bel lt4) trodAll_mk0))))), rfl, bel.frame _, fun h => by cases h⟩

theorem laid_met (os : Os) : laidMet Tryd.prog Rows.kdfFewerRow.laid ((Laid.laidWorld os).forCall (fun _ _ => 0) ⟨#[], #[.slice none 0 0, .slice none 0 0, .int .i64 0, .int .i64 0, .string ⟨#[]⟩], []⟩).memory :=
  laidMet_of_run' 8 (by kernel_rfl) (by kernel_rfl)
set_option maxRecDepth 100000 in
theorem lifted (os : Os) (started : os.Started) (H : Type) (enc : TypeId × Value → H) (F : Stop.Interp) :
    ReturnsInHanded {} Tryd.checked os 11 .any ((OpenSpec.ofChange Rows.kdfFewerSpec).preRow enc Tryd.prog Tryd.f11 Rows.kdfFewerRow.domain false Rows.kdfFewerRow.laid) (((OpenSpec.ofChange Rows.kdfFewerSpec).at F).post enc Tryd.prog Tryd.f11 false true false false) := by
  obtain ⟨x, hx⟩ := Option.isSome_iff_exists.1 (show (DataW.whole enc Tryd.prog ((Laid.laidWorld os).forCall (fun _ _ => 0) ⟨#[], #[.slice none 0 0, .slice none 0 0, .int .i64 0, .int .i64 0, .string ⟨#[]⟩], []⟩).memory Tryd.f11.params.toList Rows.kdfFewerSpec.vars false (#[.slice none 0 0, .slice none 0 0, .int .i64 0, .int .i64 0, .string ⟨#[]⟩] : Array Value).toList 8).isSome = true by kernel_rfl)
  refine returnsInHanded_of_row (C := Tryd.checked) (s := OpenSpec.ofChange Rows.kdfFewerSpec) own started (by kernel_rfl) Tryd.func11
    (witness_row_at (enc := enc) (C := Tryd.checked) false (Laid.laidWorld os) #[.slice none 0 0, .slice none 0 0, .int .i64 0, .int .i64 0, .string ⟨#[]⟩] rfl (by kernel_rfl) (by kernel_rfl) (by kernel_rfl)
      (OpenSpec.preRow_of_cond 8 hx (by rfl) (fun k hk => by cases hk) (by kernel_rfl) (laid_met os))) ?_
  intro W base args ds gs before hval hW _ _ _ hL _ _
  exact contract H enc W base args ds gs before hval hW hL
theorem said : Rows.KdfFewerSaid :=
  OpenClaim.holds_of_cond 11 Tryd.f11 rfl rfl rfl rfl rfl rfl rfl ⟨rfl, rfl, rfl, rfl, rfl⟩ rfl rfl rfl rfl rfl (by kernel_rfl) Tryd.func11 (by kernel_rfl)
    (of_decide_eq_true (by kernel_rfl)) (by unfold Func.isWrapper; first | (rw [if_pos (by decide +kernel)]; kernel_rfl) | (rw [if_neg (by decide +kernel)]; exact ⟨rfl, rfl⟩))
    (fun os started H enc _ F => by rw [OpenClaim.pre_eq_preRow]; exact lifted os started H enc F)
theorem plain (f : FuncId) (fn : Func) (hf : Tryd.pinned.checked.prog.funcNamed "oubliette/oubliettelaw09.KdfFewer" = some f) (hfn : Tryd.pinned.checked.prog.funcs[f]? = some fn) :
    false = Tryd.pinned.checked.prog.looks [] ∧ ∀ (j : Nat) t, fn.params[j]? = some t → Tryd.pinned.checked.prog.wantsStandIn t = false := by
  obtain rfl : f = 11 := Option.some.inj ((show Tryd.prog.funcNamed "oubliette/oubliettelaw09.KdfFewer" = some 11 by kernel_rfl).symm.trans hf) |>.symm
  obtain rfl : fn = Tryd.f11 := (Option.some.inj (Tryd.func11.symm.trans hfn)).symm
  refine ⟨by kernel_rfl, fun j t ht => ?_⟩
  rw [Tryd.params11] at ht
  have hm : t ∈ ([3, 9, 24] : List TypeId) := by have := Array.mem_of_getElem? ht; simp at this; first | (subst this; simp; done) | (rcases this with h | h <;> (simp [h]; done)) | (rcases this with h | h | h <;> (simp [h]; done)) | (rcases this with h | h | h | h <;> (simp [h]; done)) | (rcases this with h | h | h | h | h <;> (simp [h]; done))
  have hall : (([3, 9, 24] : List TypeId).all fun u => !Tryd.prog.wantsStandIn u) = true := by kernel_rfl
  exact (show Tryd.prog.wantsStandIn t = false by simpa using List.all_eq_true.1 hall t hm)
theorem proved : Rows.KdfFewerCardSaid :=
  Claim7.holds_tied_plain_at .later [] _ _ _ _ said (fun _ h => by cases h) (by kernel_rfl) (fun _ h => by cases h) kdfFewer_row_tie rfl ⟨rfl, rfl⟩ (by kernel_rfl) rfl plain (by kernel_rfl)
#print axioms proved
end Go.Proofs.YtggldbadefbdaaaDoor.KdfFewer
