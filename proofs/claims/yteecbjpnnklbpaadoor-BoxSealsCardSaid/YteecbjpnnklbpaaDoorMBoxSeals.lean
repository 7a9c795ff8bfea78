/- BoxSeals: for every input the law returns true: the box of any text, by any key and nonce, and the keys that seal and tag it. No condition. -/
import Derived.Test.YteecbjpnnklbpaaDoorGJ
import Derived.Test.YteecbjpnnklbpaaDoorGA
import Derived.Test.YteecbjpnnklbpaaDoorGK
import Derived.Lib.MinMax
namespace Go.Proofs.YteecbjpnnklbpaaDoor.BoxSeals
open Go.ChangeShapes Go.WideShapes Go.ChangeAt Go.RowKit Go.Joins
open Go.ChangeMaps (open_string shut_string)
open Go.Proofs.YteecbjpnnklbpaaDoor.Box
open Go.Proofs.YteecbjpnnklbpaaDoor.Ctr (RetF)
set_option linter.unusedVariables false

set_option maxRecDepth 100000 in
set_option maxHeartbeats 1000000 in
theorem walk (A : Option Addr) (l : List UInt8) (c : Nat) (B : Option Addr) (m : List UInt8) (d : Nat) (T : Option Addr) (x : List UInt8) (g : Nat) (n : Int) (w : World)
    (ha : Rd w w.heap.size A (l.map e8)) (hc : l.length ≤ c) (hcm : c ≤ maxLen) (hb : Rd w w.heap.size B (m.map e8)) (hd : m.length ≤ d) (hdm : d ≤ maxLen) (hx : Rd w w.heap.size T (x.map e8)) (hg : x.length ≤ g) (hgm : g ≤ maxLen)
    (hn0 : -9223372036854775808 ≤ n) (hn1 : n ≤ 9223372036854775807) (hk : Sha.Tab w) :
    Calls Tryd.prog 6 #[.slice A l.length c, .slice B m.length d, .slice T x.length g, .int .i64 n] w fun e w' => e = .returned (.bool true) ∧ Below w.heap.size w w' := by
  by_cases h1 : 100 < l.length
  · go_enter Tryd.func6, Tryd.ntmps6
    go_wp2_with (go_at_call 25; refine (Box.alive_any _ hk).mono ?_; rintro e w' ⟨rfl, hw⟩)
    go_ret
    exact ⟨rfl, hw⟩
  · by_cases h2 : 100 < m.length
    · go_enter Tryd.func6, Tryd.ntmps6
      go_wp2_with (go_at_call 25; refine (Box.alive_any _ hk).mono ?_; rintro e w' ⟨rfl, hw⟩)
      go_ret
      exact ⟨rfl, hw⟩
    · by_cases h3 : 200 < x.length
      · go_enter Tryd.func6, Tryd.ntmps6
        go_wp2_with (go_at_call 25; refine (Box.alive_any _ hk).mono ?_; rintro e w' ⟨rfl, hw⟩)
        go_ret
        exact ⟨rfl, hw⟩
      · by_cases h4 : 1099511627776 < n
        · go_enter Tryd.func6, Tryd.ntmps6
          go_wp2_with (go_at_call 25; refine (Box.alive_any _ hk).mono ?_; rintro e w' ⟨rfl, hw⟩)
          go_ret
          exact ⟨rfl, hw⟩
        · have ho := Lib.hid (seal_any A B T l m x c d g w hc hcm hd hdm ha hb hx (by omega) (by omega) (by omega) hk)
          have hr := Lib.hid (fun W (hW : Below w.heap.size w W) => rseal_any A B T l m x c d g W hc hcm hd hdm (ha.on hW) (hb.on hW) (hx.on hW) (by omega) (by omega) (by omega))
          have hky := Lib.hid (fun W (hW : Below w.heap.size w W) => keys_any A l _ c W rfl (ha.on hW) (by omega) (hk.on hW))
          have hd1 := Lib.hid (fun W (hW : Below w.heap.size w W) => (show Calls Tryd.prog 30 #[.slice A l.length c, .string ⟨sealL.toArray⟩] W fun e w' => Kdf.RetDC W (sealK l) e w' from Kdf.rderive_cap A l sealL _ c W rfl (ha.on hW) (by omega) (by decide)))
          have hd2 := Lib.hid (fun W (hW : Below w.heap.size w W) => (show Calls Tryd.prog 30 #[.slice A l.length c, .string ⟨tagL.toArray⟩] W fun e w' => Kdf.RetDC W (tagK l) e w' from Kdf.rderive_cap A l tagL _ c W rfl (ha.on hW) (by omega) (by decide)))
          have hsz := Lib.hid (fun W => size_any n W hn0 (by omega))
          have hsl : (sealB l m x).length ≤ 100000 := by
            unfold sealB
            split
            · split
              · simp
              · have := Ctr.overB_len (sealK l) m x
                rw [List.length_append, Mac.mac_len, bodyB, List.length_append]
                omega
            · simp
          have hkl := sealK_len l
          have htl := tagK_len l
          obtain ⟨S, hS⟩ : ∃ S, S = sealB l m x := ⟨_, rfl⟩
          obtain ⟨F, hF⟩ : ∃ S, S = sealF l m x := ⟨_, rfl⟩
          obtain ⟨K, hK⟩ : ∃ S, S = sealK l := ⟨_, rfl⟩
          obtain ⟨L, hL⟩ : ∃ S, S = tagK l := ⟨_, rfl⟩
          obtain ⟨z, hz⟩ : ∃ z, max n 0 = z := ⟨_, rfl⟩
          have hzb : 0 ≤ z ∧ z ≤ 1099511627776 := by omega
          have hwz : IntKind.i64.wrap (z + 48) = z + 48 := by rw [IntKind.wrap_i64]; omega
          rw [← hS, ← hF] at ho hr
          rw [← hS] at hsl
          rw [← hK, ← hL] at hky
          rw [← hK] at hd1 hkl
          rw [← hL] at hd2 htl
          rw [hz] at hsz
          have Hsl := Lib.hid hsl
          have Hkl := Lib.hid hkl
          have Htl := Lib.hid htl
          clear hS hF hK hL hsl hkl htl hzb
          go_enter Tryd.func6, Tryd.ntmps6
          go_wp2_with fail
          refine ho.out.mono ?_
          rintro e w1 ⟨A1, c1, rfl, r1, q1, m1, b1⟩
          go_wp2_with fail
          refine (hr.out _ b1).mono ?_
          rintro e w2 ⟨A2, c2, rfl, r2, q2, m2, b2⟩
          have bt2 := bt b1 b2
          have r12 := r1.on b2
          go_wp2_with fail
          refine (hky.out _ bt2).mono ?_
          rintro e w3 ⟨A3, c3, A4, c4, rfl, r3, q3, m3, r4, q4, m4, b3⟩
          have bt3 := bt bt2 b3
          go_wp2_with fail
          refine (R1.same_any A1 A2 S S _ _ _ _ _ rfl rfl (r12.on b3) (r2.on b3) (by have := Hsl.out; omega) (by have := Hsl.out; omega)).mono ?_
          rintro e w4 ⟨rfl, b4⟩
          rw [R1.sameB_self]
          have bt4 := bt bt3 b4
          go_wp2_with fail
          refine (hd1.out _ bt4).mono ?_
          rintro e w5 ⟨A5, c5, rfl, r5, q5, m5, b5⟩
          have bt5 := bt bt4 b5
          go_wp2_with fail
          refine (R1.same_any A3 A5 K K _ _ _ _ _ rfl rfl ((r3.on b4).on b5) r5 (by rw [Hkl.out]; omega) (by rw [Hkl.out]; omega)).mono ?_
          rintro e w6 ⟨rfl, b6⟩
          rw [R1.sameB_self]
          have bt6 := bt bt5 b6
          go_wp2_with fail
          refine (hd2.out _ bt6).mono ?_
          rintro e w7 ⟨A7, c7, rfl, r7, q7, m7, b7⟩
          have bt7 := bt bt6 b7
          go_wp2_with fail
          refine (R1.same_any A4 A7 L L _ _ _ _ _ rfl rfl ((((r4.on b4).on b5).on b6).on b7) r7 (by rw [Htl.out]; omega) (by rw [Htl.out]; omega)).mono ?_
          rintro e w8 ⟨rfl, b8⟩
          rw [R1.sameB_self]
          have bt8 := bt bt7 b8
          go_wp2_with (first | (go_at_call 31; refine (hsz.out _).mono ?_; rintro e w' ⟨rfl, rfl⟩) | (go_at_call 25; refine (Box.alive_any _ (hk.on bt8)).mono ?_; rintro e w' ⟨rfl, hw⟩))
          go_ret
          exact ⟨rfl, bt bt8 hw⟩

set_option maxRecDepth 100000 in
theorem contract (H : Type) (enc : TypeId × Value → H) (W : World) (base : Nat) (args : Array Value) (ds gs : List (DataW H)) (before : List MemPlace)
    (hval0 : ∀ (j : Nat) t v, Tryd.f6.params[j]? = some t → args[j]? = some v → Value.okWide Tryd.prog W .any base t v)
    (hW : DataW.Whole enc Tryd.prog Tryd.f6.params.toList Rows.boxSealsSpec.vars false W args.toList ds gs before) (hL : laidMetH Tryd.prog Rows.boxSealsRow.laid W) :
    Calls Tryd.prog 6 args W fun e W' => ∃ v, e = .returned v ∧ Rows.boxSealsSpec.post enc Tryd.prog Tryd.f6 false true false false W args v W' := by
  have hk : Sha.Tab W := Laid.tab hL
  have hval : ∀ (j : Nat) t v, Tryd.f6.params[j]? = some t → args[j]? = some v → Value.okWide Tryd.prog W .any base t v := hval0
  have hW' := hW
  obtain ⟨p, q, hA0, hV, rfl, hfz, hnd⟩ := hW
  have hA : DataW.TrodAll enc Tryd.prog W 0 (fun _ => true) true Tryd.f6.params.toList args.toList ds p := hA0
  rw [Tryd.params6] at hA hval
  obtain ⟨v0, vs0, d0, ds0, p0, q0, hargs, rfl, rfl, h0, r0⟩ := trodAll_cons hA
  obtain ⟨v1, vs1, d1, ds1, p1, q1, rfl, rfl, rfl, h1, r1⟩ := trodAll_cons r0
  obtain ⟨v2, vs2, d2, ds2, p2, q2, rfl, rfl, rfl, h2, r2⟩ := trodAll_cons r1
  obtain ⟨v3, vs3, d3, ds3, p3, q3, rfl, rfl, rfl, h3, r3⟩ := trodAll_cons r2
  obtain ⟨rfl, rfl, rfl⟩ := trodAll_nil r3
  obtain rfl : args = #[v0, v1, v2, v3] := by cases args; simp_all
  obtain ⟨rfl, rfl⟩ := trodVars_none hV
  have k0 := h0
  have lt0 := places_lt k0
  obtain ⟨a0, len0, cap0, rfl⟩ := okWide_slice Tryd.underlying37 (hval 0 37 v0 rfl rfl)
  obtain ⟨fuel0, hf0⟩ := h0
  obtain ⟨l0, rfl, rr0, rc0, rm0⟩ := bytes_of rfl Tryd.underlying37 Tryd.underlying5 (by kernel_rfl) hf0
  have k1 := h1
  have lt1 := places_lt k1
  obtain ⟨a1, len1, cap1, rfl⟩ := okWide_slice Tryd.underlying37 (hval 1 37 v1 rfl rfl)
  obtain ⟨fuel1, hf1⟩ := h1
  obtain ⟨l1, rfl, rr1, rc1, rm1⟩ := bytes_of rfl Tryd.underlying37 Tryd.underlying5 (by kernel_rfl) hf1
  have k2 := h2
  have lt2 := places_lt k2
  obtain ⟨a2, len2, cap2, rfl⟩ := okWide_slice Tryd.underlying37 (hval 2 37 v2 rfl rfl)
  obtain ⟨fuel2, hf2⟩ := h2
  obtain ⟨l2, rfl, rr2, rc2, rm2⟩ := bytes_of rfl Tryd.underlying37 Tryd.underlying5 (by kernel_rfl) hf2
  have k3 := h3
  have lt3 := places_lt k3
  obtain ⟨n3, rfl, _, _, w3⟩ := open_int Tryd.underlying3 (hval 3 3 v3 rfl rfl) h3
  clear hA0 hval0
  refine (walk a0 l0 cap0 a1 l1 cap1 a2 l2 cap2 n3 W rr0 rc0 rm0 rr1 rc1 rm1 rr2 rc2 rm2 (wfi w3).1 (wfi w3).2 hk).mono fun e W' ⟨he, bel⟩ => ?_
  subst he
  exact ⟨_, rfl, _, _, _, [], _, [], hW', trodAll_mk1 (shut_bool Tryd.underlying4 _), (trodAll_cons_mk (Below.trod laidOut (by kernel_rfl) (of_decide_eq_true (by kernel_rfl)) k0 bel lt0) (trodAll_cons_mk (Below.trod laidOut (by kernel_rfl) (of_decide_eq_true (by kernel_rfl)) k1 bel lt1) (trodAll_cons_mk (Below.trod laidOut (by kernel_rfl) (of_decide_eq_true (by kernel_rfl)) k2 bel lt2) (trodAll_cons_mk (Below.trod laidOut (by kernel_rfl) (of_decide_eq_true (by kernel_rfl)) k3 bel lt3) trodAll_mk0)))), rfl, bel.frame _, fun h => by cases h⟩

theorem laid_met (os : Os) : laidMet Tryd.prog Rows.boxSealsRow.laid ((Laid.laidWorld os).forCall (fun _ _ => 0) ⟨#[], #[.slice none 0 0, .slice none 0 0, .slice none 0 0, .int .i64 0], []⟩).memory :=
  laidMet_of_run' 8 (by kernel_rfl) (by kernel_rfl)
set_option maxRecDepth 100000 in
theorem lifted (os : Os) (started : os.Started) (H : Type) (enc : TypeId × Value → H) (F : Stop.Interp) :
    ReturnsInHanded {} Tryd.checked os 6 .any ((OpenSpec.ofChange Rows.boxSealsSpec).preRow enc Tryd.prog Tryd.f6 Rows.boxSealsRow.domain false Rows.boxSealsRow.laid) (((OpenSpec.ofChange Rows.boxSealsSpec).at F).post enc Tryd.prog Tryd.f6 false true false false) := by
  obtain ⟨x, hx⟩ := Option.isSome_iff_exists.1 (show (DataW.whole enc Tryd.prog ((Laid.laidWorld os).forCall (fun _ _ => 0) ⟨#[], #[.slice none 0 0, .slice none 0 0, .slice none 0 0, .int .i64 0], []⟩).memory Tryd.f6.params.toList Rows.boxSealsSpec.vars false (#[.slice none 0 0, .slice none 0 0, .slice none 0 0, .int .i64 0] : Array Value).toList 8).isSome = true by kernel_rfl)
  refine returnsInHanded_of_row (C := Tryd.checked) (s := OpenSpec.ofChange Rows.boxSealsSpec) own started (by kernel_rfl) Tryd.func6
    (witness_row_at (enc := enc) (C := Tryd.checked) false (Laid.laidWorld os) #[.slice none 0 0, .slice none 0 0, .slice none 0 0, .int .i64 0] rfl (by kernel_rfl) (by kernel_rfl) (by kernel_rfl)
      (OpenSpec.preRow_of_cond 8 hx (by rfl) (fun k hk => by cases hk) (by kernel_rfl) (laid_met os))) ?_
  intro W base args ds gs before hval hW _ _ _ hL _ _
  exact contract H enc W base args ds gs before hval hW hL
theorem said : Rows.BoxSealsSaid :=
  OpenClaim.holds_of_cond 6 Tryd.f6 rfl rfl rfl rfl rfl rfl rfl ⟨rfl, rfl, rfl, rfl, rfl⟩ rfl rfl rfl rfl rfl (by kernel_rfl) Tryd.func6 (by kernel_rfl)
    (of_decide_eq_true (by kernel_rfl)) (by unfold Func.isWrapper; first | (rw [if_pos (by decide +kernel)]; kernel_rfl) | (rw [if_neg (by decide +kernel)]; exact ⟨rfl, rfl⟩))
    (fun os started H enc _ F => by rw [OpenClaim.pre_eq_preRow]; exact lifted os started H enc F)
theorem plain (f : FuncId) (fn : Func) (hf : Tryd.pinned.checked.prog.funcNamed "oubliette/oubliettelaw13.BoxSeals" = some f) (hfn : Tryd.pinned.checked.prog.funcs[f]? = some fn) :
    false = Tryd.pinned.checked.prog.looks [] ∧ ∀ (j : Nat) t, fn.params[j]? = some t → Tryd.pinned.checked.prog.wantsStandIn t = false := by
  obtain rfl : f = 6 := Option.some.inj ((show Tryd.prog.funcNamed "oubliette/oubliettelaw13.BoxSeals" = some 6 by kernel_rfl).symm.trans hf) |>.symm
  obtain rfl : fn = Tryd.f6 := (Option.some.inj (Tryd.func6.symm.trans hfn)).symm
  refine ⟨by kernel_rfl, fun j t ht => ?_⟩
  rw [Tryd.params6] at ht
  have hm : t ∈ ([3, 37] : List TypeId) := by have := Array.mem_of_getElem? ht; simp at this; first | (subst this; simp; done) | (rcases this with h | h <;> (simp [h]; done)) | (rcases this with h | h | h <;> (simp [h]; done)) | (rcases this with h | h | h | h <;> (simp [h]; done)) | (rcases this with h | h | h | h | h <;> (simp [h]; done))
  have hall : (([3, 37] : List TypeId).all fun u => !Tryd.prog.wantsStandIn u) = true := by kernel_rfl
  exact (show Tryd.prog.wantsStandIn t = false by simpa using List.all_eq_true.1 hall t hm)
theorem proved : Rows.BoxSealsCardSaid :=
  Claim7.holds_tied_plain_at .later [] _ _ _ _ said (fun _ h => by cases h) (by kernel_rfl) (fun _ h => by cases h) boxSeals_row_tie rfl ⟨rfl, rfl⟩ (by kernel_rfl) rfl plain (by kernel_rfl)
#print axioms proved
end Go.Proofs.YteecbjpnnklbpaaDoor.BoxSeals
