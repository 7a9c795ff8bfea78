/- CtrTexts: for every input the law returns true: any text with a row put over it. No condition. -/
import Derived.Test.YteecbjpnnklbpaaCtr7
import Derived.Test.YteecbjpnnklbpaaRef01
import Derived.Test.YteecbjpnnklbpaaOpen
namespace Go.Proofs.Yteecbjpnnklbpaa.CtrTexts
open Go.ChangeShapes Go.WideShapes Go.ChangeAt Go.RowKit Go.Joins
open Go.ChangeMaps (open_string shut_string)
open Go.Proofs.Yteecbjpnnklbpaa.Aes
open Go.Proofs.Yteecbjpnnklbpaa.Ctr
set_option linter.unusedVariables false

set_option maxRecDepth 100000 in
set_option maxHeartbeats 800000 in
theorem walk (A : Option Addr) (l : List UInt8) (c : Nat) (B : Option Addr) (m : List UInt8) (d : Nat) (T : Option Addr) (x : List UInt8) (g : Nat) (w : World)
    (ha : Rd w w.heap.size A (l.map e8)) (hc : l.length ≤ c) (hcm : c ≤ maxLen) (hb : Rd w w.heap.size B (m.map e8)) (hd : m.length ≤ d) (hdm : d ≤ maxLen) (hx : Rd w w.heap.size T (x.map e8)) (hg : x.length ≤ g) (hgm : g ≤ maxLen) :
    Calls Try.prog 7 #[.slice A l.length c, .slice B m.length d, .slice T x.length g] w fun e w' => e = .returned (.bool true) ∧ Below w.heap.size w w' := by
  by_cases h1 : 100 < l.length
  · go_enter Try.func7, Try.ntmps7
    go_wp2_with (go_at_call 22; refine (Ctr.alive_any _).mono ?_; rintro e w' ⟨rfl, hw⟩)
    go_ret
    exact ⟨rfl, hw⟩
  · by_cases h2 : 100 < m.length
    · go_enter Try.func7, Try.ntmps7
      go_wp2_with (go_at_call 22; refine (Ctr.alive_any _).mono ?_; rintro e w' ⟨rfl, hw⟩)
      go_ret
      exact ⟨rfl, hw⟩
    · by_cases h3 : 200 < x.length
      · go_enter Try.func7, Try.ntmps7
        go_wp2_with (go_at_call 22; refine (Ctr.alive_any _).mono ?_; rintro e w' ⟨rfl, hw⟩)
        go_ret
        exact ⟨rfl, hw⟩
      · have ho := Lib.hid (fun W (hW : Below w.heap.size w W) => over_any A B T l m x l.length c m.length d x.length g W rfl rfl rfl hc hcm hd hdm (ha.on hW) (hb.on hW) (hx.on hW) (by omega))
        have hr := Lib.hid (fun W (hW : Below w.heap.size w W) => rover_any A B T l m x l.length c m.length d x.length g W rfl rfl rfl hc hcm hd hdm (ha.on hW) (hb.on hW) (hx.on hW) (by omega) (by omega) (by omega))
        have hol := overB_len l m x
        obtain ⟨O, hO⟩ : ∃ O, O = overB l m x := ⟨_, rfl⟩
        obtain ⟨F, hF⟩ : ∃ F, F = strF l m (x.length : Int) := ⟨_, rfl⟩
        rw [← hO, ← hF] at ho hr
        rw [← hO] at hol
        have Hol := Lib.hid (show O.length ≤ 200 by omega)
        clear hO hF hol
        go_enter Try.func7, Try.ntmps7
        go_wp2_with fail
        refine (ho.out _ (Below.refl _ _)).mono ?_
        rintro e w1 ⟨A1, c1, rfl, r1, q1, m1, b1⟩
        go_wp2_with fail
        refine (hr.out _ b1).mono ?_
        rintro e w2 ⟨A2, c2, rfl, r2, q2, m2, b2⟩
        have bt2 := bt b1 b2
        go_wp2_with fail
        refine (R1.same_any _ _ O O _ _ _ _ _ rfl rfl (r1.on b2) r2 (by have := Hol.out; omega) (by have := Hol.out; omega)).mono ?_
        rintro e w3 ⟨rfl, b3⟩
        rw [R1.sameB_self]
        have bt3 := bt bt2 b3
        go_wp2_with (go_at_call 22; refine (Ctr.alive_any _).mono ?_; rintro e w' ⟨rfl, hw⟩)
        go_ret
        exact ⟨rfl, bt bt3 hw⟩

set_option maxRecDepth 100000 in
theorem lifted (os : Os) (started : os.Started) (H : Type) (enc : TypeId × Value → H) :
    ReturnsInHanded {} Try.checked os 7 .any (Rows.ctrTextsSpec.pre6 enc Try.prog Try.f7 Rows.ctrTextsRow.domain false) (Rows.ctrTextsSpec.post enc Try.prog Try.f7 false true false false) := by
  refine returnsInHanded_of_change (C := Try.checked) own started (by kernel_rfl) Try.func7
    (ChangeSpec.witness6 (enc := enc) (C := Try.checked) false ⟨#[], #[.slice none 0 0, .slice none 0 0, .slice none 0 0], []⟩ 8 (by kernel_rfl) (by kernel_rfl) (by kernel_rfl) (by kernel_rfl)) ?_
  intro W base args ds gs before hval0 hW hcnd _
  have hval : ∀ (j : Nat) t v, Try.f7.params[j]? = some t → args[j]? = some v → Value.okWide Try.prog W .any base t v := hval0
  have hW' := hW
  obtain ⟨p, q, hA0, hV, rfl, hfz, hnd⟩ := hW
  have hA : DataW.TrodAll enc Try.prog W 0 (fun _ => true) true Try.f7.params.toList args.toList ds p := hA0
  rw [Try.params7] at hA hval
  obtain ⟨v0, vs0, d0, ds0, p0, q0, hargs, rfl, rfl, h0, r0⟩ := trodAll_cons hA
  obtain ⟨v1, vs1, d1, ds1, p1, q1, rfl, rfl, rfl, h1, r1⟩ := trodAll_cons r0
  obtain ⟨v2, vs2, d2, ds2, p2, q2, rfl, rfl, rfl, h2, r2⟩ := trodAll_cons r1
  obtain ⟨rfl, rfl, rfl⟩ := trodAll_nil r2
  obtain rfl : args = #[v0, v1, v2] := by cases args; simp_all
  obtain ⟨rfl, rfl⟩ := trodVars_none hV
  have k0 := h0
  have lt0 := places_lt k0
  obtain ⟨a0, len0, cap0, rfl⟩ := okWide_slice Try.underlying27 (hval 0 27 v0 rfl rfl)
  obtain ⟨fuel0, hf0⟩ := h0
  obtain ⟨l0, rfl, rr0, rc0, rm0⟩ := bytes_of rfl Try.underlying27 Try.underlying5 (by kernel_rfl) hf0
  have k1 := h1
  have lt1 := places_lt k1
  obtain ⟨a1, len1, cap1, rfl⟩ := okWide_slice Try.underlying27 (hval 1 27 v1 rfl rfl)
  obtain ⟨fuel1, hf1⟩ := h1
  obtain ⟨l1, rfl, rr1, rc1, rm1⟩ := bytes_of rfl Try.underlying27 Try.underlying5 (by kernel_rfl) hf1
  have k2 := h2
  have lt2 := places_lt k2
  obtain ⟨a2, len2, cap2, rfl⟩ := okWide_slice Try.underlying27 (hval 2 27 v2 rfl rfl)
  obtain ⟨fuel2, hf2⟩ := h2
  obtain ⟨l2, rfl, rr2, rc2, rm2⟩ := bytes_of rfl Try.underlying27 Try.underlying5 (by kernel_rfl) hf2
  clear hA0 hval0
  refine (walk a0 l0 cap0 a1 l1 cap1 a2 l2 cap2 W rr0 rc0 rm0 rr1 rc1 rm1 rr2 rc2 rm2).mono fun e W' ⟨he, bel⟩ => ?_
  subst he
  exact ⟨_, rfl, _, _, _, [], _, [], hW', trodAll_mk1 (shut_bool Try.underlying4 _), (trodAll_cons_mk (Below.trod laidOut (by kernel_rfl) (of_decide_eq_true (by kernel_rfl)) k0 bel lt0) (trodAll_cons_mk (Below.trod laidOut (by kernel_rfl) (of_decide_eq_true (by kernel_rfl)) k1 bel lt1) (trodAll_cons_mk (Below.trod laidOut (by kernel_rfl) (of_decide_eq_true (by kernel_rfl)) k2 bel lt2) trodAll_mk0))), rfl, bel.frame _, fun h => by cases h⟩

theorem proved : Rows.CtrTextsSaid :=
  OpenClaim.holds_of_wide 7 Try.f7 rfl rfl rfl rfl rfl rfl rfl ⟨rfl, rfl, rfl, rfl, rfl⟩ rfl rfl rfl rfl rfl (by kernel_rfl) Try.func7 (by kernel_rfl)
    (of_decide_eq_true (by kernel_rfl)) (by unfold Func.isWrapper; first | (rw [if_pos (by decide +kernel)]; kernel_rfl) | (rw [if_neg (by decide +kernel)]; exact ⟨rfl, rfl⟩))
    (fun os started H enc _ => lifted os started H enc)
#print axioms proved
end Go.Proofs.Yteecbjpnnklbpaa.CtrTexts
