/- CrcSums: for every input the law returns true: the sum of any bytes, and of more behind others, and a step. No condition. -/
import Derived.Test.YtknjkafjeicmbaaCrcRef
import Derived.Test.YtknjkafjeicmbaaRef01
import Derived.Test.YtknjkafjeicmbaaOpen
namespace Go.Proofs.Ytknjkafjeicmbaa.CrcSums
open Go.ChangeShapes Go.WideShapes Go.ChangeAt Go.RowKit Go.Joins
open Go.ChangeMaps (open_string shut_string)
set_option linter.unusedVariables false

set_option maxHeartbeats 400000 in
theorem walk (A : Option Addr) (l : List UInt8) (c : Nat) (x : UInt32) (w : World)
    (ha : Rd w w.heap.size A (l.map e8)) (hc : l.length ≤ c) (hcm : c ≤ maxLen) :
    Calls Try.prog 5 #[.slice A l.length c, .int .u32 (x.toNat : Int)] w fun e w' => e = .returned (.bool true) ∧ Below w.heap.size w w' := by
  unfold maxLen at hcm
  by_cases h1 : 300 * 2 < l.length
  · go_enter Try.func5, Try.ntmps5
    go_wp2_with (go_at_call 14; refine (Crc.alive_any _).mono ?_; rintro e w' ⟨rfl, hw⟩)
    go_ret
    exact ⟨rfl, hw⟩
  · go_enter Try.func5, Try.ntmps5
    go_wp2_with fail
    refine (Crc.of_any _ _ _ _ _ rfl ha (by omega)).mono ?_
    rintro e w1 ⟨rfl, b1⟩
    go_wp2_with fail
    refine (Crc.rof_any _ _ _ _ _ rfl (ha.on b1) (by omega)).mono ?_
    rintro e w1' ⟨rfl, rfl⟩
    go_wp2_with fail
    refine (Crc.step_any _ _).mono ?_
    rintro e w1' ⟨rfl, rfl⟩
    go_wp2_with fail
    refine (Crc.rstep_any _ _).mono ?_
    rintro e w1' ⟨rfl, rfl⟩
    go_wp2_with fail
    refine (Crc.more_any _ _ _ _ _ _ rfl (ha.on b1) (by omega)).mono ?_
    rintro e w2 ⟨rfl, b2⟩
    have b12 := b1.trans (b2.mono b1.size)
    go_wp2_with fail
    refine (Crc.rmore_any _ _ _ _ _ _ rfl (ha.on b12) (by omega)).mono ?_
    rintro e w2' ⟨rfl, rfl⟩
    go_wp2_with fail
    refine (Crc.bytes_any _ _ _ _ _ rfl (ha.on b12) (by omega)).mono ?_
    rintro e w3 ⟨A3, c3, rfl, o3, b3⟩
    have b13 := b12.trans (b3.mono b12.size)
    go_wp2_with fail
    refine (Crc.rbytes_any _ _ _ _ _ rfl (ha.on b13) (by omega)).mono ?_
    rintro e w4 ⟨A4, c4, rfl, o4, b4⟩
    have b14 := b13.trans (b4.mono b13.size)
    go_wp2_with fail
    refine (R1.same_any _ _ (Crc.sumB l) (Crc.sumB l) _ _ _ _ _ rfl rfl ((Rd.own o3).on b4) (Rd.own o4) (by simp [Crc.sumB, Num.putL]) (by simp [Crc.sumB, Num.putL])).mono ?_
    rintro e w5 ⟨rfl, b5⟩
    rw [R1.sameB_self]
    have b15 := b14.trans (b5.mono b14.size)
    go_wp2_with (go_at_call 14; refine (Crc.alive_any _).mono ?_; rintro e w' ⟨rfl, hw⟩)
    go_ret
    exact ⟨rfl, b15.trans (hw.mono b15.size)⟩

set_option maxRecDepth 100000 in
theorem lifted (os : Os) (started : os.Started) (H : Type) (enc : TypeId × Value → H) :
    ReturnsInHanded {} Try.checked os 5 .any (Rows.crcSumsSpec.pre6 enc Try.prog Try.f5 Rows.crcSumsRow.domain false) (Rows.crcSumsSpec.post enc Try.prog Try.f5 false true false false) := by
  refine returnsInHanded_of_change (C := Try.checked) own started (by kernel_rfl) Try.func5
    (ChangeSpec.witness6 (enc := enc) (C := Try.checked) false ⟨#[], #[.slice none 0 0, .int .u32 0], []⟩ 8 (by kernel_rfl) (by kernel_rfl) (by kernel_rfl) (by kernel_rfl)) ?_
  intro W base args ds gs before hval0 hW hcnd _
  have hval : ∀ (j : Nat) t v, Try.f5.params[j]? = some t → args[j]? = some v → Value.okWide Try.prog W .any base t v := hval0
  have hW' := hW
  obtain ⟨p, q, hA0, hV, rfl, hfz, hnd⟩ := hW
  have hA : DataW.TrodAll enc Try.prog W 0 (fun _ => true) true Try.f5.params.toList args.toList ds p := hA0
  rw [Try.params5] at hA hval
  obtain ⟨v0, vs0, d0, ds0, p0, q0, hargs, rfl, rfl, h0, r0⟩ := trodAll_cons hA
  obtain ⟨v1, vs1, d1, ds1, p1, q1, rfl, rfl, rfl, h1, r1⟩ := trodAll_cons r0
  obtain ⟨rfl, rfl, rfl⟩ := trodAll_nil r1
  obtain rfl : args = #[v0, v1] := by cases args; simp_all
  obtain ⟨rfl, rfl⟩ := trodVars_none hV
  have k0 := h0
  have lt0 := places_lt k0
  obtain ⟨a0, len0, cap0, rfl⟩ := okWide_slice Try.underlying22 (hval 0 22 v0 rfl rfl)
  obtain ⟨fuel0, hf0⟩ := h0
  obtain ⟨l0, rfl, rr0, rc0, rm0⟩ := bytes_of rfl Try.underlying22 Try.underlying5 (by kernel_rfl) hf0
  have k1 := h1
  have lt1 := places_lt k1
  obtain ⟨n1, rfl, _, _, w1⟩ := open_int Try.underlying24 (hval 1 24 v1 rfl rfl) h1
  obtain ⟨x1, rfl⟩ := wf32 w1
  clear hA0 hval0
  refine (walk a0 l0 cap0 x1 W rr0 rc0 rm0).mono fun e W' ⟨he, bel⟩ => ?_
  subst he
  exact ⟨_, rfl, _, _, _, [], _, [], hW', trodAll_mk1 (shut_bool Try.underlying4 _), (trodAll_cons_mk (Below.trod laidOut (by kernel_rfl) (of_decide_eq_true (by kernel_rfl)) k0 bel lt0) (trodAll_cons_mk (Below.trod laidOut (by kernel_rfl) (of_decide_eq_true (by kernel_rfl)) k1 bel lt1) trodAll_mk0)), rfl, bel.frame _, fun h => by cases h⟩

theorem proved : Rows.CrcSumsSaid :=
  OpenClaim.holds_of_wide 5 Try.f5 rfl rfl rfl rfl rfl rfl rfl ⟨rfl, rfl, rfl, rfl, rfl⟩ rfl rfl rfl rfl rfl (by kernel_rfl) Try.func5 (by kernel_rfl)
    (of_decide_eq_true (by kernel_rfl)) (by unfold Func.isWrapper; first | (rw [if_pos (by decide +kernel)]; kernel_rfl) | (rw [if_neg (by decide +kernel)]; exact ⟨rfl, rfl⟩))
    (fun os started H enc _ => lifted os started H enc)
#print axioms proved
end Go.Proofs.Ytknjkafjeicmbaa.CrcSums
