/- CrcParts: for every input the law returns true: the sum of two rows is the one that goes on from the first one's. No condition. -/
import Derived.Test.YtknjkafjeicmbaaCrc
import Derived.Test.YtknjkafjeicmbaaRef01
import Derived.Test.YtknjkafjeicmbaaOpen
namespace Go.Proofs.Ytknjkafjeicmbaa.CrcParts
open Go.ChangeShapes Go.WideShapes Go.ChangeAt Go.RowKit Go.Joins
open Go.ChangeMaps (open_string shut_string)
set_option linter.unusedVariables false

set_option maxHeartbeats 400000 in
theorem walk (A : Option Addr) (l : List UInt8) (c : Nat) (B : Option Addr) (m : List UInt8) (d : Nat) (w : World)
    (ha : Rd w w.heap.size A (l.map e8)) (hc : l.length ≤ c) (hcm : c ≤ maxLen) (hb : Rd w w.heap.size B (m.map e8)) (hd : m.length ≤ d) (hdm : d ≤ maxLen) :
    Calls Try.prog 3 #[.slice A l.length c, .slice B m.length d] w fun e w' => e = .returned (.bool true) ∧ Below w.heap.size w w' := by
  unfold maxLen at hcm hdm
  by_cases h1 : 300 < l.length
  · go_enter Try.func3, Try.ntmps3
    go_wp2_with (go_at_call 14; refine (Crc.alive_any _).mono ?_; rintro e w' ⟨rfl, hw⟩)
    go_ret
    exact ⟨rfl, hw⟩
  · by_cases h2 : 300 < m.length
    · go_enter Try.func3, Try.ntmps3
      go_wp2_with (go_at_call 14; refine (Crc.alive_any _).mono ?_; rintro e w' ⟨rfl, hw⟩)
      go_ret
      exact ⟨rfl, hw⟩
    · go_enter Try.func3, Try.ntmps3
      go_wp2_with fail
      refine (R1.join_any _ _ _ _ _ _ _ _ _ rfl rfl ha hb (by omega)).mono ?_
      rintro e w1 ⟨A1, c1, rfl, hown1, hb1⟩
      go_wp2_with fail
      refine (Crc.of_any _ _ _ _ _ (by simp) (Rd.own hown1) (by simp; omega)).mono ?_
      rintro e w2 ⟨rfl, hb2⟩
      rw [Crc.more_join]
      go_wp2_with fail
      have hb12 := hb1.trans (hb2.mono hb1.size)
      refine (Crc.of_any _ _ _ _ _ rfl (ha.on hb12) (by omega)).mono ?_
      rintro e w3 ⟨rfl, hb3⟩
      have hb13 := hb12.trans (hb3.mono hb12.size)
      go_wp2_with fail
      refine (Crc.more_any _ _ _ _ _ _ rfl (hb.on hb13) (by omega)).mono ?_
      rintro e w4 ⟨rfl, hb4⟩
      have hb14 := hb13.trans (hb4.mono hb13.size)
      go_wp2_with (go_at_call 14; refine (Crc.alive_any _).mono ?_; rintro e w' ⟨rfl, hw⟩)
      go_ret
      exact ⟨rfl, hb14.trans (hw.mono hb14.size)⟩

set_option maxRecDepth 100000 in
theorem lifted (os : Os) (started : os.Started) (H : Type) (enc : TypeId × Value → H) :
    ReturnsInHanded {} Try.checked os 3 .any (Rows.crcPartsSpec.pre6 enc Try.prog Try.f3 Rows.crcPartsRow.domain false) (Rows.crcPartsSpec.post enc Try.prog Try.f3 false true false false) := by
  refine returnsInHanded_of_change (C := Try.checked) own started (by kernel_rfl) Try.func3
    (ChangeSpec.witness6 (enc := enc) (C := Try.checked) false ⟨#[], #[.slice none 0 0, .slice none 0 0], []⟩ 8 (by kernel_rfl) (by kernel_rfl) (by kernel_rfl) (by kernel_rfl)) ?_
  intro W base args ds gs before hval0 hW hcnd _
  have hval : ∀ (j : Nat) t v, Try.f3.params[j]? = some t → args[j]? = some v → Value.okWide Try.prog W .any base t v := hval0
  have hW' := hW
  obtain ⟨p, q, hA0, hV, rfl, hfz, hnd⟩ := hW
  have hA : DataW.TrodAll enc Try.prog W 0 (fun _ => true) true Try.f3.params.toList args.toList ds p := hA0
  rw [Try.params3] at hA hval
  obtain ⟨v0, vs0, d0, ds0, p0, q0, hargs, rfl, rfl, h0, r0⟩ := trodAll_cons hA
  obtain ⟨v1, vs1, d1, ds1, p1, q1, rfl, rfl, rfl, h1, r1⟩ := trodAll_cons r0
  obtain ⟨rfl, rfl, rfl⟩ := trodAll_nil r1
  obtain rfl : args = #[v0, v1] := by cases args; simp_all
  obtain ⟨rfl, rfl⟩ := trodVars_none hV
  have k0 := h0
  have lt0 := places_lt k0
  obtain ⟨a0, len0, cap0, rfl⟩ := okWide_slice Try.underlying22 (hval 0 22 v0 rfl rfl)
  obtain ⟨fuel0, hf0⟩ := h0
  obtain ⟨l0, rfl, rr0, rc0, rm0⟩ := bytes_of rfl Try.underlying22 Try.underlying5 (by kernel_rfl) hf0
  have k1 := h1
  have lt1 := places_lt k1
  obtain ⟨a1, len1, cap1, rfl⟩ := okWide_slice Try.underlying22 (hval 1 22 v1 rfl rfl)
  obtain ⟨fuel1, hf1⟩ := h1
  obtain ⟨l1, rfl, rr1, rc1, rm1⟩ := bytes_of rfl Try.underlying22 Try.underlying5 (by kernel_rfl) hf1
  clear hA0 hval0
  refine (walk a0 l0 cap0 a1 l1 cap1 W rr0 rc0 rm0 rr1 rc1 rm1).mono fun e W' ⟨he, bel⟩ => ?_
  subst he
  exact ⟨_, rfl, _, _, _, [], _, [], hW', trodAll_mk1 (shut_bool Try.underlying4 _), (trodAll_cons_mk (Below.trod laidOut (by kernel_rfl) (of_decide_eq_true (by kernel_rfl)) k0 bel lt0) (trodAll_cons_mk (Below.trod laidOut (by kernel_rfl) (of_decide_eq_true (by kernel_rfl)) k1 bel lt1) trodAll_mk0)), rfl, bel.frame _, fun h => by cases h⟩

theorem proved : Rows.CrcPartsSaid :=
  OpenClaim.holds_of_wide 3 Try.f3 rfl rfl rfl rfl rfl rfl rfl ⟨rfl, rfl, rfl, rfl, rfl⟩ rfl rfl rfl rfl rfl (by kernel_rfl) Try.func3 (by kernel_rfl)
    (of_decide_eq_true (by kernel_rfl)) (by unfold Func.isWrapper; first | (rw [if_pos (by decide +kernel)]; kernel_rfl) | (rw [if_neg (by decide +kernel)]; exact ⟨rfl, rfl⟩))
    (fun os started H enc _ => lifted os started H enc)
#print axioms proved
end Go.Proofs.Ytknjkafjeicmbaa.CrcParts
