/- CrcTurned: for every input the law returns true: bytes of which one is turned have another sum. No condition. -/
import Derived.Test.YtknjkafjeicmbaaCrc
import Derived.Test.YtknjkafjeicmbaaRef01
import Derived.Test.YtknjkafjeicmbaaOpen
namespace Go.Proofs.Ytknjkafjeicmbaa.CrcTurned
open Go.ChangeShapes Go.WideShapes Go.ChangeAt Go.RowKit Go.Joins
open Go.ChangeMaps (open_string shut_string)
set_option linter.unusedVariables false

theorem xor_ne {x y : UInt8} (h : y ≠ 0) : x ^^^ y ≠ x := fun e => h (by
  have : x ^^^ (x ^^^ y) = x ^^^ x := by rw [e]
  rwa [← UInt8.xor_assoc, UInt8.xor_self, UInt8.zero_xor] at this)

set_option maxHeartbeats 400000 in
theorem walk (A : Option Addr) (l : List UInt8) (c : Nat) (i : Int) (y : UInt8) (w : World)
    (ha : Rd w w.heap.size A (l.map e8)) (hc : l.length ≤ c) (hcm : c ≤ maxLen) (hi0 : -9223372036854775808 ≤ i) (hi1 : i ≤ 9223372036854775807) :
    Calls Try.prog 4 #[.slice A l.length c, .int .i64 i, .int .u8 (y.toNat : Int)] w fun e w' => e = .returned (.bool true) ∧ Below w.heap.size w w' := by
  unfold maxLen at hcm
  by_cases h1 : 300 < l.length
  · go_enter Try.func4, Try.ntmps4
    go_wp2_with (go_at_call 14; refine (Crc.alive_any _).mono ?_; rintro e w' ⟨rfl, hw⟩)
    go_ret
    exact ⟨rfl, hw⟩
  · by_cases h2 : l.length = 0
    · have t2 := beq_yes (show (l.length : Int) = 0 by omega)
      clear h2
      go_enter Try.func4, Try.ntmps4
      go_wp2_with (go_at_call 14; refine (Crc.alive_any _).mono ?_; rintro e w' ⟨rfl, hw⟩)
      go_ret
      exact ⟨rfl, hw⟩
    · have t2 := beq_no (show (l.length : Int) ≠ 0 by omega)
      by_cases h3 : y = 0
      · subst h3
        go_enter Try.func4, Try.ntmps4
        go_wp2_with (go_at_call 14; refine (Crc.alive_any _).mono ?_; rintro e w' ⟨rfl, hw⟩)
        go_ret
        exact ⟨rfl, hw⟩
      · have t3 : ((y.toNat : Int) == 0) = false := beq8 (b := 0) h3
        have H3 := Lib.hid h3
        clear h3
        have hpos : 0 < l.length := by omega
        clear h2
        obtain ⟨i0, hi0', hz0, hz1, hz2⟩ := info_parts R1.info8
        go_enter Try.func4, Try.ntmps4
        go_wp2_with (at_builtin; refine wpList_append_rd _ rfl _ _ _ rfl w.heap.size 5 i0 _ 1 1 Try.underlying22 hi0' hz0 hz1 hz2 rfl (by omega) (.slice (some ⟨w.heap.size, 0, none⟩) 0 0) 0 [] rfl (World.ownsRow_lit w #[] 0 (Nat.le_refl _) (by simp) rfl) w.heap.size A l.length c (l.map e8) rfl (by simp) (ha.below (below_lit w _)) (e8_one _) (by simp only [maxLen]; omega) (by omega) (le_alloc (Nat.le_refl _) _) ?_; intro v1 w1 hown1 hg1 hat1)
        have b1 : Below w.heap.size w w1 := (below_lit w _).grown hg1 (le_alloc (Nat.le_refl _) _) (fun g hg => by simp [Value.ownBlock] at hg; omega)
        refine (R1.mod_any _ _ _ (by omega) (by omega) (by omega) (by omega)).mono ?_
        rintro e w1' ⟨rfl, rfl⟩
        obtain ⟨k, hk, hkl⟩ : ∃ k : Nat, R1.modI i (l.length : Int) = (k : Int) ∧ k < l.length := by
          have h5 := Int.emod_nonneg i (show (l.length : Int) ≠ 0 by omega)
          have h6 := Int.emod_lt_of_pos i (show 0 < (l.length : Int) by omega)
          exact ⟨(R1.modI i l.length).toNat, by unfold R1.modI; rw [if_neg (by omega)]; omega, by unfold R1.modI; rw [if_neg (by omega)]; omega⟩
        rw [hk]
        clear hk
        simp only [Nat.zero_add, List.nil_append] at hown1
        obtain ⟨g, cap, rfl, hgb⟩ := own_some hown1 hpos
        have hlm : k < (l.map e8).length := by simpa using hkl
        have hc1 := World.ownsRow.cellAt hown1 k (by omega)
        rw [List.getElem?_eq_getElem hlm, List.getElem_map] at hc1
        have hf1 := World.ownsRow.frozenAt hown1 k
        have hst := (World.ownsRow.stored hown1 k (e8 (l[k] ^^^ y))).1
        rw [← List.map_set] at hst
        have Hst := Lib.hid hst
        have hx := xor8 l[k] y
        clear hst hown1
        go_wp2_with fail
        refine (Crc.of_any _ (l.set k (l[k] ^^^ y)) _ _ _ (by simp) (Rd.own Hst.out) (by simp; omega)).mono ?_
        rintro e w2 ⟨rfl, b2⟩
        have b2' := b1.trans ((Below.refl _ _).setCell (by simpa using hgb) _) |>.trans (b2.mono (by simpa using b1.size))
        go_wp2_with fail
        refine (Crc.of_any _ _ _ _ _ rfl (ha.on b2') (by omega)).mono ?_
        rintro e w3 ⟨rfl, b3⟩
        have b3' := b2'.trans (b3.mono b2'.size)
        have hne := bne_yes (show ((Crc.more 0 (l.set k (l[k] ^^^ y))).toNat : Int) ≠ ((Crc.more 0 l).toNat : Int) from fun e => Crc.more_set l k _ hkl (xor_ne H3.out) (UInt32.toNat_inj.1 (Int.natCast_inj.1 e)))
        go_wp2_with (go_at_call 14; refine (Crc.alive_any _).mono ?_; rintro e w' ⟨rfl, hw⟩)
        go_ret
        exact ⟨rfl, b3'.trans (hw.mono b3'.size)⟩

set_option maxRecDepth 100000 in
theorem lifted (os : Os) (started : os.Started) (H : Type) (enc : TypeId × Value → H) :
    ReturnsInHanded {} Try.checked os 4 .any (Rows.crcTurnedSpec.pre6 enc Try.prog Try.f4 Rows.crcTurnedRow.domain false) (Rows.crcTurnedSpec.post enc Try.prog Try.f4 false true false false) := by
  refine returnsInHanded_of_change (C := Try.checked) own started (by kernel_rfl) Try.func4
    (ChangeSpec.witness6 (enc := enc) (C := Try.checked) false ⟨#[], #[.slice none 0 0, .int .i64 0, .int .u8 0], []⟩ 8 (by kernel_rfl) (by kernel_rfl) (by kernel_rfl) (by kernel_rfl)) ?_
  intro W base args ds gs before hval0 hW hcnd _
  have hval : ∀ (j : Nat) t v, Try.f4.params[j]? = some t → args[j]? = some v → Value.okWide Try.prog W .any base t v := hval0
  have hW' := hW
  obtain ⟨p, q, hA0, hV, rfl, hfz, hnd⟩ := hW
  have hA : DataW.TrodAll enc Try.prog W 0 (fun _ => true) true Try.f4.params.toList args.toList ds p := hA0
  rw [Try.params4] at hA hval
  obtain ⟨v0, vs0, d0, ds0, p0, q0, hargs, rfl, rfl, h0, r0⟩ := trodAll_cons hA
  obtain ⟨v1, vs1, d1, ds1, p1, q1, rfl, rfl, rfl, h1, r1⟩ := trodAll_cons r0
  obtain ⟨v2, vs2, d2, ds2, p2, q2, rfl, rfl, rfl, h2, r2⟩ := trodAll_cons r1
  obtain ⟨rfl, rfl, rfl⟩ := trodAll_nil r2
  obtain rfl : args = #[v0, v1, v2] := by cases args; simp_all
  obtain ⟨rfl, rfl⟩ := trodVars_none hV
  have k0 := h0
  have lt0 := places_lt k0
  obtain ⟨a0, len0, cap0, rfl⟩ := okWide_slice Try.underlying22 (hval 0 22 v0 rfl rfl)
  obtain ⟨fuel0, hf0⟩ := h0
  obtain ⟨l0, rfl, rr0, rc0, rm0⟩ := bytes_of rfl Try.underlying22 Try.underlying5 (by kernel_rfl) hf0
  have k1 := h1
  have lt1 := places_lt k1
  obtain ⟨n1, rfl, _, _, w1⟩ := open_int Try.underlying3 (hval 1 3 v1 rfl rfl) h1
  have k2 := h2
  have lt2 := places_lt k2
  obtain ⟨n2, rfl, _, _, w2⟩ := open_int Try.underlying5 (hval 2 5 v2 rfl rfl) h2
  obtain ⟨x2, rfl⟩ := wf8 w2
  clear hA0 hval0
  refine (walk a0 l0 cap0 n1 x2 W rr0 rc0 rm0 (wfi w1).1 (wfi w1).2).mono fun e W' ⟨he, bel⟩ => ?_
  subst he
  exact ⟨_, rfl, _, _, _, [], _, [], hW', trodAll_mk1 (shut_bool Try.underlying4 _), (trodAll_cons_mk (Below.trod laidOut (by kernel_rfl) (of_decide_eq_true (by kernel_rfl)) k0 bel lt0) (trodAll_cons_mk (Below.trod laidOut (by kernel_rfl) (of_decide_eq_true (by kernel_rfl)) k1 bel lt1) (trodAll_cons_mk (Below.trod laidOut (by kernel_rfl) (of_decide_eq_true (by kernel_rfl)) k2 bel lt2) trodAll_mk0))), rfl, bel.frame _, fun h => by cases h⟩

theorem proved : Rows.CrcTurnedSaid :=
  OpenClaim.holds_of_wide 4 Try.f4 rfl rfl rfl rfl rfl rfl rfl ⟨rfl, rfl, rfl, rfl, rfl⟩ rfl rfl rfl rfl rfl (by kernel_rfl) Try.func4 (by kernel_rfl)
    (of_decide_eq_true (by kernel_rfl)) (by unfold Func.isWrapper; first | (rw [if_pos (by decide +kernel)]; kernel_rfl) | (rw [if_neg (by decide +kernel)]; exact ⟨rfl, rfl⟩))
    (fun os started H enc _ => lifted os started H enc)
#print axioms proved
end Go.Proofs.Ytknjkafjeicmbaa.CrcTurned
