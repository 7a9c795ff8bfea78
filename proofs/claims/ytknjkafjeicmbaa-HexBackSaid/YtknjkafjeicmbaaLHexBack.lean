/- HexBack: for every input the law returns true: bytes are read of their text as they were, what is read has just that text, and rows together are the whole. No condition. -/
import Derived.Test.YtknjkafjeicmbaaHexAlive
import Derived.Test.YtknjkafjeicmbaaHexParse
import Derived.Test.YtknjkafjeicmbaaRef01
import Derived.Test.YtknjkafjeicmbaaOpen
import Derived.Deep.QuietTactic
import Derived.BigQuiet
namespace Go.Proofs.Ytknjkafjeicmbaa.HexBack
open Go.ChangeShapes Go.WideShapes Go.ChangeAt Go.RowKit Go.Joins
open Go.ChangeMaps (open_string shut_string)
open Go.Proofs.Ytknjkafjeicmbaa.Hex
set_option linter.unusedVariables false

theorem parse_print (l : List UInt8) : parse (print l) = (l, 0, 0) := by
  have hb : bad (print l) = none := bad_none (fun j hj => good_print l _ (List.getElem_mem hj))
  unfold parse
  rw [hb]
  have : (print l).length % 2 = 0 := by rw [print_len]; omega
  simp [this, outp_print]
theorem bad_good {s : List UInt8} (h : bad s = none) : good s := by
  intro c hc
  unfold bad at h
  rw [List.findIdx?_eq_none_iff] at h
  have := h c hc
  simpa using this
/-- what is read: good, and just that text; or nothing, with a fault -/
theorem parse_cases (s : List UInt8) : (print (parse s).1 = s ∧ (parse s).2.2 = 0) ∨ ((parse s).1 = [] ∧ (parse s).2.2 = 3) := by
  unfold parse
  cases h : bad s with
  | some i => exact .inr ⟨rfl, rfl⟩
  | none =>
    by_cases h2 : s.length % 2 = 0
    · simp only [h2, if_true]; exact .inl ⟨print_outp s (bad_good h) h2, trivial⟩
    · simp only [h2, if_false]; exact .inr ⟨trivial, trivial⟩
theorem parse_le (s : List UInt8) : (parse s).1.length ≤ s.length := by
  unfold parse
  cases h : bad s with
  | some i => simp
  | none =>
    simp only []
    split
    · rw [outp_len]; omega
    · simp

theorem flat_step (Z : List (List UInt8)) (k : Nat) (h : k < Z.length) : (Z.take (k + 1)).flatten = (Z.take k).flatten ++ Z[k] := by
  rw [List.take_succ_eq_append_getElem h, List.flatten_append]; simp
theorem flat_le (Z : List (List UInt8)) (k : Nat) (h : k < Z.length) : (Z.take k).flatten.length + Z[k].length ≤ Z.flatten.length := by
  have h1 : Z.flatten = (Z.take (k + 1)).flatten ++ (Z.drop (k + 1)).flatten := by rw [← List.flatten_append, List.take_append_drop]
  rw [h1, flat_step Z k h]; simp only [List.length_append]; omega
theorem rows_len_flat (l : List UInt8) (wd : Nat) (h : 1 ≤ wd) : (rows l wd (rowN l.length wd)).flatten = print l := by
  rw [rows_flat, List.take_of_length_le]
  have := mt (rowN_lt (n := l.length) h (rowN l.length wd)).2 (by omega)
  omega
theorem rowsZ_flat (l : List UInt8) (wd : Int) (h : ¬ (wd < 1 ∨ 64 < wd)) : (rowsZ l wd).flatten = print l := by
  rw [rowsZ, if_neg h, rows_len_flat _ _ (by omega)]
theorem rowsZ_len (l : List UInt8) (wd : Int) : (rowsZ l wd).flatten.length ≤ 2 * l.length ∧ (rowsZ l wd).length ≤ l.length := by
  by_cases h : wd < 1 ∨ 64 < wd
  · rw [rowsZ, if_pos h]; simp
  · rw [rowsZ_flat _ _ h, print_len, rowsZ, if_neg h, rows_len]
    exact ⟨Nat.le_refl _, rowN_le (by omega)⟩

set_option maxRecDepth 100000 in
set_option maxHeartbeats 2000000 in
theorem walk (A : Option Addr) (l : List UInt8) (c : Nat) (S : ByteArray) (wd : Int) (w : World) (hr : Rd w w.heap.size A (l.map e8)) (hc : l.length ≤ c) (hcm : c ≤ maxLen) (hS : S.size ≤ maxLen) (hw0 : -9223372036854775808 ≤ wd) (hw1 : wd ≤ 9223372036854775807) :
    Calls Try.prog 12 #[.slice A l.length c, .string S, .int .i64 wd] w fun e w' => e = .returned (.bool true) ∧ Below w.heap.size w w' := by
  obtain ⟨s, rfl⟩ : ∃ s : List UInt8, S = ⟨s.toArray⟩ := ⟨S.data.toList, by simp⟩
  by_cases h1 : 300 < l.length
  · go_enter Try.func12, Try.ntmps12
    go_wp2_with (go_at_call 39; refine (alive_any _).mono ?_; rintro e w' ⟨rfl, hw⟩)
    go_ret
    exact ⟨rfl, hw⟩
  · by_cases h2 : 300 < s.length
    · go_enter Try.func12, Try.ntmps12
      go_wp2_with (go_at_call 39; refine (alive_any _).mono ?_; rintro e w' ⟨rfl, hw⟩)
      go_ret
      exact ⟨rfl, hw⟩
    · have hpr := Lib.hid (fun W (hW : Below w.heap.size w W) => print_any A l l.length c W rfl (hr.on hW) (by omega))
      have hpl := print_len l
      have hpp := parse_print l
      obtain ⟨T, hT⟩ : ∃ T, T = print l := ⟨_, rfl⟩
      rw [← hT] at hpr hpl hpp
      have hpa := fun W => parse_any T W (by omega)
      rw [hpp] at hpa
      have Hpa := Lib.hid hpa
      have hq := parse_cases s
      have hql := parse_le s
      have hps := fun W => parse_any s W (by omega)
      obtain ⟨R, hR⟩ : ∃ R, R = parse s := ⟨_, rfl⟩
      rw [← hR] at hps hq hql
      have Hps := Lib.hid hps
      have HT := Lib.hid hT
      clear hR hps hpa hpp hT
      go_enter Try.func12, Try.ntmps12
      go_wp2_with fail
      refine (hpr.out _ (Below.refl _ _)).mono ?_
      rintro e w1 ⟨rfl, b1⟩
      go_wp2_with fail
      refine (Hpa.out _).mono ?_
      rintro e w2 ⟨v, rfl, own2, b2⟩
      obtain ⟨A2, c2, rfl⟩ := own_form own2
      have bt2 := bt b1 b2
      go_wp2_with fail
      refine (R1.same_any A2 A l l _ _ _ _ _ rfl rfl (Rd.own own2) (hr.on bt2) (by omega) (by omega)).mono ?_
      rintro e w3 ⟨rfl, b3⟩
      rw [R1.sameB_self]
      have bt3 := bt bt2 b3
      clear own2
      go_wp2_with fail
      refine (Hps.out _).mono ?_
      rintro e w4 ⟨v4, rfl, own4, b4⟩
      obtain ⟨A4, c4, rfl⟩ := own_form own4
      obtain ⟨R1, R2, R3⟩ := R
      have bt4 := bt bt3 b4
      simp only [] at hq hql own4 ⊢
      have hzl := rowsZ_len l wd
      have hzf := fun h => rowsZ_flat l wd h
      obtain ⟨Z, hZ⟩ : ∃ Z, Z = rowsZ l wd := ⟨_, rfl⟩
      rw [← hZ] at hzl hzf
      rw [← HT.out] at hzf
      have HZ := Lib.hid hZ
      have Hzf := Lib.hid hzf
      clear hZ hzf
      have hzl6 : Z.flatten.length ≤ 600 := by omega
      rcases hq with ⟨hq1, rfl⟩ | ⟨rfl, rfl⟩
      rotate_left
      go_wp2_with fail
      have btX := bt4
      rotate_left
      have hp4 := print_any A4 R1 R1.length c4 w4 rfl (Rd.own own4) (by omega)
      rw [hq1] at hp4
      have Hp4 := Lib.hid hp4
      clear hq1 hp4 own4
      go_wp2_with fail
      refine Hp4.out.mono ?_
      rintro e w5 ⟨rfl, b5⟩
      have btX := bt bt4 b5
      go_wp2_with fail
      all_goals
        refine (rows_any A l l.length c wd _ rfl (hr.on btX) (by omega) hc hcm).mono ?_
        rintro e w6 ⟨v6, rfl, own6, b6⟩
        obtain ⟨A6, c6, rfl⟩ := own_form own6
        rw [← HZ.out] at own6 ⊢
        have bt6 := bt btX b6
        have hrd := Rd.own own6
        have hml : Z.length ≤ 1000 := by omega
        clear own6 btX b6
        go_wp2_with fail
        go_loopw [13, 15] (fun x i wr => ∃ k : Nat, k ≤ Z.length ∧ i = .int .i64 k ∧ x = .string ⟨((Z.take k).flatten).toArray⟩ ∧ Below w6.heap.size w6 wr) (fun _ i _ => Z.length - (intOf i).toNat)
        case atStart => exact ⟨0, by omega, rfl, rfl, Below.refl _ _⟩
        case round =>
          obtain ⟨k, hk, rfl, rfl, bel⟩ := hrel
          by_cases hlt : k < Z.length
          · obtain ⟨b, off, rfl, hbb, hcell⟩ := (hrd.below bel).get (k := k) (by rw [List.length_map]; exact hlt)
            rw [List.getElem_map] at hcell
            have hst := flat_step Z k hlt
            have hle := flat_le Z k hlt
            obtain ⟨row, hrow⟩ : ∃ row, row = Z[k] := ⟨_, rfl⟩
            obtain ⟨X, hX⟩ : ∃ X, X = (Z.take k).flatten := ⟨_, rfl⟩
            rw [← hrow] at hst hle hcell
            rw [← hX] at hst hle ⊢
            have Hst := Lib.hid hst
            clear hrow hX hst
            have hcell' : wr.cell? ⟨b, off + k, none⟩ = some (.string ⟨row.toArray⟩) := hcell
            have hl1 : X.length ≤ 600 := by omega
            have hl2 : row.length ≤ 600 := by omega
            clear hcell hle
            go_wp2
            go_roundw
            case rel => exact ⟨k + 1, by omega, by go_num, by rw [Hst.out, ← ba_append], bel⟩
            case measure => simp [intOf]; omega
          · obtain rfl : k = Z.length := by omega
            rw [List.take_length]
            by_cases hbad : wd < 1 ∨ 64 < wd
            · by_cases g1 : wd < 1
              · clear hbad
                go_wp2_with (go_at_call 39; refine (alive_any _).mono ?_; rintro e w' ⟨rfl, hw⟩)
                go_ret
                exact ⟨rfl, bt (bt bt6 bel) hw⟩
              · have g2 : 64 < wd := by omega
                clear hbad
                go_wp2_with (go_at_call 39; refine (alive_any _).mono ?_; rintro e w' ⟨rfl, hw⟩)
                go_ret
                exact ⟨rfl, bt (bt bt6 bel) hw⟩
            · have g1 : ¬ wd < 1 := fun h => hbad (.inl h)
              have g2 : ¬ 64 < wd := fun h => hbad (.inr h)
              rw [Hzf.out hbad]
              clear hbad
              go_wp2_with fail
              refine (hpr.out _ (bt bt6 bel)).mono ?_
              rintro e w8 ⟨rfl, b8⟩
              go_wp2_with (go_at_call 39; refine (alive_any _).mono ?_; rintro e w' ⟨rfl, hw⟩)
              go_ret
              exact ⟨rfl, bt (bt (bt bt6 bel) b8) hw⟩
set_option maxRecDepth 100000 in
theorem lifted (os : Os) (started : os.Started) (H : Type) (enc : TypeId × Value → H) :
    ReturnsInHanded {} Try.checked os 12 .any (Rows.hexBackSpec.pre6 enc Try.prog Try.f12 Rows.hexBackRow.domain false) (Rows.hexBackSpec.post enc Try.prog Try.f12 false true false false) := by
  refine returnsInHanded_of_change (C := Try.checked) own started (by kernel_rfl) Try.func12
    (ChangeSpec.witness6 (enc := enc) (C := Try.checked) false ⟨#[], #[.slice none 0 0, .string ⟨#[]⟩, .int .i64 0], []⟩ 8 (by kernel_rfl) (by kernel_rfl) (by kernel_rfl) (by kernel_rfl)) ?_
  intro W base args ds gs before hval0 hW hcnd _
  have hval : ∀ (j : Nat) t v, Try.f12.params[j]? = some t → args[j]? = some v → Value.okWide Try.prog W .any base t v := hval0
  have hW' := hW
  obtain ⟨p, q, hA0, hV, rfl, hfz, hnd⟩ := hW
  have hA : DataW.TrodAll enc Try.prog W 0 (fun _ => true) true Try.f12.params.toList args.toList ds p := hA0
  rw [Try.params12] at hA hval
  obtain ⟨v0, vs0, d0, ds0, p0, q0, hargs, rfl, rfl, h0, r0⟩ := trodAll_cons hA
  obtain ⟨v1, vs1, d1, ds1, p1, q1, rfl, rfl, rfl, h1, r1⟩ := trodAll_cons r0
  obtain ⟨v2, vs2, d2, ds2, p2, q2, rfl, rfl, rfl, h2, r2⟩ := trodAll_cons r1
  obtain ⟨rfl, rfl, rfl⟩ := trodAll_nil r2
  obtain rfl : args = #[v0, v1, v2] := by cases args; simp_all
  obtain ⟨rfl, rfl⟩ := trodVars_none hV
  have k0 := h0
  have lt0 := places_lt k0
  obtain ⟨a0, len0, cap0, rfl⟩ := okWide_slice Try.underlying22 (hval 0 22 v0 rfl rfl)
  obtain ⟨fuel0, hf0⟩ := h0
  obtain ⟨l0, rfl, rr0, rc0, rm0⟩ := bytes_of rfl Try.underlying22 Try.underlying5 (by kernel_rfl) hf0
  have k1 := h1
  have lt1 := places_lt k1
  obtain ⟨s1, rfl, _, _, ws1⟩ := open_string Try.underlying9 (hval 1 9 v1 rfl rfl) h1
  have k2 := h2
  have lt2 := places_lt k2
  obtain ⟨n2, rfl, _, _, w2⟩ := open_int Try.underlying3 (hval 2 3 v2 rfl rfl) h2
  clear hA0 hval0
  refine (walk a0 l0 cap0 s1 n2 W rr0 rc0 rm0 ws1 (wfi w2).1 (wfi w2).2).mono fun e W' ⟨he, bel⟩ => ?_
  subst he
  exact ⟨_, rfl, _, _, _, [], _, [], hW', trodAll_mk1 (shut_bool Try.underlying4 _), (trodAll_cons_mk (Below.trod laidOut (by kernel_rfl) (of_decide_eq_true (by kernel_rfl)) k0 bel lt0) (trodAll_cons_mk (Below.trod laidOut (by kernel_rfl) (of_decide_eq_true (by kernel_rfl)) k1 bel lt1) (trodAll_cons_mk (Below.trod laidOut (by kernel_rfl) (of_decide_eq_true (by kernel_rfl)) k2 bel lt2) trodAll_mk0))), rfl, bel.frame _, fun h => by cases h⟩

theorem proved : Rows.HexBackSaid :=
  OpenClaim.holds_of_wide 12 Try.f12 rfl rfl rfl rfl rfl rfl rfl ⟨rfl, rfl, rfl, rfl, rfl⟩ rfl rfl rfl rfl rfl (by kernel_rfl) Try.func12 (by kernel_rfl)
    (of_decide_eq_true (by kernel_rfl)) (by unfold Func.isWrapper; first | (rw [if_pos (by decide +kernel)]; kernel_rfl) | (rw [if_neg (by decide +kernel)]; exact ⟨rfl, rfl⟩))
    (fun os started H enc _ => lifted os started H enc)
#print axioms proved
end Go.Proofs.Ytknjkafjeicmbaa.HexBack
