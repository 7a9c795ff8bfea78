/- HexSizes: for every input the law returns true: how long texts and rows are: two signs to a byte, as many rows as it takes. No condition. -/
import Derived.Test.YtknjkafjeicmbaaHexAlive
import Derived.Test.YtknjkafjeicmbaaOpen
import Derived.Deep.QuietTactic
import Derived.BigQuiet
namespace Go.Proofs.Ytknjkafjeicmbaa.HexSizes
open Go.ChangeShapes Go.WideShapes Go.ChangeAt Go.RowKit Go.Joins
open Go.ChangeMaps (open_string shut_string)
open Go.Proofs.Ytknjkafjeicmbaa.Hex
set_option linter.unusedVariables false

theorem short_le (l : List UInt8) : (short l).length ≤ 8 := by
  unfold short
  split
  · rw [print_len]; omega
  · rw [List.length_append, print_len, List.length_take]; simp; omega
theorem rowT_len (l : List UInt8) (wd k : Nat) : (rowT l wd k).length = 2 * min wd (l.length - wd * k) := row_len l wd k
theorem rowT_facts (l : List UInt8) {wd m k : Nat} (hw : 1 ≤ wd) (hm : m = rowN l.length wd) (hk : k < m) : (rowT l wd k).length ≤ 2 * wd ∧ (k + 1 < m → (rowT l wd k).length = 2 * wd) ∧ (rowT l wd k).length ≠ 0 := by
  have h1 := (rowN_lt (n := l.length) hw k).1 (by omega)
  rw [rowT_len]
  refine ⟨by omega, fun h => ?_, by omega⟩
  have h2 := (rowN_lt (n := l.length) hw (k + 1)).1 (by omega)
  rw [Nat.mul_succ] at h2
  omega

set_option maxRecDepth 100000 in
set_option maxHeartbeats 1000000 in
theorem walk (A : Option Addr) (l : List UInt8) (c : Nat) (wd : Int) (w : World) (hr : Rd w w.heap.size A (l.map e8)) (hc : l.length ≤ c) (hcm : c ≤ maxLen) (hw0 : -9223372036854775808 ≤ wd) (hw1 : wd ≤ 9223372036854775807) :
    Calls Try.prog 7 #[.slice A l.length c, .int .i64 wd] w fun e w' => e = .returned (.bool true) ∧ Below w.heap.size w w' := by
  by_cases h1 : 300 < l.length
  · go_enter Try.func7, Try.ntmps7
    go_wp2_with (go_at_call 39; refine (alive_any _).mono ?_; rintro e w' ⟨rfl, hw⟩)
    go_ret
    exact ⟨rfl, hw⟩
  · have hrows := Lib.hid (rows_any A l l.length c wd w rfl hr (by omega) hc hcm)
    have hpr := Lib.hid (fun W (hW : Below w.heap.size w W) => print_any A l l.length c W rfl (hr.on hW) (by omega))
    have hsh := Lib.hid (fun W (hW : Below w.heap.size w W) => short_any A l l.length c W rfl (hr.on hW) (by omega) hc)
    have hpl := print_len l
    have hsl := short_le l
    obtain ⟨T, hT⟩ : ∃ T, T = print l := ⟨_, rfl⟩
    obtain ⟨S, hS⟩ : ∃ S, S = short l := ⟨_, rfl⟩
    rw [← hT] at hpr hpl
    rw [← hS] at hsh hsl
    have t1 : ((T.length : Int) != 2 * (l.length : Int)) = false := by rw [bne_eq_false_iff_eq]; omega
    clear hT hS hpl
    go_enter Try.func7, Try.ntmps7
    go_wp2_with fail
    refine hrows.out.mono ?_
    rintro e w1 ⟨v, rfl, hown, b1⟩
    obtain ⟨A1, c1, rfl⟩ := own_form hown
    go_wp2_with fail
    refine (hpr.out _ b1).mono ?_
    rintro e w2 ⟨rfl, b2⟩
    go_wp2_with fail
    refine (hsh.out _ (bt b1 b2)).mono ?_
    rintro e w3 ⟨rfl, b3⟩
    have bt3 := bt (bt b1 b2) b3
    have hown3 := own_on (own_on hown b2) b3
    clear hown
    by_cases hbad : wd < 1 ∨ 64 < wd
    · have hz : rowsZ l wd = [] := if_pos hbad
      rw [hz] at hown3 ⊢
      simp only [List.length_nil, List.map_nil] at hown3 ⊢
      clear hz
      by_cases h2 : wd < 1
      · clear hbad
        go_wp2_with (go_at_call 39; refine (alive_any _).mono ?_; rintro e w' ⟨rfl, hw⟩)
        go_ret
        exact ⟨rfl, bt bt3 hw⟩
      · have h3 : 64 < wd := by omega
        clear hbad
        go_wp2_with (go_at_call 39; refine (alive_any _).mono ?_; rintro e w' ⟨rfl, hw⟩)
        go_ret
        exact ⟨rfl, bt bt3 hw⟩
    · have h2 : ¬ wd < 1 := fun h => hbad (.inl h)
      have h3 : ¬ 64 < wd := fun h => hbad (.inr h)
      obtain ⟨W, rfl⟩ : ∃ W : Nat, wd = (W : Int) := ⟨wd.toNat, by omega⟩
      obtain ⟨m, hm⟩ : ∃ m, m = rowN l.length W := ⟨_, rfl⟩
      have hz : rowsZ l W = rows l W m := by rw [rowsZ, if_neg hbad, Int.toNat_natCast, hm]
      have hfacts := Lib.hid (fun k (hk : k < m) => rowT_facts l (wd := W) (by omega) hm hk)
      rw [hz] at hown3 ⊢
      rw [rows_len] at hown3 ⊢
      have hrd := Rd.own hown3
      have Hm := Lib.hid hm
      clear hbad hz hm hown3
      have hml : m ≤ l.length := by rw [Hm.out]; exact rowN_le (by omega)
      go_wp2_with fail
      go_loopw [6] (fun i wr => ∃ k : Nat, k ≤ m ∧ i = .int .i64 k ∧ Below w3.heap.size w3 wr) (fun i _ => m - (intOf i).toNat)
      case atStart => exact ⟨0, by omega, rfl, Below.refl _ _⟩
      case round =>
        obtain ⟨k, hk, rfl, bel⟩ := hrel
        by_cases hlt : k < m
        · obtain ⟨b, off, rfl, hbb, hcell⟩ := (hrd.below bel).get (k := k) (by rw [List.length_map, rows_len]; exact hlt)
          rw [List.getElem_map, rows_get _ _ _ _ hlt] at hcell
          obtain ⟨f1, f2, f3⟩ := hfacts.out k hlt
          obtain ⟨S1, hS1⟩ : ∃ S1 : ByteArray, S1 = ⟨(rowT l W k).toArray⟩ := ⟨_, rfl⟩
          have hsz : S1.size = (rowT l W k).length := by rw [hS1]; simp [ByteArray.size]
          have hcell' : wr.cell? ⟨b, off + k, none⟩ = some (.string S1) := by rw [hS1]; exact hcell
          rw [← hsz] at f1 f2 f3
          clear hcell hS1 hsz
          have g1 : ¬ (2 * (W : Int) < (S1.size : Int)) := by omega
          have g3 : ((S1.size : Int) == 0) = false := beq_no (by omega)
          by_cases hl : k + 1 < m
          · have g2 : ((S1.size : Int) != 2 * (W : Int)) = false := by rw [bne_eq_false_iff_eq]; have := f2 hl; omega
            have hl' : (k : Int) + 1 < (m : Int) := by omega
            clear f1 f2 f3
            go_wp2
            go_roundw
            case rel => exact ⟨k + 1, by omega, by go_num, bel⟩
            case measure => simp [intOf]; omega
          · have hl' : ¬ ((k : Int) + 1 < (m : Int)) := by omega
            clear f1 f2 f3
            go_wp2
            go_roundw
            case rel => exact ⟨k + 1, by omega, by go_num, bel⟩
            case measure => simp [intOf]; omega
        · obtain rfl : k = m := by omega
          have g4 : ((k : Int) == ((l.length : Int) + (W : Int) - 1) / (W : Int)) = true := by
            rw [beq_iff_eq, Hm.out]
            unfold rowN
            rw [Int.natCast_ediv]
            congr 1
            omega
          go_wp2_with (go_at_call 39; refine (alive_any _).mono ?_; rintro e w' ⟨rfl, hw⟩)
          go_ret
          exact ⟨rfl, bt (bt bt3 bel) hw⟩
set_option maxRecDepth 100000 in
theorem lifted (os : Os) (started : os.Started) (H : Type) (enc : TypeId × Value → H) :
    ReturnsInHanded {} Try.checked os 7 .any (Rows.hexSizesSpec.pre6 enc Try.prog Try.f7 Rows.hexSizesRow.domain false) (Rows.hexSizesSpec.post enc Try.prog Try.f7 false true false false) := by
  refine returnsInHanded_of_change (C := Try.checked) own started (by kernel_rfl) Try.func7
    (ChangeSpec.witness6 (enc := enc) (C := Try.checked) false ⟨#[], #[.slice none 0 0, .int .i64 0], []⟩ 8 (by kernel_rfl) (by kernel_rfl) (by kernel_rfl) (by kernel_rfl)) ?_
  intro W base args ds gs before hval0 hW hcnd _
  have hval : ∀ (j : Nat) t v, Try.f7.params[j]? = some t → args[j]? = some v → Value.okWide Try.prog W .any base t v := hval0
  have hW' := hW
  obtain ⟨p, q, hA0, hV, rfl, hfz, hnd⟩ := hW
  have hA : DataW.TrodAll enc Try.prog W 0 (fun _ => true) true Try.f7.params.toList args.toList ds p := hA0
  rw [Try.params7] at hA hval
  obtain ⟨v0, vs0, d0, ds0, p0, q0, hargs, rfl, rfl, h0, r0⟩ := trodAll_cons hA
  obtain ⟨v1, vs1, d1, ds1, p1, q1, rfl, rfl, rfl, h1, r1⟩ := trodAll_cons r0
  obtain ⟨rfl, rfl, rfl⟩ := trodAll_nil r1
  obtain rfl : args = #[v0, v1] := by cases args; simp_all
  obtain ⟨rfl, rfl⟩ := trodVars_none hV
  have k0 := h0
  have lt0 := places_lt k0
  obtain ⟨a0, len0, cap0, rfl⟩ := okWide_slice Try.underlying22 (hval 0 22 v0 rfl rfl)
  obtain ⟨fuel0, hf0⟩ := h0
  obtain ⟨l0, rfl, rr0, rc0, rm0⟩ := bytes_of rfl Try.underlying22 Try.underlying5 (by kernel_rfl) hf0
  have k1 := h1
  have lt1 := places_lt k1
  obtain ⟨n1, rfl, _, _, w1⟩ := open_int Try.underlying3 (hval 1 3 v1 rfl rfl) h1
  clear hA0 hval0
  refine (walk a0 l0 cap0 n1 W rr0 rc0 rm0 (wfi w1).1 (wfi w1).2).mono fun e W' ⟨he, bel⟩ => ?_
  subst he
  exact ⟨_, rfl, _, _, _, [], _, [], hW', trodAll_mk1 (shut_bool Try.underlying4 _), (trodAll_cons_mk (Below.trod laidOut (by kernel_rfl) (of_decide_eq_true (by kernel_rfl)) k0 bel lt0) (trodAll_cons_mk (Below.trod laidOut (by kernel_rfl) (of_decide_eq_true (by kernel_rfl)) k1 bel lt1) trodAll_mk0)), rfl, bel.frame _, fun h => by cases h⟩

theorem proved : Rows.HexSizesSaid :=
  OpenClaim.holds_of_wide 7 Try.f7 rfl rfl rfl rfl rfl rfl rfl ⟨rfl, rfl, rfl, rfl, rfl⟩ rfl rfl rfl rfl rfl (by kernel_rfl) Try.func7 (by kernel_rfl)
    (of_decide_eq_true (by kernel_rfl)) (by unfold Func.isWrapper; first | (rw [if_pos (by decide +kernel)]; kernel_rfl) | (rw [if_neg (by decide +kernel)]; exact ⟨rfl, rfl⟩))
    (fun os started H enc _ => lifted os started H enc)
#print axioms proved
end Go.Proofs.Ytknjkafjeicmbaa.HexSizes
