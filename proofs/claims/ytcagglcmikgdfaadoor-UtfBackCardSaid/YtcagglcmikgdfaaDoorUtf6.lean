/- The walks of Count and of the program's Cut. -/
import Derived.Test.YtcagglcmikgdfaaDoorUtf5
import Derived.Test.YtcagglcmikgdfaaDoorUtfBackPlain
import Derived.Shelf.Unicode.ValidAny
namespace Go.Proofs.YtcagglcmikgdfaaDoor.Utf
open Go.RowKit Go.Shelf
set_option linter.unusedVariables false
set_option maxRecDepth 100000
def laysValid_ren : Go.Shelf.Ren := ⟨fun | 196 => 29 | 259 => 34 | n => n, fun | 9 => 9 | 4 => 4 | 3 => 3 | 5 => 5 | 12 => 12 | 119 => 54 | 0 => 0 | 46 => 58 | 139 => 57 | 138 => 56 | 53 => 62 | n => n, fun | 3 => 0 | 4 => 1 | n => n⟩
theorem laysValid : Go.Proofs.Lays.n196 Tryd.prog laysValid_ren := {
  mixed := by kernel_rfl,
  f196 := Tryd.func29.trans (congrArg some (by kernel_rfl)),
  f259 := Tryd.func34.trans (congrArg some (by kernel_rfl)),
  t0 := Tryd.underlying0,
  a0 := Tryd.isAgg0,
  z0 := Tryd.sizeOf0,
  v0 := Tryd.zeroValue0,
  t3 := Tryd.underlying3,
  a3 := Tryd.isAgg3,
  z3 := Tryd.sizeOf3,
  v3 := Tryd.zeroValue3,
  t4 := Tryd.underlying4,
  a4 := Tryd.isAgg4,
  z4 := Tryd.sizeOf4,
  v4 := Tryd.zeroValue4,
  t5 := Tryd.underlying5,
  a5 := Tryd.isAgg5,
  z5 := Tryd.sizeOf5,
  v5 := Tryd.zeroValue5,
  t9 := Tryd.underlying9,
  a9 := Tryd.isAgg9,
  z9 := Tryd.sizeOf9,
  v9 := Tryd.zeroValue9,
  t12 := Tryd.underlying12,
  a12 := Tryd.isAgg12,
  z12 := Tryd.sizeOf12,
  v12 := Tryd.zeroValue12,
  t46 := Tryd.underlying58,
  a46 := Tryd.isAgg58,
  z46 := Tryd.sizeOf58,
  v46 := Tryd.zeroValue58,
  t53 := Tryd.underlying62,
  a53 := Tryd.isAgg62,
  z53 := Tryd.sizeOf62,
  v53 := Tryd.zeroValue62,
  t119 := Tryd.underlying54,
  a119 := Tryd.isAgg54,
  z119 := Tryd.sizeOf54,
  t138 := Tryd.underlying56,
  a138 := Tryd.isAgg56,
  z138 := Tryd.sizeOf56,
  v138 := Tryd.zeroValue56,
  t139 := Tryd.underlying57,
  a139 := Tryd.isAgg57,
  z139 := Tryd.sizeOf57,
  v139 := Tryd.zeroValue57,
  g3 := by kernel_rfl,
  g4 := by kernel_rfl }
theorem validGo_eq : ∀ (n : Nat) (l : List UInt8), l.length ≤ n → Lib.validGoD n l = decide ((scan l).2 = l.length)
  | 0, l, h => by
    obtain rfl : l = [] := List.eq_nil_of_length_eq_zero (by omega)
    rw [scan_nil]; rfl
  | n + 1, l, h => by
    rw [Lib.validGoD]
    by_cases hn : l = []
    · subst hn; rw [if_pos rfl, scan_nil]; rfl
    · rw [if_neg hn]
      have hd : Lib.decodeL l = dec l := by unfold Lib.decodeL; rw [decode_eq]; rfl
      rw [hd]
      have hpos : 0 < l.length := by cases l with | nil => exact absurd rfl hn | cons a t => simp
      by_cases hf : (first l).2 = 0
      · have hde := (dec_none hn).1 hf
        rw [hde, if_pos ⟨rfl, rfl⟩, scan_no l hf]
        exact (decide_eq_false (by simp only; omega)).symm
      · have hds := dec_some hn hf
        have hs := first_size l hf
        rw [if_neg (fun h2 => hf ((dec_none hn).2 (by rw [← h2.1, ← h2.2]))), hds, validGo_eq n _ (by rw [List.length_drop]; omega), scan_yes l hf]
        refine decide_eq_decide.2 ?_
        rw [List.length_drop]
        simp only
        omega
theorem valid_any (l : List UInt8) (w : World) (hl : l.length ≤ 1000000) (hT : Tabs w) : Calls Tryd.prog 29 #[.string ⟨l.toArray⟩] w fun e w' => e = .returned (.bool (decide ((scan l).2 = l.length))) ∧ Below w.heap.size w w' := by
  have h := Any.utf8_ValidString laysValid ⟨l.toArray⟩ w (by rw [ba_size]; omega) hT
  have hd : Lib.validD (⟨l.toArray⟩ : ByteArray).data.toList = decide ((scan l).2 = l.length) := by
    unfold Lib.validD
    exact validGo_eq _ _ (Nat.le_refl _)
  rw [hd] at h
  exact h
set_option maxHeartbeats 1000000 in
theorem count_any (s : List UInt8) (w : World) (hl : s.length ≤ 1000000) (hT : Tabs w) : Calls Tryd.prog 12 #[.string ⟨s.toArray⟩] w fun e w' => e = .returned (.int .i64 (countL s)) ∧ Below w.heap.size w w' := by
  have hv := valid_any s w hl hT
  obtain ⟨C, hC⟩ : ∃ C, C = countL s := ⟨_, rfl⟩
  rw [← hC]
  by_cases hw : (scan s).2 = s.length
  · rw [decide_eq_true hw] at hv
    have Hv := Lib.hid hv
    have hCs := Lib.hid (show C = ((scan s).1.length : Int) from hC.trans (if_pos hw))
    have hsz : (⟨s.toArray⟩ : ByteArray).size = s.length := ba_size s
    have hde := Lib.hid (fun pos => decode_eq s pos)
    have hnxt := Lib.hid (fun w pos (h : pos < s.length) (ty : TypeId) => run_next_any (P := Tryd.prog) w ⟨s.toArray⟩ pos ty (by rw [ba_size]; exact h))
    have hend := Lib.hid (fun w pos (h : ¬ pos < s.length) (ty : TypeId) => run_next_end (P := Tryd.prog) w ⟨s.toArray⟩ pos ty (by rw [ba_size]; exact h))
    have hstep := Lib.hid (fun rs k (hk : k ≤ s.length) (h : scan s = (rs ++ (scan (s.drop k)).1, k + (scan (s.drop k)).2)) hf => scan_step hk h hf)
    have Hw := Lib.hid hw
    obtain ⟨S, hS⟩ : ∃ S : ByteArray, S = ⟨s.toArray⟩ := ⟨_, rfl⟩
    rw [← hS] at hsz hnxt hend hde Hv ⊢
    clear hS hv hC hw
    go_enter Tryd.func12, Tryd.ntmps12
    go_wp2_with (go_at_call 29; refine (Hv.out).mono ?_; rintro e w1 ⟨rfl, b1⟩)
    go_loopw [2] (fun n w' => ∃ (pos : Nat) (rs : List Nat), w' = w1.iter S pos ∧ n = .int .i64 (rs.length : Int) ∧ Hid (scan s = (rs ++ (scan (s.drop pos)).1, pos + (scan (s.drop pos)).2)) ∧ pos ≤ s.length ∧ rs.length ≤ pos) (fun _ w' => s.length - w'.iterPos w1.heap.size)
    case atStart => exact ⟨0, [], rfl, rfl, Lib.hid (by simp), by omega, by simp⟩
    case round =>
      obtain ⟨pos, rs, rfl, rfl, hp, hle, hrk⟩ := hrel
      by_cases hlt : pos < s.length
      · have hnx := hnxt.out w1 pos hlt
        rw [hde.out pos] at hnx
        have hne : s.drop pos ≠ [] := fun e => by have := congrArg List.length e; rw [List.length_drop] at this; simp at this; omega
        have hf : (first (s.drop pos)).2 ≠ 0 := fun h0 => by
          have h2 := hp.out
          rw [scan_no _ h0] at h2
          have h3 := Hw.out
          rw [h2] at h3
          simp only at h3
          omega
        obtain ⟨q1, q2⟩ := hstep.out rs pos hle hp.out hf
        have hs := first_size _ hf
        rw [← dec_some hne hf] at q1 q2 hs
        have Q1 := Lib.hid q1
        have q3 := hs.1
        obtain ⟨D, hD⟩ : ∃ D, D = dec (s.drop pos) := ⟨_, rfl⟩
        rw [← hD] at hnx Q1 q2 q3
        clear hD hne hf hs q1
        obtain ⟨r, wd⟩ := D
        simp only at hnx Q1 q2 q3
        have hw1 : wrap64 ((rs.length : Int) + 1) = (rs.length : Int) + 1 := by unfold wrap64; omega
        go_wp2_with fail
        go_roundw
        case rel => exact ⟨pos + wd, rs ++ [r], rfl, by rw [List.length_append, List.length_singleton]; go_num, Q1, q2, by rw [List.length_append, List.length_singleton]; omega⟩
        case measure => simp; omega
      · obtain rfl : pos = s.length := by omega
        have hnx := hend.out w1 s.length (by omega)
        have he := Lib.hid (show C = (rs.length : Int) by
          rw [hCs.out]
          have h2 := hp.out
          rw [List.drop_length, scan_nil] at h2
          rw [h2]
          simp)
        go_wp2_with fail
        go_ret
        exact ⟨ret_int he.out.symm, bt b1 (below_lit _ _)⟩
  · rw [decide_eq_false hw] at hv
    have Hv := Lib.hid hv
    have hCs := Lib.hid (show C = -1 from hC.trans (if_neg hw))
    obtain ⟨S, hS⟩ : ∃ S : ByteArray, S = ⟨s.toArray⟩ := ⟨_, rfl⟩
    rw [← hS] at Hv ⊢
    clear hS hv hC hw
    go_enter Tryd.func12, Tryd.ntmps12
    go_wp2_with (go_at_call 29; refine (Hv.out).mono ?_; rintro e w1 ⟨rfl, b1⟩)
    go_ret
    exact ⟨ret_int hCs.out.symm, b1⟩
/-- what lies behind the first runes of a text -/
theorem cut_at {s : List UInt8} {rs : List Nat} {pos : Nat} (hw : (scan s).2 = s.length) (hp : scan s = (rs ++ (scan (s.drop pos)).1, pos + (scan (s.drop pos)).2)) (hle : pos ≤ s.length) : encs rs = s.take pos := by
  have h1 := scan_bytes _ s (Nat.le_refl _)
  have h2 := scan_bytes _ (s.drop pos) (Nat.le_refl _)
  have h3 : (scan (s.drop pos)).2 = (s.drop pos).length := by rw [List.length_drop]; rw [hp] at hw; simp only at hw; omega
  rw [hw, List.take_length] at h1
  rw [h3, List.take_length] at h2
  rw [hp] at h1
  simp only at h1
  rw [encs_append, h2] at h1
  have h4 : encs rs ++ s.drop pos = s.take pos ++ s.drop pos := by rw [h1, List.take_append_drop]
  exact List.append_cancel_right h4
set_option maxHeartbeats 1000000 in
theorem cut_any (s : List UInt8) (n : Int) (w : World) (hl : s.length ≤ 1000000) (hn0 : -9223372036854775808 ≤ n) (hn1 : n ≤ 9223372036854775807) (hT : Tabs w) : Calls Tryd.prog 14 #[.string ⟨s.toArray⟩, .int .i64 n] w fun e w' => e = .returned (.string ⟨(cutL s n).toArray⟩) ∧ Below w.heap.size w w' := by
  have hv := valid_any s w hl hT
  obtain ⟨C, hC⟩ : ∃ C, C = cutL s n := ⟨_, rfl⟩
  rw [← hC]
  by_cases h1 : n < 1
  · have hCs : C = [] := hC.trans (if_pos (.inl h1))
    subst hCs
    clear hC hv
    obtain ⟨S, hS⟩ : ∃ S : ByteArray, S = ⟨s.toArray⟩ := ⟨_, rfl⟩
    rw [← hS]
    clear hS
    go_enter Tryd.func14, Tryd.ntmps14
    go_wp2_with fail
    go_ret
    exact ⟨rfl, Below.refl _ _⟩
  by_cases hw : (scan s).2 = s.length
  · rw [decide_eq_true hw] at hv
    have Hv := Lib.hid hv
    obtain ⟨N, rfl⟩ : ∃ N : Nat, n = (N : Int) := ⟨n.toNat, by omega⟩
    have hCs := Lib.hid (show C = encs ((scan s).1.take N) from hC.trans ((if_neg (fun h => h.elim h1 (fun h => h hw))).trans (by rw [Int.toNat_natCast])))
    have hsz : (⟨s.toArray⟩ : ByteArray).size = s.length := ba_size s
    have hde := Lib.hid (fun pos => decode_eq s pos)
    have hnxt := Lib.hid (fun w pos (h : pos < s.length) (ty : TypeId) => run_next_any (P := Tryd.prog) w ⟨s.toArray⟩ pos ty (by rw [ba_size]; exact h))
    have hend := Lib.hid (fun w pos (h : ¬ pos < s.length) (ty : TypeId) => run_next_end (P := Tryd.prog) w ⟨s.toArray⟩ pos ty (by rw [ba_size]; exact h))
    have hstep := Lib.hid (fun rs k (hk : k ≤ s.length) (h : scan s = (rs ++ (scan (s.drop k)).1, k + (scan (s.drop k)).2)) hf => scan_step hk h hf)
    have hto : ∀ k : Nat, k ≤ s.length → ∀ w, (Instr.slice 9 (.string ⟨s.toArray⟩) none (some (.int .i64 (k : Int))) none).run Tryd.prog w = .ok (.string ⟨(s.take k).toArray⟩) w := fun k hk w => by
      rw [run_slice_string_to_if (P := Tryd.prog) w 9 ⟨s.toArray⟩ .i64 (k : Int) Tryd.underlying9, if_pos ⟨by omega, by rw [ba_size]; omega⟩, Int.toNat_natCast, ex_take]
    have Hto := Lib.hid hto
    have Hw := Lib.hid hw
    have hSs := Lib.hid (show (⟨s.toArray⟩ : ByteArray) = ⟨s.toArray⟩ from rfl)
    obtain ⟨S, hS⟩ : ∃ S : ByteArray, S = ⟨s.toArray⟩ := ⟨_, rfl⟩
    rw [← hS] at hsz hnxt hend hde Hv Hto ⊢
    have HS := Lib.hid hS
    have h1I : ¬ (N : Int) < 1 := h1
    clear hS hv hC hw hto h1 hSs
    go_enter Tryd.func14, Tryd.ntmps14
    go_wp2_with (go_at_call 29; refine (Hv.out).mono ?_; rintro e w1 ⟨rfl, b1⟩)
    go_loopw [1] (fun n w' => ∃ (pos : Nat) (rs : List Nat) (m : Nat), w' = w1.iter S pos ∧ n = .int .i64 (m : Int) ∧ rs.length + m = N ∧ Hid (scan s = (rs ++ (scan (s.drop pos)).1, pos + (scan (s.drop pos)).2)) ∧ pos ≤ s.length) (fun _ w' => s.length - w'.iterPos w1.heap.size)
    case atStart => exact ⟨0, [], N, rfl, rfl, by simp, Lib.hid (by simp), by omega⟩
    case round =>
      obtain ⟨pos, rs, m, rfl, rfl, hrm, hp, hle⟩ := hrel
      by_cases hlt : pos < s.length
      · have hnx := hnxt.out w1 pos hlt
        rw [hde.out pos] at hnx
        have hne : s.drop pos ≠ [] := fun e => by have := congrArg List.length e; rw [List.length_drop] at this; simp at this; omega
        have hf : (first (s.drop pos)).2 ≠ 0 := fun h0 => by
          have h2 := hp.out
          rw [scan_no _ h0] at h2
          have h3 := Hw.out
          rw [h2] at h3
          simp only at h3
          omega
        obtain ⟨q1, q2⟩ := hstep.out rs pos hle hp.out hf
        have hs := first_size _ hf
        rw [← dec_some hne hf] at q1 q2 hs
        have Q1 := Lib.hid q1
        have q3 := hs.1
        obtain ⟨D, hD⟩ : ∃ D, D = dec (s.drop pos) := ⟨_, rfl⟩
        rw [← hD] at hnx Q1 q2 q3
        clear hD hne hf hs q1
        obtain ⟨r, wd⟩ := D
        simp only at hnx Q1 q2 q3
        by_cases hm : m = 0
        · have he := Lib.hid (show C = s.take pos by
            rw [hCs.out, ← cut_at Hw.out hp.out hle]
            congr 1
            rw [hp.out]
            simp only
            rw [List.take_left' (by omega)])
          subst hm
          have hsl := Hto.out pos hle
          clear hrm
          go_wp2_with fail
          go_ret
          rw [he.out]
          exact ⟨rfl, bt b1 (below_lit _ _)⟩
        · have hmI : ((m : Int) == 0) = false := beq_no (by omega)
          have hw1 : wrap64 ((m : Int) - 1) = (m : Int) - 1 := by unfold wrap64; omega
          go_wp2_with fail
          go_roundw
          case rel => exact ⟨pos + wd, rs ++ [r], m - 1, rfl, congrArg _ (by omega), by rw [List.length_append, List.length_singleton]; omega, Q1, q2⟩
          case measure => simp; omega
      · obtain rfl : pos = s.length := by omega
        have hnx := hend.out w1 s.length (by omega)
        have he := Lib.hid (show C = s by
          rw [hCs.out]
          have h2 := hp.out
          have h3 := cut_at Hw.out hp.out hle
          rw [List.take_length] at h3
          rw [List.drop_length, scan_nil] at h2
          rw [h2]
          simp only [List.append_nil]
          rw [List.take_of_length_le (by omega), h3])
        go_wp2_with fail
        go_ret
        rw [he.out, ← HS.out]
        exact ⟨rfl, bt b1 (below_lit _ _)⟩
  · rw [decide_eq_false hw] at hv
    have Hv := Lib.hid hv
    have hCs : C = [] := hC.trans (if_pos (.inr hw))
    subst hCs
    obtain ⟨S, hS⟩ : ∃ S : ByteArray, S = ⟨s.toArray⟩ := ⟨_, rfl⟩
    rw [← hS] at Hv ⊢
    clear hS hv hC hw
    go_enter Tryd.func14, Tryd.ntmps14
    go_wp2_with (go_at_call 29; refine (Hv.out).mono ?_; rintro e w1 ⟨rfl, b1⟩)
    go_ret
    exact ⟨rfl, b1⟩
end Go.Proofs.YtcagglcmikgdfaaDoor.Utf
