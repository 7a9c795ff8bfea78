/- The walks of geom's places, and of its reference. -/
import Derived.Test.YtknjkafjeicmbaaGeom2
namespace Go.Proofs.Ytknjkafjeicmbaa.Geom
open Go.RowKit
set_option linter.unusedVariables false

set_option maxHeartbeats 400000 in
theorem root_any (n : UInt64) (m : Int) (hm : m = (n.toNat : Int)) (w : World) : Calls Try.prog 50 #[.int .u64 m] w fun e w' => e = .returned (.int .i64 ((n.toNat : Int) % 2)) ∧ w = w' := by
  subst hm
  have h0 : (0 : Int) ≤ (n.toNat : Int) := by omega
  have h1 : (n.toNat : Int) ≤ 18446744073709551615 := by have := n.toNat_lt; omega
  go_enter Try.func50, Try.ntmps50
  go_wp2
  go_ret
  exact ⟨rfl, rfl⟩
set_option maxHeartbeats 400000 in
theorem super_any (n : UInt64) (m : Int) (hm : m = (n.toNat : Int)) (w : World) : Calls Try.prog 51 #[.int .u64 m] w fun e w' => e = .returned (.int .i64 (2 + (n.toNat : Int) % 2)) ∧ w = w' := by
  subst hm
  have h0 : (0 : Int) ≤ (n.toNat : Int) := by omega
  have h1 : (n.toNat : Int) ≤ 18446744073709551615 := by have := n.toNat_lt; omega
  go_enter Try.func51, Try.ntmps51
  go_wp2
  go_ret
  exact ⟨rfl, rfl⟩

def logAt (a d g i : Int) : Int := if right a d g = true ∧ 0 ≤ i then 4 + i % g else -1
set_option maxHeartbeats 400000 in
theorem log_any (a d g i : Int) (w : World) (ha0 : lo ≤ a) (ha1 : a ≤ hi) (hd0 : lo ≤ d) (hd1 : d ≤ hi) (hg0 : lo ≤ g) (hg1 : g ≤ hi) (hi0 : lo ≤ i) (hi1 : i ≤ hi) :
    Calls Try.prog 52 #[.agg #[.int .i64 a, .int .i64 d, .int .i64 g], .int .i64 i] w fun e w' => e = .returned (.int .i64 (logAt a d g i)) ∧ Below w.heap.size w w' := by
  by_cases hr : right a d g = true
  · obtain ⟨h1, h2, h3, h4, h5, h6⟩ := right_yes hr
    by_cases hi : 0 ≤ i
    · have hl := Lib.hid (show logAt a d g i = 4 + i % g from if_pos ⟨hr, hi⟩)
      have Hr := Lib.hid hr
      clear hr
      have hb0 := Int.emod_nonneg i (by omega : g ≠ 0)
      have hb1 := Int.emod_lt_of_pos i (by omega : 0 < g)
      go_enter Try.func52, Try.ntmps52
      go_wp2_with fail
      refine (right_any _ _ _ _ ha0 ha1 hd0 hd1 hg0 hg1).mono ?_
      rintro e w1 ⟨rfl, b1⟩
      rw [Hr.out]
      obtain ⟨hc1, hf1, hs1⟩ := bcell b1
      simp at hs1
      go_wp2
      go_ret
      exact ⟨ret_int hl.out.symm, bt (below_lit w _) b1⟩
    · have hl := Lib.hid (show logAt a d g i = -1 from if_neg (by omega))
      have Hr := Lib.hid hr
      clear hr
      go_enter Try.func52, Try.ntmps52
      go_wp2_with fail
      refine (right_any _ _ _ _ ha0 ha1 hd0 hd1 hg0 hg1).mono ?_
      rintro e w1 ⟨rfl, b1⟩
      rw [Hr.out]
      go_wp2
      go_ret
      exact ⟨ret_int hl.out.symm, bt (below_lit w _) b1⟩
  · have hr' : right a d g = false := by simpa using hr
    have hl := Lib.hid (show logAt a d g i = -1 from if_neg (by simp [hr']))
    have Hr := Lib.hid hr'
    clear hr hr'
    go_enter Try.func52, Try.ntmps52
    go_wp2_with fail
    refine (right_any _ _ _ _ ha0 ha1 hd0 hd1 hg0 hg1).mono ?_
    rintro e w1 ⟨rfl, b1⟩
    rw [Hr.out]
    go_wp2
    go_ret
    exact ⟨ret_int hl.out.symm, bt (below_lit w _) b1⟩

def areaAt (a d g n i : Int) : Int := if 0 ≤ i ∧ i < pagesOf a d g then 4 + g + n % 2 * pagesOf a d g + i else -1
theorem pages_right {a d g i : Int} (h0 : 0 ≤ i) (h : i < pagesOf a d g) : right a d g = true := by
  by_cases hr : right a d g = true
  · exact hr
  · simp [pagesOf, nodesOf, leavesOf, hr] at h; omega
set_option maxHeartbeats 400000 in
theorem area_any (a d g : Int) (n : UInt64) (m : Int) (hm : m = (n.toNat : Int)) (i : Int) (w : World) (ha0 : lo ≤ a) (ha1 : a ≤ hi) (hd0 : lo ≤ d) (hd1 : d ≤ hi) (hg0 : lo ≤ g) (hg1 : g ≤ hi) (hi0 : lo ≤ i) (hi1 : i ≤ hi) :
    Calls Try.prog 53 #[.agg #[.int .i64 a, .int .i64 d, .int .i64 g], .int .u64 m, .int .i64 i] w fun e w' => e = .returned (.int .i64 (areaAt a d g n.toNat i)) ∧ Below w.heap.size w w' := by
  subst hm
  have h0 : (0 : Int) ≤ (n.toNat : Int) := by omega
  have h1 : (n.toNat : Int) ≤ 18446744073709551615 := by have := n.toNat_lt; omega
  have hp := pagesOf_bd a d g
  by_cases hi : 0 ≤ i
  · by_cases hj : i < pagesOf a d g
    · obtain ⟨r1, r2, r3, r4, r5, r6⟩ := right_yes (pages_right hi hj)
      have hl := Lib.hid (show areaAt a d g n.toNat i = 4 + g + n.toNat % 2 * pagesOf a d g + i from if_pos ⟨hi, hj⟩)
      have hm2 : (0 : Int) ≤ (n.toNat : Int) % 2 * pagesOf a d g ∧ (n.toNat : Int) % 2 * pagesOf a d g ≤ 85 := by
        rcases (by omega : (n.toNat : Int) % 2 = 0 ∨ (n.toNat : Int) % 2 = 1) with e | e <;> rw [e] <;> omega
      go_enter Try.func53, Try.ntmps53
      go_wp2_with fail
      refine (pages_any _ _ _ _ ha0 ha1 hd0 hd1 hg0 hg1).mono ?_
      rintro e w1 ⟨rfl, b1⟩
      obtain ⟨hc1, hf1, hs1⟩ := bcell b1
      simp at hs1
      go_wp2
      go_ret
      exact ⟨ret_int hl.out.symm, bt (below_lit w _) b1⟩
    · have hl := Lib.hid (show areaAt a d g n.toNat i = -1 from if_neg (by omega))
      go_enter Try.func53, Try.ntmps53
      go_wp2_with fail
      refine (pages_any _ _ _ _ ha0 ha1 hd0 hd1 hg0 hg1).mono ?_
      rintro e w1 ⟨rfl, b1⟩
      go_wp2
      go_ret
      exact ⟨ret_int hl.out.symm, bt (below_lit w _) b1⟩
  · have hl := Lib.hid (show areaAt a d g n.toNat i = -1 from if_neg (by omega))
    go_enter Try.func53, Try.ntmps53
    go_wp2_with fail
    refine (pages_any _ _ _ _ ha0 ha1 hd0 hd1 hg0 hg1).mono ?_
    rintro e w1 ⟨rfl, b1⟩
    go_wp2
    go_ret
    exact ⟨ret_int hl.out.symm, bt (below_lit w _) b1⟩

set_option maxHeartbeats 400000 in
theorem rleast_any (a d g : Int) (w : World) (ha0 : -9223372036854775808 ≤ a) (ha1 : a ≤ 9223372036854775807) (hd0 : -9223372036854775808 ≤ d) (hd1 : d ≤ 9223372036854775807) :
    Calls Try.prog 29 #[.agg #[.int .i64 a, .int .i64 d, .int .i64 g]] w fun e w' => e = .returned (.int .i64 (least a d)) ∧ Below w.heap.size w w' := by
  by_cases h1 : a < 2
  · rw [least_out (by omega)]
    go_enter Try.func29, Try.ntmps29
    go_wp2
    go_ret
    exact ⟨rfl, below_lit _ _⟩
  by_cases h2 : 4 < a
  · rw [least_out (by omega)]
    go_enter Try.func29, Try.ntmps29
    go_wp2
    go_ret
    exact ⟨rfl, below_lit _ _⟩
  by_cases h3 : d < 1
  · rw [least_out (by omega)]
    go_enter Try.func29, Try.ntmps29
    go_wp2
    go_ret
    exact ⟨rfl, below_lit _ _⟩
  by_cases h4 : 3 < d
  · rw [least_out (by omega)]
    go_enter Try.func29, Try.ntmps29
    go_wp2
    go_ret
    exact ⟨rfl, below_lit _ _⟩
  rw [least_in (by omega) (by omega) (by omega) (by omega)]
  go_enter Try.func29, Try.ntmps29
  go_wp2
  go_ret
  exact ⟨rfl, below_lit _ _⟩


set_option maxHeartbeats 800000 in
theorem rright_any (a d g : Int) (w : World) (ha0 : lo ≤ a) (ha1 : a ≤ hi) (hd0 : lo ≤ d) (hd1 : d ≤ hi) (hg0 : lo ≤ g) (hg1 : g ≤ hi) :
    Calls Try.prog 27 #[.agg #[.int .i64 a, .int .i64 d, .int .i64 g]] w fun e w' => e = .returned (.bool (right a d g)) ∧ Below w.heap.size w w' := by
  by_cases h1 : 2 ≤ a ∧ a ≤ 4 ∧ 1 ≤ d ∧ d ≤ 3
  · obtain ⟨h1, h2, h3, h4⟩ := h1
    have hl := Lib.hid (least_in h1 h2 h3 h4)
    have hp : (0 : Int) < d + 2 := by omega
    by_cases h5 : d + 2 ≤ g
    · by_cases h6 : g ≤ 64
      · have hr := Lib.hid (show right a d g = true by unfold right; simp [h1, h2, h3, h4, h5, h6])
        go_enter Try.func27, Try.ntmps27
        go_wp2
        refine region_inb (by kernel_rfl) (by kernel_rfl) ?_
        have inbNe := InB.some
        repeat (refine wpQuiet_step (fun K hK => ?_); go_simp; first | (refine hK _ ?_; clear hK K) | (apply Exists.intro; refine ⟨?_, hK _ ?_⟩; (· (intro w' hw'; first | (go_at_call 29; refine (rleast_any _ _ _ _ ha0 ha1 hd0 hd1).mono ?_; rintro e w1 ⟨rfl, b1⟩; rw [hl.out]; exact ⟨rfl, hw'.on b1⟩) | (have hcw := hw'.cell; go_simp; exact rfl))); clear hK K))
        refine wpQuiet_nil ?_
        intro wq hq
        clear inbNe
        go_wp2
        go_ret
        exact ⟨ret_bool hr.out.symm, bt (b1alloc _ _) hq⟩
      · have hr := Lib.hid (show right a d g = false by unfold right; simp; omega)
        have h7 : decide (g ≤ 64) = false := by simp; omega
        go_enter Try.func27, Try.ntmps27
        go_wp2
        refine region_inb (by kernel_rfl) (by kernel_rfl) ?_
        have inbNe := InB.some
        repeat (refine wpQuiet_step (fun K hK => ?_); go_simp; first | (refine hK _ ?_; clear hK K) | (apply Exists.intro; refine ⟨?_, hK _ ?_⟩; (· (intro w' hw'; first | (go_at_call 29; refine (rleast_any _ _ _ _ ha0 ha1 hd0 hd1).mono ?_; rintro e w1 ⟨rfl, b1⟩; rw [hl.out]; exact ⟨rfl, hw'.on b1⟩) | (have hcw := hw'.cell; go_simp; exact rfl))); clear hK K))
        refine wpQuiet_nil ?_
        intro wq hq
        clear inbNe
        go_wp2
        go_ret
        exact ⟨ret_bool hr.out.symm, bt (b1alloc _ _) hq⟩
    · have hr := Lib.hid (show right a d g = false by unfold right; simp; omega)
      have h7 : decide (d + 2 ≤ g) = false := by simp; omega
      go_enter Try.func27, Try.ntmps27
      go_wp2
      refine region_inb (by kernel_rfl) (by kernel_rfl) ?_
      have inbNe := InB.some
      repeat (refine wpQuiet_step (fun K hK => ?_); go_simp; first | (refine hK _ ?_; clear hK K) | (apply Exists.intro; refine ⟨?_, hK _ ?_⟩; (· (intro w' hw'; first | (go_at_call 29; refine (rleast_any _ _ _ _ ha0 ha1 hd0 hd1).mono ?_; rintro e w1 ⟨rfl, b1⟩; rw [hl.out]; exact ⟨rfl, hw'.on b1⟩) | (have hcw := hw'.cell; go_simp; exact rfl))); clear hK K))
      refine wpQuiet_nil ?_
      intro wq hq
      clear inbNe
      go_wp2
      go_ret
      exact ⟨ret_bool hr.out.symm, bt (b1alloc _ _) hq⟩
  · have hr := Lib.hid (show right a d g = false by unfold right; simp; omega)
    have hl := Lib.hid (least_out (a := a) (d := d) (by omega))
    go_enter Try.func27, Try.ntmps27
    go_wp2
    refine region_inb (by kernel_rfl) (by kernel_rfl) ?_
    have inbNe := InB.some
    repeat (refine wpQuiet_step (fun K hK => ?_); go_simp; first | (refine hK _ ?_; clear hK K) | (apply Exists.intro; refine ⟨?_, hK _ ?_⟩; (· (intro w' hw'; first | (go_at_call 29; refine (rleast_any _ _ _ _ ha0 ha1 hd0 hd1).mono ?_; rintro e w1 ⟨rfl, b1⟩; rw [hl.out]; exact ⟨rfl, hw'.on b1⟩) | (have hcw := hw'.cell; go_simp; exact rfl))); clear hK K))
    refine wpQuiet_nil ?_
    intro wq hq
    clear inbNe
    go_wp2
    go_ret
    exact ⟨ret_bool hr.out.symm, bt (b1alloc _ _) hq⟩

set_option maxHeartbeats 400000 in
theorem rleaves_any (a d g : Int) (w : World) (ha0 : lo ≤ a) (ha1 : a ≤ hi) (hd0 : lo ≤ d) (hd1 : d ≤ hi) (hg0 : lo ≤ g) (hg1 : g ≤ hi) :
    Calls Try.prog 33 #[.agg #[.int .i64 a, .int .i64 d, .int .i64 g]] w fun e w' => e = .returned (.int .i64 (leavesOf a d g)) ∧ Below w.heap.size w w' := by
  by_cases hr : right a d g = true
  · obtain ⟨h1, h2, h3, h4, h5, h6⟩ := right_yes hr
    have hle := Lib.hid (show leavesOf a d g = leaves a d by simp [leavesOf, hr])
    have hup := Lib.hid (up_all (a := a) h3 h4)
    have Hr := Lib.hid hr
    clear hr
    go_enter Try.func33, Try.ntmps33
    go_wp2_with fail
    refine (rright_any _ _ _ _ ha0 ha1 hd0 hd1 hg0 hg1).mono ?_
    rintro e w1 ⟨rfl, b1⟩
    rw [Hr.out]
    have hc := b1.cell (p := ⟨w.heap.size, 0, none⟩) (by simp)
    have hc' := b1.cell (p := ⟨w.heap.size, 1, none⟩) (by simp)
    simp at hc hc'
    have bw := bt (below_lit w _) b1
    go_wp2
    go_loop [3, 4] (fun l i => ∃ k : Nat, (k : Int) ≤ d ∧ i = .int .i64 k ∧ l = .int .i64 (lUp a k)) (fun _ i => (d - intOf i).toNat)
    case atStart => exact ⟨0, by omega, rfl, rfl⟩
    case round =>
      obtain ⟨k, hk, rfl, rfl⟩ := hrel
      by_cases hlt : (k : Int) < d
      · have e2 := Lib.hid (lUp_succ a k (by omega))
        have l1 := lUp_bd k (by omega) h1 h2
        have l2 := lUp_bd (k + 1) (by omega) h1 h2
        rw [e2.out] at l2
        go_wp2
        go_round
        case rel => exact ⟨k + 1, by omega, by go_num, by rw [e2.out]⟩
        case measure => simp [intOf]; omega
      · obtain rfl : d = (k : Int) := by omega
        go_wp2
        go_ret
        exact ⟨ret_int (by rw [hle.out, ← hup.out.2]; rfl), bw⟩
  · have hr' : right a d g = false := by simpa using hr
    have hle := Lib.hid (show leavesOf a d g = 0 by simp [leavesOf, hr'])
    have Hr := Lib.hid hr'
    clear hr hr'
    go_enter Try.func33, Try.ntmps33
    go_wp2_with fail
    refine (rright_any _ _ _ _ ha0 ha1 hd0 hd1 hg0 hg1).mono ?_
    rintro e w1 ⟨rfl, b1⟩
    rw [Hr.out]
    go_wp2
    go_ret
    exact ⟨ret_int hle.out.symm, bt (below_lit w _) b1⟩

set_option maxHeartbeats 400000 in
theorem rnodes_any (a d g : Int) (w : World) (ha0 : lo ≤ a) (ha1 : a ≤ hi) (hd0 : lo ≤ d) (hd1 : d ≤ hi) (hg0 : lo ≤ g) (hg1 : g ≤ hi) :
    Calls Try.prog 31 #[.agg #[.int .i64 a, .int .i64 d, .int .i64 g]] w fun e w' => e = .returned (.int .i64 (nodesOf a d g)) ∧ Below w.heap.size w w' := by
  by_cases hr : right a d g = true
  · obtain ⟨h1, h2, h3, h4, h5, h6⟩ := right_yes hr
    have hno := Lib.hid (show nodesOf a d g = nodes a d by simp [nodesOf, hr])
    have hup := Lib.hid (up_all (a := a) h3 h4)
    have Hr := Lib.hid hr
    clear hr
    go_enter Try.func31, Try.ntmps31
    go_wp2_with fail
    refine (rright_any _ _ _ _ ha0 ha1 hd0 hd1 hg0 hg1).mono ?_
    rintro e w1 ⟨rfl, b1⟩
    rw [Hr.out]
    have hc := b1.cell (p := ⟨w.heap.size, 0, none⟩) (by simp)
    have hc' := b1.cell (p := ⟨w.heap.size, 1, none⟩) (by simp)
    simp at hc hc'
    have bw := bt (below_lit w _) b1
    go_wp2
    go_loop [3, 4, 5] (fun l n i => ∃ k : Nat, (k : Int) ≤ d ∧ i = .int .i64 k ∧ l = .int .i64 (lUp a k) ∧ n = .int .i64 (nUp a k)) (fun _ _ i => (d - intOf i).toNat)
    case atStart => exact ⟨0, by omega, rfl, rfl, rfl⟩
    case round =>
      obtain ⟨k, hk, rfl, rfl, rfl⟩ := hrel
      by_cases hlt : (k : Int) < d
      · have e1 := Lib.hid (nUp_succ a k (by omega))
        have e2 := Lib.hid (lUp_succ a k (by omega))
        have l1 := lUp_bd k (by omega) h1 h2
        have l2 := lUp_bd (k + 1) (by omega) h1 h2
        rw [e2.out] at l2
        have n1 := nUp_bd k (by omega) h1 h2
        go_wp2
        go_round
        case rel => exact ⟨k + 1, by omega, by go_num, by rw [e2.out], by rw [e1.out]⟩
        case measure => simp [intOf]; omega
      · obtain rfl : d = (k : Int) := by omega
        go_wp2
        go_ret
        exact ⟨ret_int (by rw [hno.out, ← hup.out.1]; rfl), bw⟩
  · have hr' : right a d g = false := by simpa using hr
    have hno := Lib.hid (show nodesOf a d g = 0 by simp [nodesOf, hr'])
    have Hr := Lib.hid hr'
    clear hr hr'
    go_enter Try.func31, Try.ntmps31
    go_wp2_with fail
    refine (rright_any _ _ _ _ ha0 ha1 hd0 hd1 hg0 hg1).mono ?_
    rintro e w1 ⟨rfl, b1⟩
    rw [Hr.out]
    go_wp2
    go_ret
    exact ⟨ret_int hno.out.symm, bt (below_lit w _) b1⟩

set_option maxHeartbeats 400000 in
theorem rpages_any (a d g : Int) (w : World) (ha0 : lo ≤ a) (ha1 : a ≤ hi) (hd0 : lo ≤ d) (hd1 : d ≤ hi) (hg0 : lo ≤ g) (hg1 : g ≤ hi) :
    Calls Try.prog 35 #[.agg #[.int .i64 a, .int .i64 d, .int .i64 g]] w fun e w' => e = .returned (.int .i64 (pagesOf a d g)) ∧ Below w.heap.size w w' := by
  have h1 := nodesOf_bd a d g
  have h2 := leavesOf_bd a d g
  have hwr : IntKind.i64.wrap (nodesOf a d g + leavesOf a d g) = nodesOf a d g + leavesOf a d g := IntWalk.i64_in _ (by omega)
  go_enter Try.func35, Try.ntmps35
  go_wp2
  refine region_inb (by kernel_rfl) (by kernel_rfl) ?_
  have inbNe := InB.some
  repeat (refine wpQuiet_step (fun K hK => ?_); go_simp; first | (refine hK _ ?_; clear hK K) | (apply Exists.intro; refine ⟨?_, hK _ ?_⟩; (· (intro w' hw'; first | (go_at_call 31; refine (rnodes_any _ _ _ _ ha0 ha1 hd0 hd1 hg0 hg1).mono ?_; rintro e w1 ⟨rfl, b1⟩; exact ⟨rfl, hw'.on b1⟩) | (go_at_call 33; refine (rleaves_any _ _ _ _ ha0 ha1 hd0 hd1 hg0 hg1).mono ?_; rintro e w1 ⟨rfl, b1⟩; exact ⟨rfl, hw'.on b1⟩) | (have hcw := hw'.cell; go_simp; exact rfl))); clear hK K))
  refine wpQuiet_nil ?_
  intro wq hq
  clear inbNe
  go_wp2
  go_ret
  exact ⟨rfl, bt (b1alloc _ _) hq⟩
end Go.Proofs.Ytknjkafjeicmbaa.Geom
