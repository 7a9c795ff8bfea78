/- The walks of the package geom and of its reference. -/
import Derived.Test.YtknjkafjeicmbaaBase
import Derived.Test.YtknjkafjeicmbaaRows
import Derived.Outline
namespace Go.Proofs.Ytknjkafjeicmbaa.Geom
open Go.RowKit
set_option linter.unusedVariables false

def least (a d : Int) : Int := if 2 ≤ a ∧ a ≤ 4 ∧ 1 ≤ d ∧ d ≤ 3 then d + 2 else 0
theorem least_in {a d : Int} (h1 : 2 ≤ a) (h2 : a ≤ 4) (h3 : 1 ≤ d) (h4 : d ≤ 3) : least a d = d + 2 := if_pos ⟨h1, h2, h3, h4⟩
theorem least_out {a d : Int} (h : a < 2 ∨ 4 < a ∨ d < 1 ∨ 3 < d) : least a d = 0 := if_neg (by omega)
def right (a d g : Int) : Bool := decide (2 ≤ a ∧ a ≤ 4 ∧ 1 ≤ d ∧ d ≤ 3 ∧ d + 2 ≤ g ∧ g ≤ 64)

set_option maxHeartbeats 400000 in
theorem least_any (a d g : Int) (w : World) (ha0 : -9223372036854775808 ≤ a) (ha1 : a ≤ 9223372036854775807) (hd0 : -9223372036854775808 ≤ d) (hd1 : d ≤ 9223372036854775807) :
    Calls Try.prog 28 #[.agg #[.int .i64 a, .int .i64 d, .int .i64 g]] w fun e w' => e = .returned (.int .i64 (least a d)) ∧ Below w.heap.size w w' := by
  by_cases h1 : a < 2
  · rw [least_out (by omega)]
    go_enter Try.func28, Try.ntmps28
    go_wp2
    go_ret
    exact ⟨rfl, below_lit _ _⟩
  by_cases h2 : 4 < a
  · rw [least_out (by omega)]
    go_enter Try.func28, Try.ntmps28
    go_wp2
    go_ret
    exact ⟨rfl, below_lit _ _⟩
  by_cases h3 : d < 1
  · rw [least_out (by omega)]
    go_enter Try.func28, Try.ntmps28
    go_wp2
    go_ret
    exact ⟨rfl, below_lit _ _⟩
  by_cases h4 : 3 < d
  · rw [least_out (by omega)]
    go_enter Try.func28, Try.ntmps28
    go_wp2
    go_ret
    exact ⟨rfl, below_lit _ _⟩
  rw [least_in (by omega) (by omega) (by omega) (by omega)]
  go_enter Try.func28, Try.ntmps28
  go_wp2
  go_ret
  exact ⟨rfl, below_lit _ _⟩

set_option maxHeartbeats 400000 in
theorem right_any (a d g : Int) (w : World) (ha0 : -9223372036854775808 ≤ a) (ha1 : a ≤ 9223372036854775807) (hd0 : -9223372036854775808 ≤ d) (hd1 : d ≤ 9223372036854775807) (hg0 : -9223372036854775808 ≤ g) (hg1 : g ≤ 9223372036854775807) :
    Calls Try.prog 26 #[.agg #[.int .i64 a, .int .i64 d, .int .i64 g]] w fun e w' => e = .returned (.bool (right a d g)) ∧ Below w.heap.size w w' := by
  by_cases h1 : 2 ≤ a ∧ a ≤ 4 ∧ 1 ≤ d ∧ d ≤ 3
  · obtain ⟨h1, h2, h3, h4⟩ := h1
    by_cases h5 : d + 2 ≤ g
    · have hr := Lib.hid (show right a d g = decide (g ≤ 64) by unfold right; simp [h1, h2, h3, h4, h5])
      go_enter Try.func26, Try.ntmps26
      go_wp2_with fail
      refine (least_any _ _ _ _ (by omega) (by omega) (by omega) (by omega)).mono ?_
      rintro e w1 ⟨rfl, b1⟩
      rw [least_in h1 h2 h3 h4]
      have hc := b1.cell (p := ⟨w.heap.size, 2, none⟩) (by simp)
      simp at hc
      go_wp2
      go_ret
      exact ⟨ret_bool hr.out.symm, (below_lit _ _).trans (b1.mono (by simp))⟩
    · have hr := Lib.hid (show right a d g = false by unfold right; simp; omega)
      go_enter Try.func26, Try.ntmps26
      go_wp2_with fail
      refine (least_any _ _ _ _ (by omega) (by omega) (by omega) (by omega)).mono ?_
      rintro e w1 ⟨rfl, b1⟩
      rw [least_in h1 h2 h3 h4]
      have hc := b1.cell (p := ⟨w.heap.size, 2, none⟩) (by simp)
      simp at hc
      go_wp2
      go_ret
      exact ⟨ret_bool (by rw [hr.out]), (below_lit _ _).trans (b1.mono (by simp))⟩
  · have hr := Lib.hid (show right a d g = false by unfold right; simp; omega)
    go_enter Try.func26, Try.ntmps26
    go_wp2_with fail
    refine (least_any _ _ _ _ (by omega) (by omega) (by omega) (by omega)).mono ?_
    rintro e w1 ⟨rfl, b1⟩
    rw [least_out (by omega)]
    have hc := b1.cell (p := ⟨w.heap.size, 2, none⟩) (by simp)
    simp at hc
    go_wp2
    go_ret
    exact ⟨ret_bool (by rw [hr.out]), (below_lit _ _).trans (b1.mono (by simp))⟩
/-- how many nodes lie above depth d, how many leaves at it -/
def nodes (a d : Int) : Int := if d = 1 then 1 else if d = 2 then 1 + a else 1 + a + a * a
def leaves (a d : Int) : Int := if d = 1 then a else if d = 2 then a * a else a * a * a
theorem nine {P : Int → Int → Prop} {a d : Int} (h1 : 2 ≤ a) (h2 : a ≤ 4) (h3 : 1 ≤ d) (h4 : d ≤ 3) (h : P 2 1 ∧ P 3 1 ∧ P 4 1 ∧ P 2 2 ∧ P 3 2 ∧ P 4 2 ∧ P 2 3 ∧ P 3 3 ∧ P 4 3) : P a d := by
  obtain rfl | rfl | rfl : a = 2 ∨ a = 3 ∨ a = 4 := by omega
  all_goals obtain rfl | rfl | rfl : d = 1 ∨ d = 2 ∨ d = 3 := by omega
  all_goals simp [h]
theorem right_yes {a d g : Int} (h : right a d g = true) : 2 ≤ a ∧ a ≤ 4 ∧ 1 ≤ d ∧ d ≤ 3 ∧ d + 2 ≤ g ∧ g ≤ 64 := by simpa [right] using h
/-- the sums on the way -/
def nUp (a : Int) (k : Nat) : Int := if k = 0 then 0 else nodes a k
def lUp (a : Int) (k : Nat) : Int := if k = 0 then 1 else leaves a k
theorem nUp_succ (a : Int) (k : Nat) (hk : k < 3) : nUp a (k + 1) = nUp a k + lUp a k := by
  obtain rfl | rfl | rfl : k = 0 ∨ k = 1 ∨ k = 2 := by omega
  all_goals simp [nUp, lUp, nodes, leaves]
theorem lUp_succ (a : Int) (k : Nat) (hk : k < 3) : lUp a (k + 1) = lUp a k * a := by
  obtain rfl | rfl | rfl : k = 0 ∨ k = 1 ∨ k = 2 := by omega
  all_goals simp [lUp, leaves]
theorem lUp_bd {a : Int} (k : Nat) (hk : k ≤ 3) (h1 : 2 ≤ a) (h2 : a ≤ 4) : 1 ≤ lUp a k ∧ lUp a k ≤ 64 := by
  obtain rfl | rfl | rfl | rfl : k = 0 ∨ k = 1 ∨ k = 2 ∨ k = 3 := by omega
  all_goals obtain rfl | rfl | rfl : a = 2 ∨ a = 3 ∨ a = 4 := by omega
  all_goals decide
theorem nUp_bd {a : Int} (k : Nat) (hk : k ≤ 3) (h1 : 2 ≤ a) (h2 : a ≤ 4) : 0 ≤ nUp a k ∧ nUp a k ≤ 21 := by
  obtain rfl | rfl | rfl | rfl : k = 0 ∨ k = 1 ∨ k = 2 ∨ k = 3 := by omega
  all_goals obtain rfl | rfl | rfl : a = 2 ∨ a = 3 ∨ a = 4 := by omega
  all_goals decide
theorem up_all {a d : Int} (h3 : 1 ≤ d) (h4 : d ≤ 3) : nUp a d.toNat = nodes a d ∧ lUp a d.toNat = leaves a d := by
  obtain rfl | rfl | rfl : d = 1 ∨ d = 2 ∨ d = 3 := by omega
  all_goals exact ⟨rfl, rfl⟩
def nodesOf (a d g : Int) : Int := if right a d g then nodes a d else 0
def leavesOf (a d g : Int) : Int := if right a d g then leaves a d else 0

set_option maxHeartbeats 400000 in
theorem levels_any (a d g : Int) (w : World) (ha0 : -9223372036854775808 ≤ a) (ha1 : a ≤ 9223372036854775807) (hd0 : -9223372036854775808 ≤ d) (hd1 : d ≤ 9223372036854775807) (hg0 : -9223372036854775808 ≤ g) (hg1 : g ≤ 9223372036854775807) :
    Calls Try.prog 70 #[.agg #[.int .i64 a, .int .i64 d, .int .i64 g]] w fun e w' => e = .returned (.tuple #[.int .i64 (nodesOf a d g), .int .i64 (leavesOf a d g)]) ∧ Below w.heap.size w w' := by
  by_cases hr : right a d g = true
  · obtain ⟨h1, h2, h3, h4, h5, h6⟩ := right_yes hr
    have hno := Lib.hid (show nodesOf a d g = nodes a d by simp [nodesOf, hr])
    have hle := Lib.hid (show leavesOf a d g = leaves a d by simp [leavesOf, hr])
    have hup := Lib.hid (up_all (a := a) h3 h4)
    have Hr := Lib.hid hr
    clear hr
    go_enter Try.func70, Try.ntmps70
    go_wp2_with fail
    refine (right_any _ _ _ _ (by omega) (by omega) (by omega) (by omega) (by omega) (by omega)).mono ?_
    rintro e w1 ⟨rfl, b1⟩
    rw [Hr.out]
    have hc := b1.cell (p := ⟨w.heap.size, 0, none⟩) (by simp)
    have hc' := b1.cell (p := ⟨w.heap.size, 1, none⟩) (by simp)
    simp at hc hc'
    have bw := (below_lit w _).trans (b1.mono (by simp))
    go_wp2
    go_loop [2, 3, 9] (fun n l i => ∃ k : Nat, (k : Int) ≤ d ∧ i = .int .i64 k ∧ n = .int .i64 (nUp a k) ∧ l = .int .i64 (lUp a k)) (fun _ _ i => (d - intOf i).toNat)
    case atStart => exact ⟨0, by omega, rfl, rfl, rfl⟩
    case round =>
      obtain ⟨k, hk, rfl, rfl, rfl⟩ := hrel
      by_cases hlt : (k : Int) < d
      · have e1 := Lib.hid (nUp_succ a k (by omega))
        have e2 := Lib.hid (lUp_succ a k (by omega))
        have l1 := lUp_bd k (by omega) h1 h2
        have l2 := lUp_bd (k + 1) (by omega) h1 h2
        rw [e2.out] at l2
        have n1 := nUp_bd k (by omega) h1 h2
        go_wp2
        go_round
        case rel => exact ⟨k + 1, by omega, by go_num, by rw [e1.out], by rw [e2.out]⟩
        case measure => simp [intOf]; omega
      · obtain rfl : d = (k : Int) := by omega
        go_wp2
        go_ret2
        exact ⟨by rw [hno.out, hle.out, ← hup.out.1, ← hup.out.2]; rfl, bw⟩
  · have hr' : right a d g = false := by simpa using hr
    have hno := Lib.hid (show nodesOf a d g = 0 by simp [nodesOf, hr'])
    have hle := Lib.hid (show leavesOf a d g = 0 by simp [leavesOf, hr'])
    have Hr := Lib.hid hr'
    clear hr hr'
    go_enter Try.func70, Try.ntmps70
    go_wp2_with fail
    refine (right_any _ _ _ _ (by omega) (by omega) (by omega) (by omega) (by omega) (by omega)).mono ?_
    rintro e w1 ⟨rfl, b1⟩
    rw [Hr.out]
    go_wp2
    go_ret2
    exact ⟨by rw [hno.out, hle.out]; rfl, (below_lit w _).trans (b1.mono (by simp))⟩
end Go.Proofs.Ytknjkafjeicmbaa.Geom
