/- The walks of the package geom and of its reference: pages, parts, the reference's conditions. -/
import Derived.Test.YtknjkafjeicmbaaGeom
import Derived.Deep.RegionWith
import Derived.Deep.RegionHeld3
namespace Go.Proofs.Ytknjkafjeicmbaa.Geom
open Go.RowKit
set_option linter.unusedVariables false
abbrev lo : Int := -9223372036854775808
abbrev hi : Int := 9223372036854775807
def pagesOf (a d g : Int) : Int := nodesOf a d g + leavesOf a d g
theorem nodesOf_bd (a d g : Int) : 0 ≤ nodesOf a d g ∧ nodesOf a d g ≤ 21 := by
  unfold nodesOf
  by_cases h : right a d g = true
  · rw [if_pos h]
    obtain ⟨h1, h2, h3, h4, _⟩ := right_yes h
    exact nine (P := fun a d => 0 ≤ nodes a d ∧ nodes a d ≤ 21) h1 h2 h3 h4 (by decide)
  · rw [if_neg h]; omega
theorem leavesOf_bd (a d g : Int) : 0 ≤ leavesOf a d g ∧ leavesOf a d g ≤ 64 := by
  unfold leavesOf
  by_cases h : right a d g = true
  · rw [if_pos h]
    obtain ⟨h1, h2, h3, h4, _⟩ := right_yes h
    exact nine (P := fun a d => 0 ≤ leaves a d ∧ leaves a d ≤ 64) h1 h2 h3 h4 (by decide)
  · rw [if_neg h]; omega
theorem pagesOf_bd (a d g : Int) : 0 ≤ pagesOf a d g ∧ pagesOf a d g ≤ 85 := by
  have := nodesOf_bd a d g; have := leavesOf_bd a d g; unfold pagesOf; omega

set_option maxHeartbeats 400000 in
theorem nodes_any (a d g : Int) (w : World) (ha0 : lo ≤ a) (ha1 : a ≤ hi) (hd0 : lo ≤ d) (hd1 : d ≤ hi) (hg0 : lo ≤ g) (hg1 : g ≤ hi) :
    Calls Try.prog 30 #[.agg #[.int .i64 a, .int .i64 d, .int .i64 g]] w fun e w' => e = .returned (.int .i64 (nodesOf a d g)) ∧ Below w.heap.size w w' := by
  go_enter Try.func30, Try.ntmps30
  go_wp2_with (go_at_call 70; refine (levels_any _ _ _ _ ha0 ha1 hd0 hd1 hg0 hg1).mono ?_; rintro e w' ⟨rfl, b1⟩)
  go_ret
  exact ⟨rfl, (below_lit w _).trans (b1.mono (by simp))⟩
set_option maxHeartbeats 400000 in
theorem leaves_any (a d g : Int) (w : World) (ha0 : lo ≤ a) (ha1 : a ≤ hi) (hd0 : lo ≤ d) (hd1 : d ≤ hi) (hg0 : lo ≤ g) (hg1 : g ≤ hi) :
    Calls Try.prog 32 #[.agg #[.int .i64 a, .int .i64 d, .int .i64 g]] w fun e w' => e = .returned (.int .i64 (leavesOf a d g)) ∧ Below w.heap.size w w' := by
  go_enter Try.func32, Try.ntmps32
  go_wp2_with (go_at_call 70; refine (levels_any _ _ _ _ ha0 ha1 hd0 hd1 hg0 hg1).mono ?_; rintro e w' ⟨rfl, b1⟩)
  go_ret
  exact ⟨rfl, (below_lit w _).trans (b1.mono (by simp))⟩
set_option maxHeartbeats 400000 in
theorem pages_any (a d g : Int) (w : World) (ha0 : lo ≤ a) (ha1 : a ≤ hi) (hd0 : lo ≤ d) (hd1 : d ≤ hi) (hg0 : lo ≤ g) (hg1 : g ≤ hi) :
    Calls Try.prog 34 #[.agg #[.int .i64 a, .int .i64 d, .int .i64 g]] w fun e w' => e = .returned (.int .i64 (pagesOf a d g)) ∧ Below w.heap.size w w' := by
  have h1 := nodesOf_bd a d g
  have h2 := leavesOf_bd a d g
  go_enter Try.func34, Try.ntmps34
  go_wp2_with (go_at_call 70; refine (levels_any _ _ _ _ ha0 ha1 hd0 hd1 hg0 hg1).mono ?_; rintro e w' ⟨rfl, b1⟩)
  go_ret
  exact ⟨rfl, (below_lit w _).trans (b1.mono (by simp))⟩

def partsV (a d g : Int) : Value := .agg #[.string ⟨#[114, 111, 111, 116]⟩, .int .i64 2, .string ⟨#[115, 117, 112, 101, 114]⟩, .int .i64 2, .string ⟨#[108, 111, 103]⟩, .int .i64 g, .string ⟨#[97, 114, 101, 97]⟩, .int .i64 (2 * pagesOf a d g)]
set_option maxHeartbeats 800000 in
theorem parts_any (a d g : Int) (w : World) (ha0 : lo ≤ a) (ha1 : a ≤ hi) (hd0 : lo ≤ d) (hd1 : d ≤ hi) (hg0 : lo ≤ g) (hg1 : g ≤ hi) :
    Calls Try.prog 71 #[.agg #[.int .i64 a, .int .i64 d, .int .i64 g]] w fun e w' => e = .returned (partsV a d g) ∧ Below w.heap.size w w' := by
  have h1 := pagesOf_bd a d g
  have hwr : IntKind.i64.wrap (2 * pagesOf a d g) = 2 * pagesOf a d g := IntWalk.i64_in _ (by omega)
  go_enter Try.func71, Try.ntmps71
  go_wp2
  go_region_with (go_at_call 34; refine (pages_any _ _ _ _ ha0 ha1 hd0 hd1 hg0 hg1).mono ?_; rintro e w1 ⟨rfl, b1⟩; obtain ⟨hc1, hf1, hs1⟩ := bcell b1; simp at hs1)
  all_goals go_wp2
  all_goals
    refine bodyPost_ret (v := partsV a d g) (by unfold partsV; simp [results, Try.results71, go_sem, hc1]) rfl ⟨rfl, ?_⟩
    repeat refine Below.setCell ?_ (by simp) _
    exact bt (b2alloc _ _ _).drew b1
def psum (g p : Int) : Nat → Int | 0 => 0 | 1 => 2 | 2 => 4 | 3 => 4 + g | _ => 4 + g + p
def sizeOf (a d g : Int) : Int := if right a d g then 4 + g + 2 * pagesOf a d g else 0
set_option maxHeartbeats 800000 in
theorem size_any (a d g : Int) (w : World) (ha0 : lo ≤ a) (ha1 : a ≤ hi) (hd0 : lo ≤ d) (hd1 : d ≤ hi) (hg0 : lo ≤ g) (hg1 : g ≤ hi) :
    Calls Try.prog 36 #[.agg #[.int .i64 a, .int .i64 d, .int .i64 g]] w fun e w' => e = .returned (.int .i64 (sizeOf a d g)) ∧ Below w.heap.size w w' := by
  by_cases hr : right a d g = true
  · obtain ⟨h1, h2, h3, h4, h5, h6⟩ := right_yes hr
    have hsz := Lib.hid (show sizeOf a d g = 4 + g + 2 * pagesOf a d g by simp [sizeOf, hr])
    have hp := pagesOf_bd a d g
    have Hr := Lib.hid hr
    clear hr
    obtain ⟨p, hpe⟩ : ∃ p, p = 2 * pagesOf a d g := ⟨_, rfl⟩
    have hp1 : 0 ≤ p := by omega
    have hp2 : p ≤ 170 := by omega
    have Hp := Lib.hid hpe
    have i0 : ∀ w, (Instr.index 70 (.agg #[.string ⟨#[114, 111, 111, 116]⟩, .int .i64 2, .string ⟨#[115, 117, 112, 101, 114]⟩, .int .i64 2, .string ⟨#[108, 111, 103]⟩, .int .i64 g, .string ⟨#[97, 114, 101, 97]⟩, .int .i64 p]) (.int .i64 0)).run Try.prog w = .ok (.agg #[.string ⟨#[114, 111, 111, 116]⟩, .int .i64 2]) w := fun _ => by kernel_rfl
    have i1 : ∀ w, (Instr.index 70 (.agg #[.string ⟨#[114, 111, 111, 116]⟩, .int .i64 2, .string ⟨#[115, 117, 112, 101, 114]⟩, .int .i64 2, .string ⟨#[108, 111, 103]⟩, .int .i64 g, .string ⟨#[97, 114, 101, 97]⟩, .int .i64 p]) (.int .i64 1)).run Try.prog w = .ok (.agg #[.string ⟨#[115, 117, 112, 101, 114]⟩, .int .i64 2]) w := fun _ => by kernel_rfl
    have i2 : ∀ w, (Instr.index 70 (.agg #[.string ⟨#[114, 111, 111, 116]⟩, .int .i64 2, .string ⟨#[115, 117, 112, 101, 114]⟩, .int .i64 2, .string ⟨#[108, 111, 103]⟩, .int .i64 g, .string ⟨#[97, 114, 101, 97]⟩, .int .i64 p]) (.int .i64 2)).run Try.prog w = .ok (.agg #[.string ⟨#[108, 111, 103]⟩, .int .i64 g]) w := fun _ => by kernel_rfl
    have i3 : ∀ w, (Instr.index 70 (.agg #[.string ⟨#[114, 111, 111, 116]⟩, .int .i64 2, .string ⟨#[115, 117, 112, 101, 114]⟩, .int .i64 2, .string ⟨#[108, 111, 103]⟩, .int .i64 g, .string ⟨#[97, 114, 101, 97]⟩, .int .i64 p]) (.int .i64 3)).run Try.prog w = .ok (.agg #[.string ⟨#[97, 114, 101, 97]⟩, .int .i64 p]) w := fun _ => by kernel_rfl
    go_enter Try.func36, Try.ntmps36
    go_wp2_with fail
    refine (right_any _ _ _ _ ha0 ha1 hd0 hd1 hg0 hg1).mono ?_
    rintro e w1 ⟨rfl, b1⟩
    rw [Hr.out]
    obtain ⟨hc1, hf1, hs1⟩ := bcell b1
    simp at hs1
    have bw := (below_lit w _).trans (b1.mono (by simp))
    go_wp2_with fail
    refine (parts_any _ _ _ _ ha0 ha1 hd0 hd1 hg0 hg1).mono ?_
    rintro e w2 ⟨rfl, b2⟩
    unfold partsV
    rw [← hpe]
    clear hpe hc1 hf1
    have bw2 := bw.trans (b2.mono bw.size)
    go_wp2_with fail
    go_loopw [2, 4, 10] (fun n _ i wr => ∃ k : Nat, k ≤ 4 ∧ i = .int .i64 k ∧ n = .int .i64 (psum g p k) ∧ Below w.heap.size w wr) (fun _ _ i _ => (4 - intOf i).toNat)
    case atStart => exact ⟨0, by omega, rfl, rfl, bw2⟩
    case round =>
      obtain ⟨k, hk, rfl, rfl, hbel⟩ := hrel
      have hbs := hbel.size
      obtain rfl | rfl | rfl | rfl | rfl : k = 0 ∨ k = 1 ∨ k = 2 ∨ k = 3 ∨ k = 4 := by omega
      · simp only [psum, Int.cast_ofNat_Int]
        go_wp2
        go_roundw
        case rel => exact ⟨1, by omega, rfl, rfl, hbel.alloc hbs _⟩
        case measure => simp [intOf]
      · simp only [psum, Int.cast_ofNat_Int]
        go_wp2
        go_roundw
        case rel => exact ⟨2, by omega, rfl, rfl, hbel.alloc hbs _⟩
        case measure => simp [intOf]
      · simp only [psum, Int.cast_ofNat_Int]
        go_wp2
        go_roundw
        case rel => exact ⟨3, by omega, rfl, rfl, hbel.alloc hbs _⟩
        case measure => simp [intOf]
      · simp only [psum, Int.cast_ofNat_Int]
        go_wp2
        go_roundw
        case rel => exact ⟨4, by omega, rfl, rfl, hbel.alloc hbs _⟩
        case measure => simp [intOf]
      · simp only [psum, Int.cast_ofNat_Int]
        go_wp2
        go_ret
        exact ⟨ret_int (by rw [hsz.out, ← Hp.out]), hbel⟩
  · have hr' : right a d g = false := by simpa using hr
    have hsz := Lib.hid (show sizeOf a d g = 0 by simp [sizeOf, hr'])
    have Hr := Lib.hid hr'
    clear hr hr'
    go_enter Try.func36, Try.ntmps36
    go_wp2_with fail
    refine (right_any _ _ _ _ ha0 ha1 hd0 hd1 hg0 hg1).mono ?_
    rintro e w1 ⟨rfl, b1⟩
    rw [Hr.out]
    go_wp2
    go_ret
    exact ⟨ret_int hsz.out.symm, bt (below_lit w _) b1⟩
end Go.Proofs.Ytknjkafjeicmbaa.Geom
