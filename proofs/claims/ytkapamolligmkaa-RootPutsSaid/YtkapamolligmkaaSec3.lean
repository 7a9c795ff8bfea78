/- The walks of sector.read, with its taker, of the reference's number and Blank. -/
import Derived.Test.YtkapamolligmkaaSec2
namespace Go.Proofs.Ytkapamolligmkaa.Sec
open Go.RowKit
open Go.Proofs.Ytkapamolligmkaa.Num (putL getN)
set_option linter.unusedVariables false
set_option maxRecDepth 100000
/-- a slice of bytes is taken off: its first ones as a number, the rest stays -/
theorem take_any (g : Nat) (b : Nat) (off : Nat) (l : List UInt8) (n c : Nat) (s : Nat) (z : Int) (hz : z = (s : Int)) (w : World) (hb : Box w g (.slice (some ⟨b, off, none⟩) n c)) (hn : n = l.length) (hr : Rd w w.heap.size (some ⟨b, off, none⟩) (l.map e8)) (hs : 1 ≤ s) (h8 : s ≤ 8) (hsl : s < l.length) (hc : n ≤ c) (hcm : c ≤ maxLen) :
    Calls Try.prog 49 #[.pointer (some ⟨g, 0, none⟩), .int .i64 z] w fun e w' => e = .returned (.int .u64 (getN (l.take s) : Int)) ∧ Box w' g (.slice (some ⟨b, off + s, none⟩) (n - s) (c - s)) ∧ w.grownBy w' (some g) := by
  subst hn hz
  have hc0 := hb.cell
  have hf0 := hb.free
  unfold maxLen at hcm
  have hr1 : Rd w w.heap.size (some ⟨b, off, none⟩) ((l.take s).map e8) := by rw [List.map_take]; exact hr.take s
  have hl1 : (l.take s).length = s := by rw [List.length_take]; omega
  have hg := Lib.hid (fun d => Num.get_any (some ⟨b, off, none⟩) (l.take s) s d w.heap.size w hl1.symm hr1 (by omega) (by omega))
  have hne : ¬ c = s := by omega
  clear hr hr1
  go_enter Try.func49, Try.ntmps49
  go_wp2_with (go_at_call 59; refine (hg.out _).mono ?_; rintro e w1 ⟨rfl, rfl⟩)
  go_ret
  exact ⟨rfl, hb.set _, grown_set _ _ _⟩
theorem rblank_any (A : Option Addr) (l : List UInt8) (n c : Nat) (w : World) (hn : n = l.length) (hr : Rd w w.heap.size A (l.map e8)) (hl : l.length ≤ 1000000000) :
    Calls Try.prog 18 #[.slice A n c] w fun e w' => e = .returned (.bool (blankB l)) ∧ w = w' := by
  subst hn
  go_enter Try.func18, Try.ntmps18
  go_wp2
  go_loop [3] (fun i => ∃ k : Nat, k ≤ l.length ∧ i = .int .i64 k ∧ l.take k = List.replicate k 0) (fun i => l.length - (intOf i).toNat)
  case atStart => exact ⟨0, by omega, rfl, rfl⟩
  case round =>
    obtain ⟨k, hk, rfl, hz⟩ := hrel
    by_cases hlt : k < l.length
    · obtain ⟨b, off, rfl, hbb, hc⟩ := hr.get (k := k) (by simpa using hlt)
      rw [List.getElem_map] at hc
      by_cases h0 : l[k] = 0
      · have ht := bne8_no h0
        have e0 : (((0 : UInt8).toNat : Int)) = 0 := rfl
        rw [e0] at ht
        have hx := Lib.hid (show l.take (k + 1) = List.replicate (k + 1) 0 by rw [List.take_succ_eq_append_getElem hlt, hz, h0, List.replicate_succ'])
        clear h0 hz
        go_wp2
        go_round
        case rel => exact ⟨k + 1, by omega, by go_num, hx.out⟩
        case measure => simp [intOf]; omega
      · have ht := bne8 h0
        have e0 : (((0 : UInt8).toNat : Int)) = 0 := rfl
        rw [e0] at ht
        have hx := Lib.hid (show blankB l = false by
          unfold blankB zero512
          rw [decide_eq_false_iff_not]
          intro e
          apply h0
          have : l[k] = (List.replicate 512 (0 : UInt8))[k]'(by rw [← e]; exact hlt) := by simp only [e]
          rw [this, List.getElem_replicate])
        clear h0 hz
        go_wp2
        go_ret
        exact ⟨ret_bool hx.out.symm, rfl⟩
    · obtain rfl : k = l.length := by omega
      rw [List.take_length] at hz
      have hx := Lib.hid (show blankB l = ((l.length : Int) == 512) by
        unfold blankB zero512
        rw [hz, List.length_replicate]
        by_cases h : l.length = 512
        · rw [h]; decide
        · have h1 : List.replicate l.length (0 : UInt8) ≠ List.replicate 512 0 := fun e => h (by simpa using congrArg List.length e)
          have h2 : ((l.length : Int) == 512) = false := beq_no (by omega)
          rw [h2, decide_eq_false_iff_not]; exact h1)
      clear hz
      go_wp2
      go_ret
      exact ⟨ret_bool hx.out.symm, rfl⟩
end Go.Proofs.Ytkapamolligmkaa.Sec
