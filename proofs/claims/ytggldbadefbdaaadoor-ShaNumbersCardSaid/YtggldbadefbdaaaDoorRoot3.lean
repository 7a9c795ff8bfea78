/- The walks of the reference's above and root. -/
import Derived.Test.YtggldbadefbdaaaDoorRoot2
namespace Go.Proofs.YtggldbadefbdaaaDoor.Sha
open Go.RowKit
set_option linter.unusedVariables false
set_option maxRecDepth 100000
set_option maxHeartbeats 800000 in
theorem above_any (a b : List Nat) (ha : a.length = 5) (hb : b.length = 5) (w : World) : Calls Tryd.prog 71 #[arrV (vn a), arrV (vn b)] w fun e w' => e = .returned (.bool (aboveF a b 5)) ∧ Below w.heap.size w w' := by
  have HA := Lib.hid ha
  have HB := Lib.hid hb
  obtain ⟨R, hR⟩ : ∃ R, R = aboveF a b 5 := ⟨_, rfl⟩
  rw [← hR]
  have HR := Lib.hid hR
  clear ha hb hR
  go_enter Tryd.func71, Tryd.ntmps71
  go_wp2_with (first
    | ((with_reducible show wpList _ _ _ (⟨some 2, _, _, _, _, _⟩ :: _) _ _); refine wpList_boxN rfl _ _ rfl (vn a) rfl ?_; intro w1 hb1 bw1 hs1)
    | ((with_reducible show wpList _ _ _ (⟨some 3, _, _, _, _, _⟩ :: _) _ _); refine wpList_boxN rfl _ _ rfl (vn b) rfl ?_; intro w2 hb2 bw2 hs2; have hb12 := hb1.on bw2; have bt2 := bt bw1 bw2)
    | fail)
  have l01 : w.heap.size < w1.heap.size := hs1
  obtain ⟨B1, hB1⟩ : ∃ B, B = w1.heap.size := ⟨_, rfl⟩
  rw [← hB1] at hb2 l01 ⊢
  clear hB1 hb1 bw1 bw2 hs1 hs2
  go_loopw [5] (fun i wr => ∃ (j : Nat) (i1 : Int), j ≤ 5 ∧ i1 = (j : Int) - 1 ∧ i = .int .i64 i1 ∧ Hid (R = aboveF a b j) ∧ Blk wr w.heap.size (vn a) ∧ Blk wr B1 (vn b) ∧ Below w.heap.size w wr) (fun i _ => (intOf i + 1).toNat)
  case atStart => exact ⟨5, 4, by omega, by omega, rfl, HR, hb12, hb2, bt2⟩
  case round =>
    obtain ⟨j, i1, hj, hi1, rfl, hr, d0, d1, bt0⟩ := hrel
    clear hb12 hb2 bt2
    rcases Nat.eq_zero_or_pos j with h0 | h0
    · subst h0
      have hneg : ¬ (0 : Int) ≤ i1 := by omega
      have hneg' : i1 < 0 := by omega
      have hr0 := Lib.hid (show R = false from hr.out)
      clear hi1
      go_wp2
      go_ret
      exact ⟨by rw [hr0.out]; rfl, bt0⟩
    · obtain ⟨k, rfl⟩ : ∃ k, j = k + 1 := ⟨j - 1, by omega⟩
      obtain rfl : i1 = (k : Int) := by omega
      have hca := Blk.num d0 (k := k) (by rw [HA.out]; omega)
      have hcb := Blk.num d1 (k := k) (by rw [HB.out]; omega)
      have hB0 := d0.lt
      have hB1 := d1.lt
      have hkI : (k : Int) < 5 := by omega
      have hst := Lib.hid (show R = if fn a k ≠ fn b k then decide (fn b k < fn a k) else aboveF a b k from hr.out)
      obtain ⟨x, hx⟩ : ∃ x, x = fn a k := ⟨_, rfl⟩
      obtain ⟨y, hy⟩ : ∃ y, y = fn b k := ⟨_, rfl⟩
      rw [← hx] at hca hst
      rw [← hy] at hcb hst
      clear hx hy hi1
      by_cases hxy : x = y
      · subst hxy
        have hne : ((x : Int) != (x : Int)) = false := bne_no rfl
        have hst2 := Lib.hid (show R = aboveF a b k by rw [hst.out]; simp)
        go_wp2
        refine region_inb (by kernel_rfl) (by kernel_rfl) ?_
        have inbNe := InB.some
        have inbW := @wrap_small
        have inbU := IntKind.wrap_u8'
        repeat (refine wpQuiet_step (fun K hK => ?_); go_simp; first | (refine hK _ ?_; clear hK K) | (apply Exists.intro; refine ⟨?_, hK _ ?_⟩; (· (intro w' hw'; first | fail | (have hcw := hw'.cell; go_simp; exact rfl))); clear hK K))
        refine wpQuiet_nil ?_
        intro wq hq
        clear inbNe inbW inbU
        have e0 := d0.on hq.below
        have e1 := d1.on hq.below
        have btq := bt bt0 hq.below
        clear hq
        go_wp2
        go_roundw
        case rel => exact ⟨k, (k : Int) - 1, by omega, rfl, by go_num, hst2, e0, e1, btq⟩
        case measure => simp [intOf] <;> omega
      · have hne : ((x : Int) != (y : Int)) = true := bne_yes (by omega)
        have hst2 := Lib.hid (show R = decide (y < x) by rw [hst.out, if_pos hxy])
        clear hxy
        go_wp2
        refine region_inb (by kernel_rfl) (by kernel_rfl) ?_
        have inbNe := InB.some
        have inbW := @wrap_small
        have inbU := IntKind.wrap_u8'
        repeat (refine wpQuiet_step (fun K hK => ?_); go_simp; first | (refine hK _ ?_; clear hK K) | (apply Exists.intro; refine ⟨?_, hK _ ?_⟩; (· (intro w' hw'; first | fail | (have hcw := hw'.cell; go_simp; exact rfl))); clear hK K))
        refine wpQuiet_nil ?_
        intro wq hq
        clear inbNe inbW inbU
        have e0 := d0.on hq.below
        have e1 := d1.on hq.below
        have btq := bt bt0 hq.below
        have c0 := (hq.below.cell (p := ⟨w.heap.size, k, none⟩) hB0).trans hca
        have c1 := (hq.below.cell (p := ⟨B1, k, none⟩) hB1).trans hcb
        have s0 := e0.lt
        have s1 := e1.lt
        clear hq hca hcb hB0 hB1
        go_wp2
        refine region_inb (by kernel_rfl) (by kernel_rfl) ?_
        have inbNe := InB.some
        have inbW := @wrap_small
        have inbU := IntKind.wrap_u8'
        repeat (refine wpQuiet_step (fun K hK => ?_); go_simp; first | (refine hK _ ?_; clear hK K) | (apply Exists.intro; refine ⟨?_, hK _ ?_⟩; (· (intro w' hw'; first | fail | (have hcw := hw'.cell; go_simp; exact rfl))); clear hK K))
        refine wpQuiet_nil ?_
        intro wq hq
        clear inbNe inbW inbU
        have btr := bt btq hq.below
        clear hq
        go_wp2
        go_ret
        exact ⟨by rw [hst2.out]; simp, btr⟩
end Go.Proofs.YtggldbadefbdaaaDoor.Sha
