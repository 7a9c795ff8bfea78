/- The walk of the reference's mixed column, and of the chapter's examples. -/
import Derived.Test.YteecbjpnnklbpaaGf2
import Derived.Stop.BytesEq
namespace Go.Proofs.Yteecbjpnnklbpaa.Gf
open Go.RowKit
set_option linter.unusedVariables false

/-- the three blocks of the reference's call: what came in, what goes back, what is made -/
def Mid (B : Nat) (x : Col) (k : Nat) (w w' : World) : Prop :=
  w'.heap[B]? = some (.cells #[e8 x.a, e8 x.b, e8 x.c, e8 x.d] 51 (0, 0)) ∧ w'.heap[B + 1]? = some (.cells (outs x 0) 51 (0, 0)) ∧ w'.heap[B + 1 + 1]? = some (.cells (outs x k) 51 (0, 0)) ∧ Below B w w'
theorem Mid.on {B : Nat} {x : Col} {k : Nat} {w w' w1 : World} (h : Mid B x k w w') (b : Below w'.heap.size w' w1) : Mid B x k w w1 :=
  ⟨(b.block B (lt_of_block h.1)).trans h.1, (b.block _ (lt_of_block h.2.1)).trans h.2.1, (b.block _ (lt_of_block h.2.2.1)).trans h.2.2.1, h.2.2.2.trans (b.mono (by have := lt_of_block h.1; omega))⟩
theorem Mid.four {B : Nat} {x : Col} {k : Nat} {w w' : World} (h : Mid B x k w w') : Cells4 w' B x :=
  ⟨by rw [cell_of_row w' B 0 _ _ _ h.1]; rfl, by rw [cell_of_row w' B 1 _ _ _ h.1]; rfl, by rw [cell_of_row w' B 2 _ _ _ h.1]; rfl, by rw [cell_of_row w' B 3 _ _ _ h.1]; rfl⟩
theorem Mid.set {B : Nat} {x : Col} {k : Nat} {w w' : World} (h : Mid B x k w w') (hk : k < 4) (r : UInt8) (hr : r = colAt (x.at k) (x.at (k + 1)) (sum4 x.a x.b x.c x.d)) : Mid B x (k + 1) w (w'.setCell ⟨B + 1 + 1, k, none⟩ (.int .u8 (r.toNat : Int))) := by
  refine ⟨?_, ?_, ?_, h.2.2.2.setCell (by simp; omega) _⟩
  · rw [heap_setCell_other _ _ _ _ (by simp; omega)]; exact h.1
  · rw [heap_setCell_other _ _ _ _ (by simp)]; exact h.2.1
  · rw [heap_setCell_same w' (B + 1 + 1) k _ _ _ h.2.2.1, outs_set x k hk r hr]
theorem Mid.start (w : World) (x : Col) : Mid w.heap.size x 0 w (((w.alloc (.cells #[e8 x.a, e8 x.b, e8 x.c, e8 x.d] 51)).alloc (.cells (outs x 0) 51)).alloc (.cells (outs x 0) 51)) := by
  refine ⟨?_, ?_, ?_, ((Below.refl _ _).alloc (Nat.le_refl _) _ |>.alloc (by simp) _).alloc (by simp; omega) _⟩
  · rw [Below.heap_alloc _ _ _ (by simp; omega), Below.heap_alloc _ _ _ (by simp)]; exact heap_alloc_new _ _
  · rw [Below.heap_alloc _ _ _ (by simp)]
    have := heap_alloc_new (w.alloc (.cells #[e8 x.a, e8 x.b, e8 x.c, e8 x.d] 51)) (.cells (outs x 0) 51)
    rwa [show (w.alloc (.cells #[e8 x.a, e8 x.b, e8 x.c, e8 x.d] 51)).heap.size = w.heap.size + 1 by simp] at this
  · have := heap_alloc_new ((w.alloc (.cells #[e8 x.a, e8 x.b, e8 x.c, e8 x.d] 51)).alloc (.cells (outs x 0) 51)) (.cells (outs x 0) 51)
    rwa [show ((w.alloc (.cells #[e8 x.a, e8 x.b, e8 x.c, e8 x.d] 51)).alloc (.cells (outs x 0) 51)).heap.size = w.heap.size + 1 + 1 by simp] at this
theorem outs_get (x : Col) (k : Nat) (hk : k < 4) : ∃ v, (outs x k)[k]? = some v := by
  obtain rfl | rfl | rfl | rfl : k = 0 ∨ k = 1 ∨ k = 2 ∨ k = 3 := by omega
  all_goals exact ⟨_, rfl⟩
theorem rcol_at (x : Col) (k : Nat) (hk : k < 4) : twice (x.at k) ^^^ x.at (k + 1) ^^^ twice (x.at (k + 1)) ^^^ x.at (k + 2) ^^^ x.at (k + 3) = colAt (x.at k) (x.at (k + 1)) (sum4 x.a x.b x.c x.d) := by
  rw [rcol]
  congr 1
  obtain rfl | rfl | rfl | rfl : k = 0 ∨ k = 1 ∨ k = 2 ∨ k = 3 := by omega
  · rfl
  · show sum4 x.b x.c x.d x.a = _; unfold sum4; ac_rfl
  · show sum4 x.c x.d x.a x.b = _; unfold sum4; ac_rfl
  · show sum4 x.d x.a x.b x.c = _; unfold sum4; ac_rfl
set_option maxRecDepth 100000 in
set_option maxHeartbeats 3200000 in
theorem rcolumn_any (x : Col) (w : World) : Calls Try.prog 36 #[colV x] w fun e w' => e = .returned (colV (mix x)) ∧ Below w.heap.size w w' := by
  unfold colV
  go_enter Try.func36, Try.ntmps36
  go_wp2
  go_loopw [4, 5] (fun i _ wr => ∃ k : Nat, k ≤ 4 ∧ i = .int .i64 k ∧ Mid w.heap.size x k w wr) (fun i _ _ => 4 - (intOf i).toNat)
  case atStart => exact ⟨0, by omega, rfl, Mid.start w x⟩
  case round =>
    obtain ⟨k, hk, rfl, hmid⟩ := hrel
    by_cases hlt : k < 4
    · have hc4 := hmid.four
      have g0 := hc4.at k
      have g1 := hc4.at (k + 1)
      have g2 := hc4.at (k + 2)
      have g3 := hc4.at (k + 3)
      have hB := lt_of_block hmid.1
      have m0 : (k : Int) % 4 = (k : Int) := by omega
      rw [Nat.mod_eq_of_lt hlt] at g0
      obtain ⟨j2, hj2⟩ : ∃ j2, j2 = (k + 2) % 4 := ⟨_, rfl⟩
      obtain ⟨j3, hj3⟩ : ∃ j3, j3 = (k + 3) % 4 := ⟨_, rfl⟩
      have hb2 : (j2 : Int) < 4 := by omega
      have hb3 : (j3 : Int) < 4 := by omega
      have hm2 : ((k : Int) + 2).tmod 4 = (j2 : Int) := by rw [Int.tmod_eq_emod_of_nonneg (by omega)]; omega
      have hm3 : ((k : Int) + 3).tmod 4 = (j3 : Int) := by rw [Int.tmod_eq_emod_of_nonneg (by omega)]; omega
      rw [← hj2] at g2
      rw [← hj3] at g3
      have hw2 : IntKind.i64.wrap ((k : Int) + 2) = (k : Int) + 2 := wrap_small (by omega) (by omega)
      have hw3 : IntKind.i64.wrap ((k : Int) + 3) = (k : Int) + 3 := wrap_small (by omega) (by omega)
      have Hc := Lib.hid (rcol_at x k hlt)
      obtain ⟨y, hy⟩ : ∃ y, y = x.at k := ⟨_, rfl⟩
      obtain ⟨n, hn⟩ : ∃ n, n = x.at (k + 1) := ⟨_, rfl⟩
      obtain ⟨z, hz⟩ : ∃ z, z = x.at (k + 2) := ⟨_, rfl⟩
      obtain ⟨u, hu⟩ : ∃ u, u = x.at (k + 3) := ⟨_, rfl⟩
      rw [← hy] at g0
      rw [← hn] at g1
      rw [← hz] at g2
      rw [← hu] at g3
      obtain ⟨p1, hp1⟩ : ∃ p, p = twice y ^^^ n := ⟨_, rfl⟩
      obtain ⟨p2, hp2⟩ : ∃ p, p = p1 ^^^ twice n := ⟨_, rfl⟩
      obtain ⟨p3, hp3⟩ : ∃ p, p = p2 ^^^ z := ⟨_, rfl⟩
      obtain ⟨p4, hp4⟩ : ∃ p, p = p3 ^^^ u := ⟨_, rfl⟩
      have x1 := xor8 (twice y) n
      have x2 := xor8 p1 (twice n)
      have x3 := xor8 p2 z
      have x4 := xor8 p3 u
      rw [← hp1] at x1
      rw [← hp2] at x2
      rw [← hp3] at x3
      rw [← hp4] at x4
      have H4 := Lib.hid (show p4 = colAt (x.at k) (x.at (k + 1)) (sum4 x.a x.b x.c x.d) by rw [← Hc.out, hp4, hp3, hp2, hp1, hy, hn, hz, hu])
      clear hj2 hj3 hy hn hz hu hp1 hp2 hp3 hp4
      have Hm := Lib.hid hmid
      go_wp2
      refine region_inb_tail 23 (by kernel_rfl) (by kernel_rfl) ?_
      simp only [List.take_succ_cons, List.take_zero, List.drop_succ_cons, List.drop_zero]
      have inbNe := InB.some
      have inbW := @wrap_small
      have inbU := IntKind.wrap_u8'
      repeat (refine wpQuiet_step (fun K hK => ?_); go_simp; first | (refine hK _ ?_; clear hK K) | (apply Exists.intro; refine ⟨?_, hK _ ?_⟩; (· (intro w' hw'; first | (go_at_call 48; refine (rtwice_any _ _ rfl _).mono ?_; rintro e w1 ⟨rfl, rfl⟩; exact ⟨rfl, hw'⟩) | (have hcw := hw'.cell; go_simp; exact rfl))); clear hK K))
      refine wpQuiet_nil ?_
      intro wq hq
      clear inbNe inbW inbU
      have hmq := Hm.out.on hq.below
      obtain ⟨v, hv⟩ := outs_get x k hlt
      have hcq : wq.cell? ⟨w.heap.size + 1 + 1, k, none⟩ = some v := by rw [cell_of_row wq _ k _ _ _ hmq.2.2.1]; exact hv
      have hfq : wq.frozen? ⟨w.heap.size + 1 + 1, k, none⟩ = false := by rw [frozen_of_row wq _ k _ _ hmq.2.2.1]
      have Hq := Lib.hid (hmq.set hlt p4 H4.out)
      clear hmq hv g0 g1 g2 g3 hc4 x1 x2 x3 x4
      go_wp2
      go_roundw
      case rel => exact ⟨k + 1, by omega, by go_num, Hq.out⟩
      case measure => simp [intOf]; omega
    · obtain rfl : k = 4 := by omega
      have o0 : wr.cell? ⟨w.heap.size + 1 + 1, 0, none⟩ = some (e8 (mix x).a) := cell_of_row wr _ 0 _ _ _ hmid.2.2.1
      have o1 : wr.cell? ⟨w.heap.size + 1 + 1, 1, none⟩ = some (e8 (mix x).b) := cell_of_row wr _ 1 _ _ _ hmid.2.2.1
      have o2 : wr.cell? ⟨w.heap.size + 1 + 1, 2, none⟩ = some (e8 (mix x).c) := cell_of_row wr _ 2 _ _ _ hmid.2.2.1
      have o3 : wr.cell? ⟨w.heap.size + 1 + 1, 3, none⟩ = some (e8 (mix x).d) := cell_of_row wr _ 3 _ _ _ hmid.2.2.1
      have r0 : wr.cell? ⟨w.heap.size + 1, 0, none⟩ = some (.int .u8 0) := cell_of_row wr _ 0 _ _ _ hmid.2.1
      have r1 : wr.cell? ⟨w.heap.size + 1, 1, none⟩ = some (.int .u8 0) := cell_of_row wr _ 1 _ _ _ hmid.2.1
      have r2 : wr.cell? ⟨w.heap.size + 1, 2, none⟩ = some (.int .u8 0) := cell_of_row wr _ 2 _ _ _ hmid.2.1
      have r3 : wr.cell? ⟨w.heap.size + 1, 3, none⟩ = some (.int .u8 0) := cell_of_row wr _ 3 _ _ _ hmid.2.1
      have fz : ∀ j, wr.frozen? ⟨w.heap.size + 1, j, none⟩ = false := fun j => frozen_of_row wr _ j _ _ hmid.2.1
      have hbl := hmid.2.2.2
      clear hmid
      go_wp2
      refine bodyPost_ret (v := colV (mix x)) (by unfold colV; simp [results, Try.results36, go_sem, r0, r1, r2, r3]) rfl ⟨rfl, ?_⟩
      repeat refine Below.setCell ?_ (by simp) _
      exact hbl
theorem eqcol (x : Col) (w : World) : (Go.binOp .eql 51 (colV x) (colV x)).run Try.prog w = .ok (.bool true) w := by
  have := run_eql_bytes (P := Try.prog) w 51 5 4 Try.underlying51 Try.underlying5 (fun w => by kernel_rfl) [x.a, x.b, x.c, x.d] [x.a, x.b, x.c, x.d] rfl rfl
  rw [show ([x.a, x.b, x.c, x.d] == [x.a, x.b, x.c, x.d]) = true by simp] at this
  exact this
end Go.Proofs.Yteecbjpnnklbpaa.Gf
