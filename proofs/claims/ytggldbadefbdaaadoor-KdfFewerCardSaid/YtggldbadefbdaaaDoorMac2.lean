/- The walk of bytes.Repeat at one byte, 64 times. -/
import Derived.Test.YtggldbadefbdaaaDoorMac1
namespace Go.Proofs.YtggldbadefbdaaaDoor.Mac
open Go.RowKit
set_option linter.unusedVariables false
set_option maxRecDepth 100000
set_option maxHeartbeats 400000 in
theorem mul64_any (w : World) : Calls Tryd.prog 75 #[.int .u64 1, .int .u64 64] w fun e w' => e = .returned (.tuple #[.int .u64 0, .int .u64 64]) ∧ w = w' := by
  go_enter Tryd.func75, Tryd.ntmps75
  go_wp2
  go_ret2
  exact ⟨rfl, rfl⟩
/-- the first p cells hold c -/
def Fill (c : UInt8) (p : Nat) (xs : List Value) : Prop := 64 ≤ xs.length ∧ p ≤ 64 ∧ ∀ i, i < p → xs[i]? = some (e8 c)
theorem Fill.next {c : UInt8} {p q : Nat} {xs : List Value} (h : Fill c p xs) (hq : p + q ≤ 64) : Fill c (p + q) (splice xs p (List.replicate q (e8 c))) := by
  obtain ⟨h1, h2, h3⟩ := h
  refine ⟨by rw [splice_len]; exact h1, hq, fun i hi => ?_⟩
  rw [splice_get _ _ _ _ (by rw [List.length_replicate]; omega), List.length_replicate]
  by_cases hp : p ≤ i
  · rw [if_pos ⟨hp, hi⟩, List.getElem?_replicate, if_pos (by omega)]
  · rw [if_neg (by omega)]; exact h3 i (by omega)
theorem rep_one (q : Nat) (c : UInt8) : ∀ v ∈ List.replicate q (e8 c), v.oneCell' = true := fun v hv => by
  rw [(List.mem_replicate.1 hv).2]; rfl
set_option maxHeartbeats 800000 in
theorem repeat_any (b o cap : Nat) (c : UInt8) (w : World) (hc : w.cell? ⟨b, o, none⟩ = some (e8 c)) (hb : b < w.heap.size) :
    Calls Tryd.prog 74 #[.slice (some ⟨b, o, none⟩) 1 cap, .int .i64 64] w fun e w' => (∃ A c', e = .returned (.slice A 64 c') ∧ Rd w' w'.heap.size A ((List.replicate 64 c).map e8)) ∧ Below w.heap.size w w' := by
  obtain ⟨cs, hrun, hle, hmax⟩ := Lib.run_makeNoZero (P := Tryd.prog) w #[3] 24 5 Tryd.underlying24 64 (by omega)
  have hcall : (callFunc 76 #[.int .i64 64]).run Tryd.prog w = .ok (.value (.slice (some ⟨w.heap.size, 0, none⟩) 64 cs.size)) (w.drew.drew.alloc (.cells cs 5)) := by
    rw [run_callFunc_extern Tryd.func76 (by kernel_rfl) (by kernel_rfl) (by kernel_rfl) (e := Extern.BytealgMakeNoZero.makeNoZero #[3] #[24]) (by kernel_rfl)]
    have h := hrun
    rw [show ((64 : Nat) : Int) = 64 from rfl] at h
    rw [h]; rfl
  have hcs : (64 : Int) ≤ (cs.size : Int) := by omega
  obtain ⟨h, hh⟩ : ∃ h, h = w.heap.size := ⟨_, rfl⟩
  obtain ⟨W, hW⟩ : ∃ W, W = w.drew.drew.alloc (.cells cs 5) := ⟨_, rfl⟩
  have hB : Blk W h cs.toList := by
    have := Blk.new w.drew.drew cs.toList 5
    rw [hW, hh]; simpa using this
  have bW : Below w.heap.size w W := by rw [hW]; exact (((Below.refl _ _).drew).drew).alloc (Nat.le_refl _) _
  have hcW : W.cell? ⟨b, o, none⟩ = some (e8 c) := (bW.cell (p := ⟨b, o, none⟩) hb).trans hc
  rw [← hW, ← hh] at hcall
  have Hcl : cs.toList.length = cs.size := by simp
  have hhw : w.heap.size ≤ h := by omega
  have HCL := Lib.hid Hcl
  clear hW hrun hmax Hcl hh
  go_enter Tryd.func74, Tryd.ntmps74
  go_wp2_with (first
    | ((go_at_call 75; refine (mul64_any _).mono ?_; rintro e w' ⟨rfl, rfl⟩))
    | ((with_reducible show wpList _ _ _ (⟨some 60, _, _, _, _, _⟩ :: _) _ _); refine wpList_copyN rfl _ _ _ _ rfl rfl rfl [e8 c] rfl Tryd.underlying24 size8 hB (by rw [HCL.out]; simp; omega) ?_ (one_int _ _) ?_; (· (intro j v hv; match j, hv with | 0, hv => (cases hv; rw [Addr.add_lit]; exact hcW) | j + 1, hv => simp at hv)); intro w1 hb1 hg1)
    | go_in)
  have hF : Fill c 1 (splice cs.toList 0 [e8 c]) := by
    have h0 : Fill c 0 cs.toList := ⟨by rw [HCL.out]; omega, by omega, fun i hi => absurd hi (by omega)⟩
    exact h0.next (q := 1) (by omega)
  have bw1 := below_row bW hg1 hhw bW.size
  go_loopw [10] (fun i wr => ∃ (p : Nat) (xs : List Value), 1 ≤ p ∧ i = .int .i64 p ∧ Blk wr h xs ∧ Fill c p xs ∧ Below w.heap.size w wr) (fun i _ => 64 - (intOf i).toNat)
  case atStart => exact ⟨1, _, by omega, rfl, hb1, hF, bw1⟩
  case round =>
    obtain ⟨p, xs, hp, rfl, hbx, hfx, bel⟩ := hrel
    clear hb1 hF bw1 hB hg1
    have h64 := hfx.2.1
    by_cases hlt : p < 64
    · have hne : ¬ 64 = p := by omega
      have hBx := hbx.lt
      have i1 : (p : Int) ≤ 64 := by omega
      have i2 : (p : Int) < 64 := by omega
      have hbs := bel.size
      go_wp2
      refine region_three [0] [1, 2, 3, 4, 5, 6] 7 (by kernel_rfl) (by kernel_rfl) (fun c d v a w h => by cases d <;> exact h) ?_
      simp only [preAct, preOne, opsAt, List.foldl_cons, List.foldl_nil, List.getElem?_cons_zero, List.getElem?_cons_succ, List.getD_cons_zero, List.getD_cons_succ, List.drop_succ_cons, List.drop_zero]
      have inbNe := InB.some
      have inbW := @wrap_small
      have inbU := IntKind.wrap_u8'
      repeat (refine wpQuiet_step (fun K hK => ?_); go_simp; first | (refine hK _ ?_; clear hK K) | (apply Exists.intro; refine ⟨?_, hK _ ?_⟩; (· (intro w' hw'; first | fail | (have hcw := hw'.cell; go_simp; exact rfl))); clear hK K))
      refine wpQuiet_nil ?_
      intro wq hq
      clear inbNe inbW inbU
      have hbq := hbx.on hq.below
      have belq := bel.trans (hq.below.mono hbs)
      clear hq
      obtain ⟨q, hqd⟩ : ∃ q, q = Nat.min p (64 - p) := ⟨_, rfl⟩
      have hq1 : 1 ≤ q := by have : q = min p (64 - p) := hqd; omega
      have hq2 : p + q ≤ 64 := by have : q = min p (64 - p) := hqd; omega
      have hqp : q ≤ p := by have : q = min p (64 - p) := hqd; omega
      have hxl := hfx.1
      refine wpList_copyN rfl _ _ _ _ rfl rfl rfl (List.replicate q (e8 c)) (by rw [List.length_replicate]; exact hqd) Tryd.underlying24 size8 hbq (by rw [List.length_replicate]; omega) ?_ (rep_one q c) ?_
      · intro j v hv
        obtain ⟨hj, rfl⟩ := List.getElem?_eq_some_iff.1 hv
        rw [List.length_replicate] at hj
        rw [Addr.add_lit, Nat.zero_add, hbq.cell (show j < xs.length by omega), List.getElem_replicate]
        have := hfx.2.2 j (by omega)
        rw [List.getElem?_eq_getElem (by omega)] at this
        exact this
      intro w5 hb5 hg5
      rw [List.length_replicate]
      have hF5 := hfx.next hq2
      have bel5 := below_row belq hg5 hhw belq.size
      clear hqd hbq hg5 belq
      go_wp2
      go_roundw
      case rel => exact ⟨p + q, _, by omega, by go_num, hb5, hF5, bel5⟩
      case measure => simp [intOf]; omega
    · obtain rfl : p = 64 := by omega
      have hrd : Rd wr wr.heap.size (some ⟨h, 0, none⟩) ((List.replicate 64 c).map e8) := fun _ => by
        refine ⟨h, 0, rfl, hbx.lt, fun i hi => ?_⟩
        have hi' : i < 64 := by simpa using hi
        have := hfx.2.2 i hi'
        have hl := hfx.1
        rw [Nat.zero_add, hbx.cell (show i < xs.length by omega)]
        rw [List.getElem?_eq_getElem (by omega)] at this
        rw [this, List.getElem_map, List.getElem_replicate]
      clear hfx
      go_wp2
      go_ret
      exact ⟨⟨_, _, rfl, hrd⟩, bel⟩
end Go.Proofs.YtggldbadefbdaaaDoor.Mac
