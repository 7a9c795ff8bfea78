/- The walk of sha.Words: the words of a block. -/
import Derived.Test.YtggldbadefbdaaaDoorSha
namespace Go.Proofs.YtggldbadefbdaaaDoor.Sha
open Go.RowKit
set_option linter.unusedVariables false
set_option maxRecDepth 100000
attribute [local go_sem] c32_xor c32_and c32_or c32_add c32_add'

def vw (l : List UInt32) : List Value := l.map e32
theorem vw_len (l : List UInt32) : (vw l).length = l.length := by simp [vw]
theorem vw_one (l : List UInt32) : ∀ v ∈ vw l, v.oneCell' = true := by
  intro u hu
  obtain ⟨x, _, rfl⟩ := List.mem_map.1 hu
  rfl
theorem vw_set (l : List UInt32) (k : Nat) (x : UInt32) : (vw l).set k (e32 x) = vw (l.set k x) := by simp [vw, List.map_set]
/-- a word of a block of words -/
theorem Blk.word {w : World} {g : Nat} {l : List UInt32} (h : Blk w g (vw l)) {k : Nat} (hk : k < l.length) : w.cell? ⟨g, k, none⟩ = some (e32 (l.getD k 0)) := by
  rw [h.cell (by rw [vw_len]; exact hk)]
  simp [vw, List.getD, hk]
theorem zero28 (w : World) : (zeroValue 28).run Tryd.prog w = .ok (arrV (vw (List.replicate 64 0))) w := by kernel_rfl
theorem size28 : (Tryd.prog.info? 28).map (·.size) = some 64 := by kernel_rfl
theorem size23 : (Tryd.prog.info? 23).map (·.size) = some 8 := by kernel_rfl
theorem zero23 (w : World) : (zeroValue 23).run Tryd.prog w = .ok (arrV (vw (List.replicate 8 0))) w := by kernel_rfl
theorem words_no {l : List UInt8} (h : l.length ≠ 64) : words l = List.replicate 64 0 := if_neg h
def W64 : List Value := vw (List.replicate 64 0)
theorem W64_len : W64.length = 64 := rfl

set_option maxHeartbeats 400000 in
theorem words_not (A : Option Addr) (n c : Nat) (w : World) (hn : n ≠ 64) (hm : n ≤ maxLen) :
    Calls Tryd.prog 17 #[.slice A n c] w fun e w' => e = .returned (arrV W64) ∧ Below w.heap.size w w' := by
  have hne : ((n : Int) != 64) = true := bne_yes (by omega)
  have hz : ∀ w, (zeroValue 28).run Tryd.prog w = .ok (arrV W64) w := zero28
  have Hz := Lib.hid hz
  clear hz
  unfold maxLen at hm
  go_enter Tryd.func17, Tryd.ntmps17
  go_wp2_with (first
    | (refine wpList_allocN rfl _ rfl W64 Hz.out ?_; intro w1 hb1 bw1 hs1)
    | (refine wpList_loadA rfl _ _ rfl rfl hb1 Tryd.underlying28 size28 ?_)
    | (refine wpList_storeN rfl _ _ _ rfl rfl (ys := W64) rfl hb1 rfl (vw_one _) size28 ?_; intro w2 hb2 hg2))
  exact bodyPost_ret (v := arrV W64) (results_arr Tryd.results17 _ hb2 Tryd.underlying28 size28 rfl) rfl ⟨rfl, below_row bw1 hg2 (Nat.le_refl _) bw1.size⟩
set_option maxHeartbeats 400000 in
theorem words_yes (b off : Nat) (l : List UInt8) (c : Nat) (w : World) (hn : l.length = 64) (hc : 64 ≤ c) (hcm : c ≤ maxLen) (hr : Rd w w.heap.size (some ⟨b, off, none⟩) (l.map e8)) :
    Calls Tryd.prog 17 #[.slice (some ⟨b, off, none⟩) 64 c] w fun e w' => e = .returned (arrV (vw (wl l 64))) ∧ Below w.heap.size w w' := by
  have hz : ∀ w, (zeroValue 28).run Tryd.prog w = .ok (arrV (vw (wpart l 0))) w := fun w => by rw [wpart_zero]; exact zero28 w
  have Hz := Lib.hid hz
  have Hn := Lib.hid hn
  clear hz hn
  unfold maxLen at hcm
  have hc' : (64 : Int) ≤ (c : Int) := by omega
  go_enter Tryd.func17, Tryd.ntmps17
  go_wp2_with (first
    | (refine wpList_allocN rfl _ rfl (vw (wpart l 0)) Hz.out ?_; intro w1 hb1 bw1 hs1))
  go_loopw [12] (fun i wr => ∃ k : Nat, k ≤ 64 ∧ i = .int .i64 k ∧ Blk wr w.heap.size (vw (wpart l k)) ∧ Below w.heap.size w wr) (fun i _ => 64 - (intOf i).toNat)
  case atStart => exact ⟨0, by omega, rfl, hb1, bw1⟩
  case round =>
    obtain ⟨k, hk, rfl, hb, bw⟩ := hrel
    by_cases hlt : k < 64
    · by_cases h16 : k < 16
      · have hn := Hn.out
        have h4 : ((l.drop (4 * k)).take 4).length = 4 := by rw [List.length_take, List.length_drop]; omega
        have hr4 : Rd wr wr.heap.size (some ⟨b, off + 4 * k, none⟩) (((l.drop (4 * k)).take 4).map e8) := by
          rw [List.map_take, List.map_drop]
          have := (hr.on bw).drop (4 * k)
          simp only [Option.map_some, Addr.add_lit] at this
          exact this.take 4
        have Hw := Lib.hid (wpart_set l k hlt)
        have Hx := Lib.hid (wnext_lo l k h16)
        have hcell := Blk.word hb (k := k) (by rw [wpart_len l k (by omega)]; exact hlt)
        have hfr := hb.free k
        clear hn
        go_wp2_with fail
        refine (Num.get_any _ ((l.drop (4 * k)).take 4) _ _ _ _ (by rw [h4]; omega) hr4 (by omega) (by omega)).mono ?_
        rintro e w2 ⟨rfl, rfl⟩
        clear hr4 h4
        have hq : IntKind.u32.wrap (Num.getN ((l.drop (4 * k)).take 4) : Int) = c32 (be32 l k) := by
          unfold c32 be32; rw [IntKind.wrap_u32, UInt32.toNat_ofNat']; omega
        obtain ⟨q, hq2⟩ : ∃ q, q = Num.getN ((l.drop (4 * k)).take 4) := ⟨_, rfl⟩
        rw [← hq2] at hq ⊢
        obtain ⟨x, hx⟩ : ∃ x, x = be32 l k := ⟨_, rfl⟩
        rw [← hx] at hq
        have Hs := Lib.hid (show (wpart l k).set k x = wpart l (k + 1) by rw [hx, ← Hx.out, Hw.out])
        clear hq2 hx
        go_wp2
        go_roundw
        case rel => exact ⟨k + 1, by omega, by go_num, by have := hb.set (k := k) (e32 x); rw [vw_set, Hs.out] at this; exact this, bw.setCell (Nat.le_refl _) _⟩
        case measure => simp [intOf]; omega
      · have hl := wpart_len l k (by omega)
        have g2 := Blk.word hb (k := k - 2) (by omega)
        have g7 := Blk.word hb (k := k - 7) (by omega)
        have g15 := Blk.word hb (k := k - 15) (by omega)
        have g16 := Blk.word hb (k := k - 16) (by omega)
        have hcell := Blk.word hb (k := k) (by omega)
        have hB := hb.lt
        have hfr := hb.free k
        have Hs := Lib.hid (show (wpart l k).set k (high ((wpart l k).getD (k - 2) 0) + (wpart l k).getD (k - 7) 0 + low ((wpart l k).getD (k - 15) 0) + (wpart l k).getD (k - 16) 0) = wpart l (k + 1) by rw [← wnext_hi l k (by omega)]; exact wpart_set l k hlt)
        obtain ⟨x2, h2⟩ : ∃ x, x = (wpart l k).getD (k - 2) 0 := ⟨_, rfl⟩
        obtain ⟨x7, h7⟩ : ∃ x, x = (wpart l k).getD (k - 7) 0 := ⟨_, rfl⟩
        obtain ⟨x15, h15⟩ : ∃ x, x = (wpart l k).getD (k - 15) 0 := ⟨_, rfl⟩
        obtain ⟨x16, h16'⟩ : ∃ x, x = (wpart l k).getD (k - 16) 0 := ⟨_, rfl⟩
        rw [← h2, ← h7, ← h15, ← h16'] at Hs
        rw [← h2] at g2
        rw [← h7] at g7
        rw [← h15] at g15
        rw [← h16'] at g16
        clear h2 h7 h15 h16' hl
        have b2 : (2 : Int) ≤ (k : Int) := by omega
        have c2 : (k : Int) - 2 < 64 := by omega
        have d2 : 0 ≤ (k : Int) - 2 := by omega
        have b7 : (7 : Int) ≤ (k : Int) := by omega
        have c7 : (k : Int) - 7 < 64 := by omega
        have d7 : 0 ≤ (k : Int) - 7 := by omega
        have b15 : (15 : Int) ≤ (k : Int) := by omega
        have c15 : (k : Int) - 15 < 64 := by omega
        have d15 : 0 ≤ (k : Int) - 15 := by omega
        have b16 : (16 : Int) ≤ (k : Int) := by omega
        have c16 : (k : Int) - 16 < 64 := by omega
        have d16 : 0 ≤ (k : Int) - 16 := by omega
        have q2 : IntKind.i64.wrap ((k : Int) - 2) = (k : Int) - 2 := wrap_small (by omega) (by omega)
        have q7 : IntKind.i64.wrap ((k : Int) - 7) = (k : Int) - 7 := wrap_small (by omega) (by omega)
        have q15 : IntKind.i64.wrap ((k : Int) - 15) = (k : Int) - 15 := wrap_small (by omega) (by omega)
        have q16 : IntKind.i64.wrap ((k : Int) - 16) = (k : Int) - 16 := wrap_small (by omega) (by omega)
        have t2 : ((k : Int) - 2).toNat = k - 2 := by omega
        have t7 : ((k : Int) - 7).toNat = k - 7 := by omega
        have t15 : ((k : Int) - 15).toNat = k - 15 := by omega
        have t16 : ((k : Int) - 16).toNat = k - 16 := by omega
        go_wp2
        refine region_inb_tail 25 (by kernel_rfl) (by kernel_rfl) ?_
        simp only [List.take_succ_cons, List.take_zero, List.drop_succ_cons, List.drop_zero]
        have inbNe := InB.some
        have inbW := @wrap_small
        have inbU := IntKind.wrap_u8'
        repeat (refine wpQuiet_step (fun K hK => ?_); go_simp; first | (refine hK _ ?_; clear hK K) | (apply Exists.intro; refine ⟨?_, hK _ ?_⟩; (· (intro w' hw'; first | (go_at_call 52; refine (high_any _ _).mono ?_; rintro e w1 ⟨rfl, rfl⟩; exact ⟨rfl, hw'⟩) | (go_at_call 50; refine (low_any _ _).mono ?_; rintro e w1 ⟨rfl, rfl⟩; exact ⟨rfl, hw'⟩) | (have hcw := hw'.cell; go_simp; exact rfl))); clear hK K))
        refine wpQuiet_nil ?_
        intro wq hq
        clear inbNe inbW inbU
        have hbq := hb.on hq.below
        have hcq : wq.cell? ⟨w.heap.size, k, none⟩ = some (e32 ((wpart l k).getD k 0)) := (hq.cell _ _ hB).trans hcell
        have hfq := hbq.free k
        have bwq := bw.trans (hq.below.mono bw.size)
        go_wp2
        go_roundw
        case rel => exact ⟨k + 1, by omega, by go_num, by have := hbq.set (k := k) (e32 (high x2 + x7 + low x15 + x16)); rw [vw_set, Hs.out] at this; exact this, bwq.setCell (Nat.le_refl _) _⟩
        case measure => simp [intOf]; omega
    · obtain rfl : k = 64 := by omega
      rw [wpart_all] at hb
      have hl := wl_len l 64
      go_wp2_with (first
        | (refine wpList_loadA rfl _ _ rfl rfl hb Tryd.underlying28 (by rw [vw_len, hl]; exact size28) ?_)
        | (refine wpList_storeN rfl _ _ _ rfl rfl (ys := vw (wl l 64)) rfl hb rfl (vw_one _) (by rw [vw_len, hl]; exact size28) ?_; intro w2 hb2 hg2))
      exact bodyPost_ret (v := arrV (vw (wl l 64))) (results_arr Tryd.results17 _ hb2 Tryd.underlying28 (by rw [vw_len, hl]; exact size28) rfl) rfl ⟨rfl, below_row bw hg2 (Nat.le_refl _) bw.size⟩
theorem words_any (A : Option Addr) (l : List UInt8) (n c : Nat) (w : World) (hn : n = l.length) (hc : n ≤ c) (hcm : c ≤ maxLen) (hr : Rd w w.heap.size A (l.map e8)) :
    Calls Tryd.prog 17 #[.slice A n c] w fun e w' => e = .returned (arrV (vw (words l))) ∧ Below w.heap.size w w' := by
  subst hn
  by_cases h : l.length = 64
  · obtain ⟨b, off, rfl, _, _⟩ := hr (by intro e; have := congrArg List.length e; simp at this; subst this; simp at h)
    rw [words, if_pos h, h]
    exact words_yes b off l c w h (by omega) hcm hr
  · rw [words_no h]
    exact words_not A _ c w h (by omega)
end Go.Proofs.YtggldbadefbdaaaDoor.Sha
