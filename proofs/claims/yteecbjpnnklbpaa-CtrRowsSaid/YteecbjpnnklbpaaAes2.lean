/- The walks of aes.Shift, the reference's Add and Shift. -/
import Derived.Test.YteecbjpnnklbpaaAes1
namespace Go.Proofs.Yteecbjpnnklbpaa.Aes
open Go.RowKit
open Go.Proofs.Yteecbjpnnklbpaa.Gf
set_option linter.unusedVariables false
set_option maxRecDepth 100000
set_option maxHeartbeats 400000 in
theorem radd_any (s t : List UInt8) (hs : s.length = 16) (ht : t.length = 16) (w : World) : Calls Try.prog 16 #[stV s, stV t] w fun e w' => e = .returned (stV (add s t)) ∧ Below w.heap.size w w' := by
  have Hs := Lib.hid hs
  have Ht := Lib.hid ht
  have hl2 := add_len s t
  have hsz2 := sizeL hl2
  have Hl2 := Lib.hid hl2
  clear hs hl2 ht
  unfold stV
  go_enter Try.func16, Try.ntmps16
  go_wp2_with (first
    | ((with_reducible show wpList _ _ _ (⟨some 2, _, _, _, _, _⟩ :: _) _ _); refine wpList_boxN rfl _ _ rfl (vb s) rfl ?_; intro w1 hb1 bw1 hs1)
    | ((with_reducible show wpList _ _ _ (⟨some 3, _, _, _, _, _⟩ :: _) _ _); refine wpList_boxN rfl _ _ rfl (vb t) rfl ?_; intro w2 hb2 bw2 hs2; have hb12 := hb1.on bw2; have bt2 := bt bw1 bw2)
    | (refine wpList_allocN rfl _ rfl (vb zero16) zeroV16 ?_; intro w3 hb3 bw3 hs3; have hb13 := hb12.on bw3; have hb23 := hb2.on bw3; have bt3 := bt bt2 bw3)
    | fail)
  have l01 : w.heap.size < w1.heap.size := hs1
  have l12 : w1.heap.size < w2.heap.size := hs2
  obtain ⟨B1, hB1⟩ : ∃ B, B = w1.heap.size := ⟨_, rfl⟩
  obtain ⟨B2, hB2⟩ : ∃ B, B = w2.heap.size := ⟨_, rfl⟩
  rw [← hB1] at hb23 l01 l12 ⊢
  rw [← hB2] at hb3 l12 ⊢
  clear hB1 hB2 hb1 hb2 hb12 bw1 bw2 bw3 hs1 hs2 hs3 bt2
  go_loopw [5] (fun i wr => ∃ k : Nat, k ≤ 16 ∧ i = .int .i64 k ∧ Blk wr w.heap.size (vb (part (add s t) s k)) ∧ Blk wr B1 (vb t) ∧ Blk wr B2 (vb zero16) ∧ Below w.heap.size w wr) (fun i _ => 16 - (intOf i).toNat)
  case atStart => exact ⟨0, by omega, rfl, by rw [part_zero]; exact hb13, hb23, hb3, bt3⟩
  case round =>
    obtain ⟨k, hk, rfl, d0, d1, d2, bt⟩ := hrel
    by_cases hlt : k < 16
    · have hset := Lib.hid (part_set (add s t) s k 16 Hl2.out Hs.out hlt)
      have hc := Blk.byte d0 (k := k) (by rw [part_len _ _ k 16 Hl2.out Hs.out (by omega)]; exact hlt)
      rw [part_old _ _ k k 16 Hl2.out Hs.out (Nat.le_refl _) hlt] at hc
      have hct := Blk.byte d1 (k := k) (by rw [Ht.out]; exact hlt)
      have hf := d0.free k
      have hsa := Lib.hid (of16_at (fun i => s.getD i 0 ^^^ t.getD i 0) k hlt)
      obtain ⟨x, hx⟩ : ∃ x, x = s.getD k 0 := ⟨_, rfl⟩
      obtain ⟨y, hy⟩ : ∃ y, y = t.getD k 0 := ⟨_, rfl⟩
      rw [← hx] at hc hsa
      rw [← hy] at hct hsa
      have hB := d0.lt
      have hBB := d1.lt
      clear hx hy
      go_wp2
      go_region
      go_wp2
      go_roundw
      case rel =>
        have hbs := d0.set (k := k) (e8 (x ^^^ y))
        have hst := hset.out
        rw [show (add s t).getD k 0 = x ^^^ y from hsa.out] at hst
        rw [vb_set, hst] at hbs
        rw [xor8]
        exact ⟨k + 1, by omega, by go_num, hbs, d1.other _ (by omega), d2.other _ (by omega), (bset bt (Nat.le_refl _) _).drew⟩
      case measure => simp [intOf]; omega
    · obtain rfl : k = 16 := by omega
      rw [part_all _ _ 16 Hl2.out Hs.out] at d0
      go_wp2_with (first
        | (refine wpList_loadA rfl _ _ rfl rfl d0 Try.underlying22 hsz2 ?_)
        | (refine wpList_storeN rfl _ _ _ rfl rfl (ys := vb (add s t)) rfl d2 (by rw [vb_len, vb_len, Hl2.out]; rfl) (vb_one _) hsz2 ?_; intro w9 hb9 hg9))
      exact bodyPost_ret (v := arrV (vb (add s t))) (results_arr Try.results16 _ hb9 Try.underlying22 hsz2 rfl) rfl ⟨rfl, below_row bt hg9 (by omega) bt.size⟩
theorem tmod_lit (k m : Nat) (hm : 0 < m) : ((k : Int)).tmod (m : Int) = ((k % m : Nat) : Int) := by
  rw [Int.tmod_eq_emod_of_nonneg (by omega)]; omega
set_option maxHeartbeats 400000 in
theorem shift_any (s : List UInt8) (hs : s.length = 16) (w : World) : Calls Try.prog 11 #[stV s] w fun e w' => e = .returned (stV (shift s)) ∧ Below w.heap.size w w' := by
  have Hs := Lib.hid hs
  have hl2 := shift_len s
  have hsz2 := sizeL hl2
  have Hl2 := Lib.hid hl2
  have hlz : zero16.length = 16 := rfl
  have Hz := Lib.hid hlz
  clear hs hl2 hlz
  unfold stV
  go_enter Try.func11, Try.ntmps11
  go_wp2_with (first
    | (refine wpList_boxN rfl _ _ rfl (vb s) rfl ?_; intro w1 hb1 bw1 hs1)
    | (refine wpList_allocN rfl _ rfl (vb zero16) zeroV16 ?_; intro w2 hb2 bw2 hs2; have hb12 := hb1.on bw2; have bt2 := bt bw1 bw2)
    | fail)
  have l01 : w.heap.size < w1.heap.size := hs1
  obtain ⟨B1, hB1⟩ : ∃ B, B = w1.heap.size := ⟨_, rfl⟩
  rw [← hB1] at hb2 l01 ⊢
  clear hB1 hb1 bw1 bw2 hs1 hs2
  go_loopw [4] (fun i wr => ∃ k : Nat, k ≤ 16 ∧ i = .int .i64 k ∧ Blk wr w.heap.size (vb s) ∧ Blk wr B1 (vb (part (shift s) zero16 k)) ∧ Below w.heap.size w wr) (fun i _ => 16 - (intOf i).toNat)
  case atStart => exact ⟨0, by omega, rfl, hb12, by rw [part_zero]; exact hb2, bt2⟩
  case round =>
    obtain ⟨k, hk, rfl, d0, d1, bt⟩ := hrel
    by_cases hlt : k < 16
    · have hset := Lib.hid (part_set (shift s) zero16 k 16 Hl2.out Hz.out hlt)
      obtain ⟨m, hm⟩ : ∃ m, m = (k + 4 * (k % 4)) % 16 := ⟨_, rfl⟩
      obtain ⟨r, hr⟩ : ∃ r, r = k % 4 := ⟨_, rfl⟩
      have hmlt : m < 16 := by omega
      have h1 : (k : Int).tmod 4 = (r : Int) := by rw [Int.tmod_eq_emod_of_nonneg (by omega)]; omega
      have h2 : ((k : Int) + 4 * (r : Int)).tmod 16 = (m : Int) := by rw [Int.tmod_eq_emod_of_nonneg (by omega)]; omega
      have hsa := Lib.hid (of16_at (fun i => s.getD ((i + 4 * (i % 4)) % 16) 0) k hlt)
      have hrb : r < 4 := by omega
      have Hm := Lib.hid hm
      clear hm hr
      have hc := Blk.byte d0 (k := m) (by rw [Hs.out]; exact hmlt)
      have hct := Blk.byte d1 (k := k) (by rw [part_len _ _ k 16 Hl2.out Hz.out (by omega)]; exact hlt)
      have hf := d1.free k
      obtain ⟨x, hx⟩ : ∃ x, x = s.getD m 0 := ⟨_, rfl⟩
      have hsx : (shift s).getD k 0 = x := by rw [hx, Hm.out]; exact hsa.out
      have Hsx := Lib.hid hsx
      rw [← hx] at hc
      have hB := d0.lt
      have hBB := d1.lt
      clear hx hsx
      go_wp2
      go_roundw
      case rel =>
        have hbs := d1.set (k := k) (e8 x)
        have hst := hset.out
        rw [Hsx.out] at hst
        rw [vb_set, hst] at hbs
        exact ⟨k + 1, by omega, by go_num, d0.other _ (by omega), hbs, bt.setCell (by show w.heap.size ≤ B1; omega) _⟩
      case measure => simp [intOf]; omega
    · obtain rfl : k = 16 := by omega
      rw [part_all _ _ 16 Hl2.out Hz.out] at d1
      go_wp2_with (first
        | (refine wpList_loadA rfl _ _ rfl rfl d1 Try.underlying22 hsz2 ?_)
        | (refine wpList_storeN rfl _ _ _ rfl rfl (ys := vb (shift s)) rfl d1 rfl (vb_one _) hsz2 ?_; intro w9 hb9 hg9))
      exact bodyPost_ret (v := arrV (vb (shift s))) (results_arr Try.results11 _ hb9 Try.underlying22 hsz2 rfl) rfl ⟨rfl, below_row bt hg9 (by omega) bt.size⟩
end Go.Proofs.Yteecbjpnnklbpaa.Aes
