/- The walks of the reference's Shift and Mix. -/
import Derived.Test.YteecbjpnnklbpaaAes2
namespace Go.Proofs.Yteecbjpnnklbpaa.Aes
open Go.RowKit
open Go.Proofs.Yteecbjpnnklbpaa.Gf
set_option linter.unusedVariables false
set_option maxRecDepth 100000
set_option maxHeartbeats 800000 in
theorem rshift_any (s : List UInt8) (hs : s.length = 16) (w : World) : Calls Try.prog 12 #[stV s] w fun e w' => e = .returned (stV (shift s)) ∧ Below w.heap.size w w' := by
  have Hs := Lib.hid hs
  have hl2 := shift_len s
  have hsz2 := sizeL hl2
  have Hl2 := Lib.hid hl2
  have hlz : zero16.length = 16 := rfl
  have Hz := Lib.hid hlz
  clear hs hl2 hlz
  unfold stV
  go_enter Try.func12, Try.ntmps12
  go_wp2_with (first
    | (refine wpList_boxN rfl _ _ rfl (vb s) rfl ?_; intro w1 hb1 bw1 hs1)
    | ((with_reducible show wpList _ _ _ (⟨some 2, _, _, _, _, _⟩ :: _) _ _); refine wpList_allocN rfl _ rfl (vb zero16) zeroV16 ?_; intro w2 hb2 bw2 hs2; have hb12 := hb1.on bw2; have bt2 := bt bw1 bw2)
    | ((with_reducible show wpList _ _ _ (⟨some 3, _, _, _, _, _⟩ :: _) _ _); refine wpList_allocN rfl _ rfl (vb zero16) zeroV16 ?_; intro w3 hb3 bw3 hs3; have hb13 := hb12.on bw3; have hb23 := hb2.on bw3; have bt3 := bt bt2 bw3)
    | fail)
  have l01 : w.heap.size < w1.heap.size := hs1
  have l12 : w1.heap.size < w2.heap.size := hs2
  obtain ⟨B1, hB1⟩ : ∃ B, B = w1.heap.size := ⟨_, rfl⟩
  obtain ⟨B2, hB2⟩ : ∃ B, B = w2.heap.size := ⟨_, rfl⟩
  rw [← hB1] at hb23 l01 l12 ⊢
  rw [← hB2] at hb3 l12 ⊢
  clear hB1 hB2 hb1 hb2 hb12 bw1 bw2 bw3 hs1 hs2 hs3 bt2
  go_loopw [4] (fun i wr => ∃ c : Nat, c ≤ 4 ∧ i = .int .i64 c ∧ Blk wr w.heap.size (vb s) ∧ Blk wr B1 (vb zero16) ∧ Blk wr B2 (vb (part (shift s) zero16 (4 * c))) ∧ Below w.heap.size w wr) (fun i _ => 4 - (intOf i).toNat)
  case atStart => exact ⟨0, by omega, rfl, hb13, hb23, by rw [Nat.mul_zero, part_zero]; exact hb3, bt3⟩
  case round =>
    obtain ⟨c, hc, rfl, d0, d1, d2, bt⟩ := hrel
    clear hb13 hb23 hb3 bt3
    by_cases hlt : c < 4
    · go_wp2
      go_loopw [5] (fun i wx => ∃ r : Nat, r ≤ 4 ∧ i = .int .i64 r ∧ Blk wx w.heap.size (vb s) ∧ Blk wx B1 (vb zero16) ∧ Blk wx B2 (vb (part (shift s) zero16 (4 * c + r))) ∧ Below w.heap.size w wx) (fun i _ => 4 - (intOf i).toNat)
      case atStart => exact ⟨0, by omega, rfl, d0, d1, by rw [Nat.add_zero]; exact d2, bt⟩
      case round =>
        obtain ⟨r, hr, rfl, e0, e1, e2, bx⟩ := hrel
        clear d0 d1 d2 bt
        by_cases hlr : r < 4
        · have hset := Lib.hid (part_set (shift s) zero16 (4 * c + r) 16 Hl2.out Hz.out (by omega))
          obtain ⟨q, hq⟩ : ∃ q, q = (c + r) % 4 := ⟨_, rfl⟩
          have hqb : q < 4 := by omega
          have h1 : ((c : Int) + (r : Int)).tmod 4 = (q : Int) := by rw [Int.tmod_eq_emod_of_nonneg (by omega)]; omega
          have hsa := of16_at (fun i => s.getD ((i + 4 * (i % 4)) % 16) 0) (4 * c + r) (by omega)
          rw [show (4 * c + r + 4 * ((4 * c + r) % 4)) % 16 = 4 * q + r by omega] at hsa
          have Hsa := Lib.hid (show (shift s).getD (4 * c + r) 0 = s.getD (4 * q + r) 0 from hsa)
          clear hsa hq
          obtain ⟨m, hm⟩ : ∃ m, m = 4 * q + r := ⟨_, rfl⟩
          obtain ⟨n, hn⟩ : ∃ n, n = 4 * c + r := ⟨_, rfl⟩
          have hmI : 4 * (q : Int) + (r : Int) = (m : Int) := by omega
          have hnI : 4 * (c : Int) + (r : Int) = (n : Int) := by omega
          have hmlt : m < 16 := by omega
          have hnlt : n < 16 := by omega
          rw [← hm] at Hsa
          rw [← hn] at Hsa hset e2
          have Hn := Lib.hid hn
          clear hm hn
          have hcc := Blk.byte e0 (k := m) (by rw [Hs.out]; exact hmlt)
          have hct := Blk.byte e2 (k := n) (by rw [part_len _ _ n 16 Hl2.out Hz.out (by omega)]; exact hnlt)
          have hf := e2.free n
          obtain ⟨x, hx⟩ : ∃ x, x = s.getD m 0 := ⟨_, rfl⟩
          rw [← hx] at hcc Hsa
          have hB := e0.lt
          have hBB := e2.lt
          clear hx
          go_wp2
          try go_region
          try go_wp2
          go_roundw
          case rel =>
            have hbs := e2.set (k := n) (e8 x)
            have hst := hset.out
            rw [Hsa.out] at hst
            rw [vb_set, hst] at hbs
            first
              | exact ⟨r + 1, by omega, by go_num, e0.other _ (by omega), e1.other _ (by omega), (by rw [← Nat.add_assoc, ← Hn.out]; exact hbs), bx.setCell (by show w.heap.size ≤ B2; omega) _⟩
              | (repeat apply Exists.intro
                 exact ⟨⟨r + 1, by omega, by go_num, e0.other _ (by omega), e1.other _ (by omega), (by rw [← Nat.add_assoc, ← Hn.out]; exact hbs), bx.setCell (by show w.heap.size ≤ B2; omega) _⟩, rfl⟩)
          case measure => simp [intOf]; omega
        · obtain rfl : r = 4 := by omega
          go_wp2
          go_roundw
          case rel =>
            first
              | exact ⟨c + 1, by omega, by go_num, e0, e1, e2, bx⟩
              | (repeat apply Exists.intro
                 exact ⟨⟨c + 1, by omega, by go_num, e0, e1, e2, bx⟩, rfl⟩)
          case measure => simp [intOf]; omega
    · obtain rfl : c = 4 := by omega
      rw [part_all _ _ 16 Hl2.out Hz.out] at d2
      go_wp2_with (first
        | (refine wpList_loadA rfl _ _ rfl rfl d2 Try.underlying22 hsz2 ?_)
        | (refine wpList_storeN rfl _ _ _ rfl rfl (ys := vb (shift s)) rfl d1 (by rw [vb_len, vb_len, Hl2.out]; rfl) (vb_one _) hsz2 ?_; intro w9 hb9 hg9))
      exact bodyPost_ret (v := arrV (vb (shift s))) (results_arr Try.results12 _ hb9 Try.underlying22 hsz2 rfl) rfl ⟨rfl, below_row bt hg9 (by omega) bt.size⟩
end Go.Proofs.Yteecbjpnnklbpaa.Aes
