/- The walks of ctr.Next and of the reference's Next. -/
import Derived.Test.YteecbjpnnklbpaaAes15
import Derived.Test.YteecbjpnnklbpaaCtrPlain
namespace Go.Proofs.Yteecbjpnnklbpaa.Ctr
open Go.RowKit
open Go.Proofs.Yteecbjpnnklbpaa.Aes
set_option linter.unusedVariables false
set_option maxRecDepth 100000
theorem wrap8 (x : UInt8) : IntKind.u8.wrap ((x.toNat : Int) + 1) = ((x + 1).toNat : Int) := by
  rw [IntKind.wrap_u8', UInt8.toNat_add]; simp
def zs (n : Nat) : List UInt8 := List.replicate n 0
theorem zs_cons (n : Nat) (h : 0 < n) : (0 : UInt8) :: zs (n - 1) = zs n := by
  obtain ⟨m, rfl⟩ : ∃ m, n = m + 1 := ⟨n - 1, by omega⟩
  rfl
theorem mid_len (c : List UInt8) (hc : c.length = 16) (j : Nat) (hj : j ≤ 16) : (c.take j ++ zs (16 - j)).length = 16 := by simp [zs, hc]; omega
set_option maxHeartbeats 800000 in
theorem next_any (c : List UInt8) (hc : c.length = 16) (w : World) : Calls Try.prog 27 #[arrV (vb c)] w fun e w' => e = .returned (arrV (vb (next c))) ∧ Below w.heap.size w w' := by
  have Hc := Lib.hid hc
  have hnl : (next c).length = 16 := by rw [next_len, hc]
  have Hnl := Lib.hid hnl
  have hszN := sizeL hnl
  clear hc hnl
  go_enter Try.func27, Try.ntmps27
  go_wp2_with (first
    | ((with_reducible show wpList _ _ _ (⟨some 1, _, _, _, _, _⟩ :: _) _ _); refine wpList_boxN rfl _ _ rfl (vb c) rfl ?_; intro w1 hb1 bw1 hs1)
    | ((with_reducible show wpList _ _ _ (⟨some 2, _, _, _, _, _⟩ :: _) _ _); refine wpList_allocN rfl _ rfl (vb zero16) zeroV16 ?_; intro w2 hb2 bw2 hs2; have hb12 := hb1.on bw2; have bt2 := bt bw1 bw2)
    | fail)
  go_step3
  go_wp2_with fail
  go_step3
  go_wp2_with fail
  have l01 : w.heap.size < w1.heap.size := hs1
  obtain ⟨B1, hB1⟩ : ∃ B, B = w1.heap.size := ⟨_, rfl⟩
  rw [← hB1] at hb2 l01 ⊢
  clear hB1 hb1 bw1 bw2 hs1 hs2
  go_loopw [3] (fun i wr => ∃ (j : Nat) (i1 : Int), j ≤ 16 ∧ i1 = (j : Int) - 1 ∧ i = .int .i64 i1 ∧ Hid (next c = next (c.take j) ++ zs (16 - j)) ∧ Blk wr w.heap.size (vb (c.take j ++ zs (16 - j))) ∧ Blk wr B1 (vb zero16) ∧ Below w.heap.size w wr) (fun i _ => (intOf i + 1).toNat)
  case atStart => exact ⟨16, 15, by omega, by omega, rfl, Lib.hid (by rw [List.take_of_length_le (by rw [Hc.out]; omega)]; simp [zs]), by rw [List.take_of_length_le (by rw [Hc.out]; omega)]; simpa [zs] using hb12, hb2, bt2⟩
  case round =>
    obtain ⟨j, i1, hj, hi1, rfl, hnx, d0, d1, bt0⟩ := hrel
    clear hb12 hb2 bt2
    rcases Nat.eq_zero_or_pos j with h0 | h0
    · subst h0
      have hneg : ¬ (0 : Int) ≤ i1 := by omega
      have hneg' : i1 < 0 := by omega
      clear hi1
      have hres := hnx.out
      rw [show (c.take 0) = [] from rfl, next_nil, List.nil_append] at hres
      rw [show (c.take 0) = [] from rfl, List.nil_append, ← hres] at d0
      clear hres
      go_wp2_with (first
        | ((with_reducible show wpList _ _ _ (⟨some 17, _, _, _, _, _⟩ :: _) _ _); refine wpList_loadA rfl _ _ rfl rfl d0 Try.underlying22 hszN ?_)
        | ((with_reducible show wpList _ _ _ (⟨none, .store 22 _ _, _, _, _, _⟩ :: _) _ _); refine wpList_storeN rfl _ _ _ rfl rfl (ys := vb (next c)) rfl d1 (by rw [vb_len, vb_len, Hnl.out]; rfl) (vb_one _) hszN ?_; intro w9 hb9 hg9)
        | fail)
      try rw [Exit.noGoto_ret]
      exact bodyPost_ret (v := arrV (vb (next c))) (results_arr Try.results27 _ hb9 Try.underlying22 hszN rfl) rfl ⟨rfl, below_row bt0 hg9 (by omega) bt0.size⟩
    · obtain ⟨k, rfl⟩ : ∃ k, j = k + 1 := ⟨j - 1, by omega⟩
      obtain rfl : i1 = (k : Int) := by omega
      have hk16 : k < c.length := by rw [Hc.out]; omega
      have hcell := Blk.byte d0 (k := k) (by rw [mid_len c Hc.out _ hj]; omega)
      rw [get_mid c _ k hk16] at hcell
      have hset := Lib.hid (set_mid c (zs (16 - (k + 1))) k (c.getD k 0 + 1) hk16)
      have hhere := Lib.hid (next_here c _ k hk16 hnx.out)
      have hon := Lib.hid (next_on c _ k hk16 hnx.out)
      have hf := d0.free k
      have hlt0 := d0.lt
      have hkI : (k : Int) < 16 := by omega
      obtain ⟨x, hx⟩ : ∃ x, x = c.getD k 0 := ⟨_, rfl⟩
      rw [← hx] at hcell hset hhere hon
      have hw8 := wrap8 x
      obtain ⟨y, hy⟩ : ∃ y, y = x + 1 := ⟨_, rfl⟩
      rw [← hy] at hset hhere hon hw8
      clear hx hy hi1
      have hbs := d0.set (k := k) (e8 y)
      rw [vb_set, hset.out] at hbs
      have e1 := d1.other (k := k) (b := w.heap.size) (e8 y) (by omega)
      have btr := bset_new bt0 k (e8 y)
      by_cases hy0 : y = 0
      · have hyb : ((y.toNat : Int) != 0) = false := by rw [hy0]; rfl
        have hres := Lib.hid (hon.out hy0)
        have Hy0 := Lib.hid hy0
        clear hy0
        go_wp2
        go_roundw
        case rel => exact ⟨k, (k : Int) - 1, by omega, rfl, by go_num, Lib.hid (by rw [hres.out, show 16 - (k + 1) = 16 - k - 1 by omega, zs_cons _ (by omega)]), (by rw [Hy0.out, show 16 - (k + 1) = 16 - k - 1 by omega, zs_cons _ (by omega), ← Hy0.out] at hbs; exact hbs), e1, btr⟩
        case measure => simp [intOf] <;> omega
      · have hyb : ((y.toNat : Int) != 0) = true := bne_yes (fun e => hy0 (UInt8.toNat_inj.1 (by simpa using e)))
        have hres := hhere.out (.inl hy0)
        rw [← hres] at hbs
        clear hres
        go_wp2_with (first
          | ((with_reducible show wpList _ _ _ (⟨some 17, _, _, _, _, _⟩ :: _) _ _); refine wpList_loadA rfl _ _ rfl rfl hbs Try.underlying22 hszN ?_)
          | ((with_reducible show wpList _ _ _ (⟨none, .store 22 _ _, _, _, _, _⟩ :: _) _ _); refine wpList_storeN rfl _ _ _ rfl rfl (ys := vb (next c)) rfl e1 (by rw [vb_len, vb_len, Hnl.out]; rfl) (vb_one _) hszN ?_; intro w9 hb9 hg9)
          | fail)
        try rw [Exit.noGoto_ret]
        exact bodyPost_ret (v := arrV (vb (next c))) (results_arr Try.results27 _ hb9 Try.underlying22 hszN rfl) rfl ⟨rfl, below_row btr hg9 (by omega) btr.size⟩
theorem is255 (x : UInt8) : ((x.toNat : Int) == 255) = decide (x + 1 = 0) := by
  have hx := x.toNat_lt
  by_cases h : x.toNat = 255
  · have : x + 1 = 0 := by apply UInt8.toNat_inj.1; rw [UInt8.toNat_add, h]; rfl
    simp [h, this]
  · have h1 : ¬ x + 1 = 0 := fun e => h (by have h1 := congrArg UInt8.toNat e; rw [UInt8.toNat_add] at h1; simp at h1; omega)
    have h2 : ((x.toNat : Int) == 255) = false := beq_no (by omega)
    rw [h2]; simp [h1]
set_option maxHeartbeats 800000 in
theorem rnext_any (c : List UInt8) (hc : c.length = 16) (w : World) : Calls Try.prog 28 #[arrV (vb c)] w fun e w' => e = .returned (arrV (vb (next c))) ∧ Below w.heap.size w w' := by
  have Hc := Lib.hid hc
  have hnl : (next c).length = 16 := by rw [next_len, hc]
  have Hnl := Lib.hid hnl
  have hszN := sizeL hnl
  clear hc hnl
  go_enter Try.func28, Try.ntmps28
  go_wp2_with (first
    | ((with_reducible show wpList _ _ _ (⟨some 1, _, _, _, _, _⟩ :: _) _ _); refine wpList_boxN rfl _ _ rfl (vb c) rfl ?_; intro w1 hb1 bw1 hs1)
    | ((with_reducible show wpList _ _ _ (⟨some 2, _, _, _, _, _⟩ :: _) _ _); refine wpList_allocN rfl _ rfl (vb zero16) zeroV16 ?_; intro w2 hb2 bw2 hs2; have hb12 := hb1.on bw2; have bt2 := bt bw1 bw2)
    | fail)
  have l01 : w.heap.size < w1.heap.size := hs1
  obtain ⟨B1, hB1⟩ : ∃ B, B = w1.heap.size := ⟨_, rfl⟩
  rw [← hB1] at hb2 l01 ⊢
  clear hB1 hb1 bw1 bw2 hs1 hs2
  go_loopw [3] (fun i wr => ∃ (k : Nat), k < 16 ∧ i = .int .i64 k ∧ Hid (next c = next (c.take (k + 1)) ++ zs (16 - (k + 1))) ∧ Blk wr w.heap.size (vb (c.take (k + 1) ++ zs (16 - (k + 1)))) ∧ Blk wr B1 (vb zero16) ∧ Below w.heap.size w wr) (fun i _ => (intOf i).toNat)
  case atStart => exact ⟨15, by omega, rfl, Lib.hid (by rw [List.take_of_length_le (by rw [Hc.out]; omega)]; simp [zs]), by rw [List.take_of_length_le (by rw [Hc.out]; omega)]; simpa [zs] using hb12, hb2, bt2⟩
  case round =>
    obtain ⟨k, hk, rfl, hnx, d0, d1, bt0⟩ := hrel
    clear hb12 hb2 bt2
    have hk16 : k < c.length := by rw [Hc.out]; omega
    have hcell := Blk.byte d0 (k := k) (by rw [mid_len c Hc.out _ (by omega)]; omega)
    rw [get_mid c _ k hk16] at hcell
    have hf := d0.free k
    have hlt0 := d0.lt
    have hkI : (k : Int) < 16 := by omega
    have hset0 := Lib.hid (set_mid c (zs (16 - (k + 1))) k 0 hk16)
    have hset := Lib.hid (set_mid c (zs (16 - (k + 1))) k (c.getD k 0 + 1) hk16)
    have hhere := Lib.hid (next_here c _ k hk16 hnx.out)
    have hon := Lib.hid (next_on c _ k hk16 hnx.out)
    obtain ⟨x, hx⟩ : ∃ x, x = c.getD k 0 := ⟨_, rfl⟩
    rw [← hx] at hcell hset hhere hon
    have hw8 := wrap8 x
    have h255 := is255 x
    obtain ⟨y, hy⟩ : ∃ y, y = x + 1 := ⟨_, rfl⟩
    rw [← hy] at hset hhere hon hw8 h255
    clear hx hy
    by_cases hgo : 0 < k ∧ y = 0
    · obtain ⟨hk0, hy0⟩ := hgo
      have hres := Lib.hid (hon.out hy0)
      rw [hy0] at h255
      have h255' : ((x.toNat : Int) == 255) = true := by rw [h255]; rfl
      have hbs := d0.set (k := k) (e8 0)
      rw [vb_set, hset0.out] at hbs
      have e1 := d1.other (k := k) (b := w.heap.size) (e8 0) (by omega)
      have btr := bset_new bt0 k (e8 0)
      have hkI0 : (0 : Int) < (k : Int) := by omega
      have Hk0 := Lib.hid hk0
      clear hy0 h255 hw8 hset hk0
      go_wp2
      go_roundw
      case rel =>
        have hk0 := Hk0.out
        exact ⟨k - 1, by omega, by rw [show ((k : Int) - 1) = ((k - 1 : Nat) : Int) by omega]; try go_num, Lib.hid (by rw [hres.out, show k - 1 + 1 = k by omega, show 16 - (k + 1) = 16 - k - 1 by omega, zs_cons _ (by omega)]), (by rw [show 16 - (k + 1) = 16 - k - 1 by omega, zs_cons _ (by omega)] at hbs; rw [show k - 1 + 1 = k by omega]; exact hbs), e1, btr⟩
      case measure =>
        have hk0 := Hk0.out
        simp [intOf] <;> omega
    · have hres := hhere.out (by by_cases h : y = 0; exact .inr (by by_cases h0 : k = 0; exact h0; exact absurd ⟨by omega, h⟩ hgo); exact .inl h)
      have hbs := d0.set (k := k) (e8 y)
      rw [vb_set, hset.out, ← hres] at hbs
      have e1 := d1.other (k := k) (b := w.heap.size) (e8 y) (by omega)
      have btr := bset_new bt0 k (e8 y)
      by_cases hk0 : 0 < k
      · have hy0 : ¬ y = 0 := fun e => hgo ⟨hk0, e⟩
        have h255' : ((x.toNat : Int) == 255) = false := by rw [h255]; simp [hy0]
        have hkI0 : (0 : Int) < (k : Int) := by omega
        clear hy0 h255 hgo hres hk0
        go_wp2_with (first
          | ((with_reducible show wpList _ _ _ (⟨some 22, _, _, _, _, _⟩ :: _) _ _); refine wpList_loadA rfl _ _ rfl rfl hbs Try.underlying22 hszN ?_)
          | ((with_reducible show wpList _ _ _ (⟨none, .store 22 _ _, _, _, _, _⟩ :: _) _ _); refine wpList_storeN rfl _ _ _ rfl rfl (ys := vb (next c)) rfl e1 (by rw [vb_len, vb_len, Hnl.out]; rfl) (vb_one _) hszN ?_; intro w9 hb9 hg9)
          | fail)
        exact bodyPost_ret (v := arrV (vb (next c))) (results_arr Try.results28 _ hb9 Try.underlying22 hszN rfl) rfl ⟨rfl, below_row btr hg9 (by omega) btr.size⟩
      · have hkI0 : ¬ (0 : Int) < (k : Int) := by omega
        clear h255 hgo hres hk0
        go_wp2_with (first
          | ((with_reducible show wpList _ _ _ (⟨some 22, _, _, _, _, _⟩ :: _) _ _); refine wpList_loadA rfl _ _ rfl rfl hbs Try.underlying22 hszN ?_)
          | ((with_reducible show wpList _ _ _ (⟨none, .store 22 _ _, _, _, _, _⟩ :: _) _ _); refine wpList_storeN rfl _ _ _ rfl rfl (ys := vb (next c)) rfl e1 (by rw [vb_len, vb_len, Hnl.out]; rfl) (vb_one _) hszN ?_; intro w9 hb9 hg9)
          | fail)
        exact bodyPost_ret (v := arrV (vb (next c))) (results_arr Try.results28 _ hb9 Try.underlying22 hszN rfl) rfl ⟨rfl, below_row btr hg9 (by omega) btr.size⟩
end Go.Proofs.Yteecbjpnnklbpaa.Ctr
