/- The walks of the reference's Schedule. -/
import Derived.Test.YteecbjpnnklbpaaAes11
namespace Go.Proofs.Yteecbjpnnklbpaa.Aes
open Go.RowKit
open Go.Proofs.Yteecbjpnnklbpaa.Gf
set_option linter.unusedVariables false
set_option maxRecDepth 100000
theorem zeroVR (w : World) : (zeroValue 28).run Try.prog w = .ok (arrV (vb zero240)) w := by kernel_rfl
theorem sizeR : (Try.prog.info? 28).map (·.size) = some 240 := by kernel_rfl
set_option maxHeartbeats 400000 in
theorem rschedule_no (A : Option Addr) (n c : Nat) (w : World) (hn : n ≠ 32) (hm : n ≤ maxLen) :
    Calls Try.prog 19 #[.slice A n c] w fun e w' => e = .returned (.tuple #[arrV (vb zero240), .int .i64 4]) ∧ Below w.heap.size w w' := by
  have hn' : ((n : Int) != 32) = true := bne_yes (by omega)
  have hsz := size240 sizeR zero240_len
  have zR := zeroVR
  obtain ⟨Z, hZe⟩ : ∃ Z, Z = zero240 := ⟨_, rfl⟩
  rw [← hZe] at hsz zR ⊢
  clear hZe
  go_enter Try.func19, Try.ntmps19
  go_wp2_with (first
    | ((with_reducible show wpList _ _ _ (⟨some 2, _, _, _, _, _⟩ :: _) _ _); refine wpList_allocN rfl _ rfl (vb Z) zR ?_; intro w1 hb1 bw1 hs1)
    | ((with_reducible show wpList _ _ _ (⟨some 4, _, _, _, _, _⟩ :: _) _ _); refine wpList_allocN rfl _ rfl (vb Z) zR ?_; intro w2 hb2 bw2 hs2; have hb12 := hb1.on bw2; have bt2 := bt bw1 bw2)
    | ((with_reducible show wpList _ _ _ (⟨some 11, _, _, _, _, _⟩ :: _) _ _); refine wpList_loadA rfl _ _ rfl rfl hb2 Try.underlying28 hsz ?_)
    | ((with_reducible show wpList _ _ _ (⟨none, .store 28 _ _, _, _, _, _⟩ :: _) _ _); refine wpList_storeN rfl _ _ _ rfl rfl (ys := vb Z) rfl hb12 rfl (vb_one _) hsz ?_; intro w9 hb9 hg9)
    | fail)
  exact bodyPost_ret (v := .tuple #[arrV (vb Z), .int .i64 4]) (results_arr2 Try.results19 _ hb9 Try.underlying28 hsz rfl rfl) rfl ⟨rfl, below_row bt2 hg9 (Nat.le_refl _) bt2.size⟩
set_option maxHeartbeats 1600000 in
theorem rschedule_yes (b off : Nat) (key : List UInt8) (c : Nat) (w : World) (hn : key.length = 32) (hc : 32 ≤ c) (hcm : c ≤ maxLen) (hr : Rd w w.heap.size (some ⟨b, off, none⟩) (key.map e8)) :
    Calls Try.prog 19 #[.slice (some ⟨b, off, none⟩) 32 c] w fun e w' => e = .returned (.tuple #[arrV (vb (sched key)), .int .i64 0]) ∧ Below w.heap.size w w' := by
  have hF := sched_len key
  have hwd : ∀ W, Below w.heap.size w W → Calls Try.prog 38 #[.slice (some ⟨b, off, none⟩) 32 c] W fun e w' => e = .returned (arrV (vb (sched key))) ∧ Below W.heap.size W w' := fun W hW => words_any b off key c W hn hc hcm (hr.on hW)
  unfold maxLen at hcm
  obtain ⟨F, hFe⟩ : ∃ F, F = sched key := ⟨_, rfl⟩
  rw [← hFe] at hF hwd ⊢
  clear hFe
  have hZ := zero240_len
  have zW := zeroVW
  have zR := zeroVR
  obtain ⟨Z, hZe⟩ : ∃ Z, Z = zero240 := ⟨_, rfl⟩
  rw [← hZe] at hZ zW zR
  clear hZe
  have HF := Lib.hid hF
  have HZ := Lib.hid hZ
  have Hwd := Lib.hid hwd
  have hszW := size240 sizeW hF
  have hszR := size240 sizeR hF
  have hZF : (vb Z).length = (vb F).length := by rw [vb_len, vb_len, hF, hZ]
  have HZF := Lib.hid hZF
  clear hF hn hZ hwd hZF
  go_enter Try.func19, Try.ntmps19
  go_wp2_with (first
    | ((with_reducible show wpList _ _ _ (⟨some 2, _, _, _, _, _⟩ :: _) _ _); refine wpList_allocN rfl _ rfl (vb Z) zR ?_; intro w1 hb1 bw1 hs1)
    | ((with_reducible show wpList _ _ _ (⟨some 4, _, _, _, _, _⟩ :: _) _ _); refine wpList_allocN rfl _ rfl (vb Z) zR ?_; intro w2 hb2 bw2 hs2; have hb12 := hb1.on bw2; have bt2 := bt bw1 bw2)
    | fail)
  refine (Hwd.out _ bt2).mono ?_
  rintro e w3 ⟨rfl, b3⟩
  have hb13 := hb12.on b3
  have hb23 := hb2.on b3
  have bt3 := bt bt2 b3
  go_wp2_with (first
    | ((with_reducible show wpList _ _ _ (⟨some 5, _, _, _, _, _⟩ :: _) _ _); refine wpList_allocN rfl _ rfl (vb Z) zW ?_; intro w4 hb4 bw4 hs4)
    | ((with_reducible show wpList _ _ _ (⟨none, .store 53 _ _, _, _, _, _⟩ :: _) _ _); refine wpList_storeN rfl _ _ _ rfl rfl (ys := vb F) rfl hb4 HZF.out (vb_one _) hszW ?_; intro w5 hb5 hg5; have bt5 := below_row bw4 hg5 (Nat.le_refl _) bw4.size)
    | fail)
  have f1 := hb13.on bt5
  have f2 := hb23.on bt5
  have btm := bt bt3 bt5
  have l01 : w.heap.size < w1.heap.size := hs1
  have l12 : w1.heap.size < w3.heap.size := by have := b3.size; omega
  obtain ⟨B4, hB4⟩ : ∃ B, B = w1.heap.size := ⟨_, rfl⟩
  obtain ⟨B5, hB5⟩ : ∃ B, B = w3.heap.size := ⟨_, rfl⟩
  rw [← hB4] at f2 l01 l12 ⊢
  rw [← hB5] at hb5 l12 ⊢
  clear hB4 hB5 hb1 hb2 hb12 hb13 hb23 hb4 bw1 bw2 bw4 b3 bt2 bt3 bt5 hs1 hs2 hs4 hg5
  go_loopw [6] (fun i wr => ∃ k : Nat, k ≤ 60 ∧ i = .int .i64 k ∧ Blk wr w.heap.size (vb Z) ∧ Blk wr B4 (vb (part F Z (k * 4))) ∧ Blk wr B5 (vb F) ∧ Below w.heap.size w wr) (fun i _ => 60 - (intOf i).toNat)
  case atStart => exact ⟨0, by omega, rfl, f1, by rw [Nat.zero_mul, part_zero]; exact f2, hb5, btm⟩
  case round =>
    obtain ⟨k, hk, rfl, d0, d4, d5, bt0⟩ := hrel
    clear f1 f2 hb5 btm
    by_cases hlt : k < 60
    · go_wp2
      obtain ⟨q, hq⟩ : ∃ q, q = k / 4 := ⟨_, rfl⟩
      obtain ⟨r1, hr1⟩ : ∃ r, r = k % 4 := ⟨_, rfl⟩
      have tq : ((k : Int)).tdiv 4 = (q : Int) := by rw [Int.tdiv_eq_ediv_of_nonneg (by omega)]; omega
      have tr : ((k : Int)).tmod 4 = (r1 : Int) := by rw [Int.tmod_eq_emod_of_nonneg (by omega)]; omega
      have wq0 : IntKind.i64.wrap (q : Int) = (q : Int) := by rw [IntKind.wrap_i64]; omega
      have hoff : q * 16 + 4 * r1 = k * 4 := by omega
      have hr3 : r1 < 4 := by omega
      have Hoff := Lib.hid hoff
      have hqI : (q : Int) < 15 := by omega
      have hkI : (k : Int) < 60 := by omega
      clear hq hr1 hoff
      go_loopw [7] (fun i wx => ∃ n : Nat, n ≤ 4 ∧ i = .int .i64 n ∧ Blk wx w.heap.size (vb Z) ∧ Blk wx B4 (vb (part F Z (k * 4 + n))) ∧ Blk wx B5 (vb F) ∧ Below w.heap.size w wx) (fun i _ => 4 - (intOf i).toNat)
      case atStart => exact ⟨0, by omega, rfl, d0, d4, d5, bt0⟩
      case round =>
        obtain ⟨n, hn, rfl, e0, e4, e5, bx⟩ := hrel
        clear d0 d4 d5 bt0
        by_cases hln : n < 4
        · have hset := Lib.hid (part_set F Z (k * 4 + n) 240 HF.out HZ.out (by omega))
          have hcc := Blk.byte e5 (k := k * 4 + n) (by rw [HF.out]; omega)
          obtain ⟨m, hm⟩ : ∃ m, m = 4 * r1 + n := ⟨_, rfl⟩
          have wm : IntKind.i64.wrap (IntKind.i64.wrap (4 * (r1 : Int)) + (n : Int)) = (m : Int) := by
            rw [show IntKind.i64.wrap (4 * (r1 : Int)) = 4 * (r1 : Int) by rw [IntKind.wrap_i64]; omega, IntKind.wrap_i64]; omega
          have wm' : IntKind.i64.wrap (4 * (r1 : Int) + (n : Int)) = (m : Int) := by rw [IntKind.wrap_i64]; omega
          have wm2 : 4 * (r1 : Int) + (n : Int) = (m : Int) := by omega
          have hmo : q * 16 + m = k * 4 + n := by have := Hoff.out; omega
          have hct := Blk.byte e4 (k := q * 16 + m) (by rw [part_len _ _ (k * 4 + n) 240 HF.out HZ.out (by omega)]; omega)
          have hf := e4.free (q * 16 + m)
          have hmI : (m : Int) < 16 := by omega
          have Hmo := Lib.hid hmo
          obtain ⟨x, hx⟩ : ∃ x, x = F.getD (k * 4 + n) 0 := ⟨_, rfl⟩
          rw [← hx] at hcc hset
          have hB4 := e4.lt
          have hB5 := e5.lt
          have hnI : (n : Int) < 4 := by omega
          clear hx hmo hm
          go_wp2
          try go_region
          try go_wp2
          go_roundw
          case rel =>
            have hbs := e4.set (k := k * 4 + n) (e8 x)
            rw [vb_set, hset.out] at hbs
            rw [Hmo.out]
            exact ⟨n + 1, by omega, by go_num, e0.other _ (by omega), by rw [← Nat.add_assoc]; exact hbs, e5.other _ (by omega), (bset bx (by omega) _).drew⟩
          case measure => simp [intOf]; omega
        · obtain rfl : n = 4 := by omega
          go_wp2
          go_roundw
          case rel => exact ⟨k + 1, by omega, by go_num, e0, by rw [Nat.add_mul]; exact e4, e5, bx⟩
          case measure => simp [intOf]; omega
    · obtain rfl : k = 60 := by omega
      have hp60 := part_all F Z 240 HF.out HZ.out
      rw [show 60 * 4 = 240 from rfl, hp60] at d4
      clear hp60
      go_wp2_with (first
        | ((with_reducible show wpList _ _ _ (⟨some 36, _, _, _, _, _⟩ :: _) _ _); refine wpList_loadA rfl _ _ rfl rfl d4 Try.underlying28 hszR ?_)
        | ((with_reducible show wpList _ _ _ (⟨none, .store 28 _ _, _, _, _, _⟩ :: _) _ _); refine wpList_storeN rfl _ _ _ rfl rfl (ys := vb F) rfl d0 HZF.out (vb_one _) hszR ?_; intro w9 hb9 hg9)
        | fail)
      exact bodyPost_ret (v := .tuple #[arrV (vb F), .int .i64 0]) (results_arr2 Try.results19 _ hb9 Try.underlying28 hszR rfl rfl) rfl ⟨rfl, below_row bt0 hg9 (Nat.le_refl _) bt0.size⟩
theorem rschedule_any (A : Option Addr) (key : List UInt8) (n c : Nat) (w : World) (hn : n = key.length) (hc : n ≤ c) (hcm : c ≤ maxLen) (hr : Rd w w.heap.size A (key.map e8)) :
    Calls Try.prog 19 #[.slice A n c] w fun e w' => e = .returned (.tuple #[arrV (vb (keysOf key)), .int .i64 (if key.length = 32 then 0 else 4)]) ∧ Below w.heap.size w w' := by
  subst hn
  by_cases h : key.length = 32
  · rw [if_pos h, keysOf, if_pos h]
    obtain ⟨b, off, rfl, _, _⟩ := hr (by intro e; have := congrArg List.length e; rw [List.length_map, List.length_nil] at this; omega)
    rw [h] at hc ⊢
    exact rschedule_yes b off key c w h hc hcm hr
  · rw [if_neg h, keysOf, if_neg h]
    exact rschedule_no A _ c w h (by omega)
end Go.Proofs.Yteecbjpnnklbpaa.Aes
