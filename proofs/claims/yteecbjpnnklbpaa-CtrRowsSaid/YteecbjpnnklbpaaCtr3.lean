/- The walks of ctr.At and of the reference's At. -/
import Derived.Test.YteecbjpnnklbpaaCtr2
namespace Go.Proofs.Yteecbjpnnklbpaa.Ctr
open Go.RowKit
open Go.Proofs.Yteecbjpnnklbpaa.Aes
set_option linter.unusedVariables false
set_option maxRecDepth 100000
def okK (key nonce : List UInt8) : Prop := key.length = 32 ∧ nonce.length = 16
instance (key nonce : List UInt8) : Decidable (okK key nonce) := by unfold okK; infer_instance
def atF (key nonce : List UInt8) (n : Int) : Int := if okK key nonce then (if n < 0 ∨ 65536 ≤ n then 2 else 0) else 4
def atB (key nonce : List UInt8) (n : Int) : List UInt8 := if okK key nonce then (if n < 0 ∨ 65536 ≤ n then zero16 else block (sched key) nonce n.toNat) else zero16
theorem atB_len (key nonce : List UInt8) (n : Int) : (atB key nonce n).length = 16 := by
  unfold atB; split
  · split
    · rfl
    · exact block_len _ _ _
  · rfl
/-- what begun's fault says -/
theorem fault_ok (key nonce : List UInt8) : (if nonce.length = 16 then fOf key else 4) = if okK key nonce then 0 else 4 := by
  unfold okK fOf
  by_cases h : nonce.length = 16 <;> by_cases h' : key.length = 32 <;> simp [h, h']
set_option maxHeartbeats 1000000 in
theorem at_any (A B : Option Addr) (key nonce : List UInt8) (n c m d : Nat) (i : Int) (w : World) (hn : n = key.length) (hm : m = nonce.length) (hc : n ≤ c) (hcm : c ≤ maxLen) (hd : m ≤ d) (hdm : d ≤ maxLen)
    (hr : Rd w w.heap.size A (key.map e8)) (hq : Rd w w.heap.size B (nonce.map e8)) (hi0 : -9223372036854775808 ≤ i) (hi1 : i ≤ 9223372036854775807) :
    Calls Try.prog 23 #[.slice A n c, .slice B m d, .int .i64 i] w fun e w' => e = .returned (.tuple #[arrV (vb (atB key nonce i)), .int .i64 (atF key nonce i)]) ∧ Below w.heap.size w w' := by
  have hbg : ∀ W, Below w.heap.size w W → Calls Try.prog 39 #[.slice A n c, .slice B m d] W fun e w' => (∃ K C, e = .returned (.tuple #[arrV (vb K), arrV (vb C), .int .i64 (if okK key nonce then 0 else 4)]) ∧ K.length = 240 ∧ C.length = 16 ∧ (nonce.length = 16 → K = keysOf key ∧ C = nonce)) ∧ Below W.heap.size W w' := fun W hW => by
    have := begun_any A B key nonce n c m d W hn hm hc hcm hd hdm (hr.on hW) (hq.on hW)
    rwa [fault_ok] at this
  have Hbg := Lib.hid hbg
  have hzz := sizeL (l := zero16) rfl
  have zK := zeroVK
  have hZ := zero240_len
  obtain ⟨Z, hZe⟩ : ∃ Z, Z = zero240 := ⟨_, rfl⟩
  rw [← hZe] at zK hZ
  have HZ := Lib.hid hZ
  clear hZe hZ hbg
  by_cases hok : okK key nonce
  · have hat0 := Lib.hid (show atF key nonce i = if i < 0 ∨ 65536 ≤ i then 2 else 0 by rw [atF, if_pos hok])
    have hat1 := Lib.hid (show atB key nonce i = if i < 0 ∨ 65536 ≤ i then zero16 else block (sched key) nonce i.toNat by rw [atB, if_pos hok])
    have hkk : keysOf key = sched key := by rw [keysOf, if_pos hok.1]
    have Hok := Lib.hid hok
    rw [if_pos hok] at Hbg
    clear hok
    subst hn hm
    by_cases hrg : i < 0 ∨ 65536 ≤ i
    · rw [if_pos hrg] at hat0 hat1
      by_cases hneg : i < 0
      · clear hrg
        go_enter Try.func23, Try.ntmps23
        go_wp2_with (first
          | ((with_reducible show wpList _ _ _ (⟨some 6, _, _, _, _, _⟩ :: _) _ _); refine wpList_allocN rfl _ rfl (vb zero16) zeroV16 ?_; intro w1 hb1 bw1 hs1)
          | fail)
        refine (Hbg.out _ bw1).mono ?_
        rintro e w2 ⟨⟨K, C, rfl, hKl, hCl, hKC⟩, b2⟩
        obtain ⟨rfl, rfl⟩ := hKC Hok.out.2
        have bt2 := bt bw1 b2
        have hb12 := hb1.on b2
        have hszL := size240 sizeK hKl
        have hszC := sizeL hCl
        have hZL := Lib.hid (show (vb Z).length = (vb (keysOf key)).length by rw [vb_len, vb_len, hKl, HZ.out])
        have HKl := Lib.hid hKl
        have HCl := Lib.hid hCl
        have hen := encrypt_any (keysOf key)
        rw [hkk] at hen hszL hZL HKl ⊢
        obtain ⟨L, hL⟩ : ∃ L, L = sched key := ⟨_, rfl⟩
        rw [← hL] at hen hszL hZL HKl ⊢; try rw [← hL] at hat1
        have Hen := Lib.hid hen
        clear hKl hCl hKC hkk hen hL hb1 b2
        go_wp2_with (first
          | ((with_reducible show wpList _ _ _ (⟨some 8, _, _, _, _, _⟩ :: _) _ _); refine wpList_allocN rfl _ rfl (vb Z) zK ?_; intro w3 hb3 bw3 hs3)
          | ((with_reducible show wpList _ _ _ (⟨some 9, _, _, _, _, _⟩ :: _) _ _); refine wpList_allocN rfl _ rfl (vb zero16) zeroV16 ?_; intro w4 hb4 bw4 hs4; have hb34 := hb3.on bw4; have b34 := bt bw3 bw4)
          | ((with_reducible show wpList _ _ _ (⟨none, .store 29 (.tmp 8) _, _, _, _, _⟩ :: _) _ _); refine wpList_storeN rfl _ _ _ rfl rfl (ys := vb L) rfl hb34 hZL.out (vb_one _) hszL ?_; intro w5 hb5 hg5; have hb45 := hb4.grown hg5 (by simp; omega); have b5 := below_row b34 hg5 (Nat.le_refl _) b34.size)
          | ((with_reducible show wpList _ _ _ (⟨none, .store 22 (.tmp 9) _, _, _, _, _⟩ :: _) _ _); refine wpList_storeN rfl _ _ _ rfl rfl (ys := vb C) rfl hb45 (by rw [vb_len, vb_len, HCl.out]; rfl) (vb_one _) hszC ?_; intro w6 hb6 hg6; have hb56 := hb5.grown hg6 (by simp; omega); have b6 := below_row b5 hg6 (by omega) b5.size; have hb16 := hb12.on b6; have bt6 := bt bt2 b6)
          | ((with_reducible show wpList _ _ _ (⟨some 29, _, _, _, _, _⟩ :: _) _ _); refine wpList_loadA rfl _ _ rfl rfl hb16 Try.underlying22 hzz ?_)
          | ((with_reducible show wpList _ _ _ (⟨none, .store 22 (.tmp 6) _, _, _, _, _⟩ :: _) _ _); refine wpList_storeN rfl _ _ _ rfl rfl (ys := vb zero16) rfl hb16 rfl (vb_one _) hzz ?_; intro w9 hb9 hg9)
          | fail)
        rw [hat0.out, hat1.out]
        exact bodyPost_ret (v := .tuple #[arrV (vb zero16), .int .i64 2]) (results_arr2 Try.results23 _ hb9 Try.underlying22 hzz rfl rfl) rfl ⟨rfl, below_row bt6 hg9 (Nat.le_refl _) bt6.size⟩
      · have hbig : 65536 ≤ i := by omega
        have hneg' : 0 ≤ i := by omega
        clear hrg
        go_enter Try.func23, Try.ntmps23
        go_wp2_with (first
          | ((with_reducible show wpList _ _ _ (⟨some 6, _, _, _, _, _⟩ :: _) _ _); refine wpList_allocN rfl _ rfl (vb zero16) zeroV16 ?_; intro w1 hb1 bw1 hs1)
          | fail)
        refine (Hbg.out _ bw1).mono ?_
        rintro e w2 ⟨⟨K, C, rfl, hKl, hCl, hKC⟩, b2⟩
        obtain ⟨rfl, rfl⟩ := hKC Hok.out.2
        have bt2 := bt bw1 b2
        have hb12 := hb1.on b2
        have hszL := size240 sizeK hKl
        have hszC := sizeL hCl
        have hZL := Lib.hid (show (vb Z).length = (vb (keysOf key)).length by rw [vb_len, vb_len, hKl, HZ.out])
        have HKl := Lib.hid hKl
        have HCl := Lib.hid hCl
        have hen := encrypt_any (keysOf key)
        rw [hkk] at hen hszL hZL HKl ⊢
        obtain ⟨L, hL⟩ : ∃ L, L = sched key := ⟨_, rfl⟩
        rw [← hL] at hen hszL hZL HKl ⊢; try rw [← hL] at hat1
        have Hen := Lib.hid hen
        clear hKl hCl hKC hkk hen hL hb1 b2
        go_wp2_with (first
          | ((with_reducible show wpList _ _ _ (⟨some 8, _, _, _, _, _⟩ :: _) _ _); refine wpList_allocN rfl _ rfl (vb Z) zK ?_; intro w3 hb3 bw3 hs3)
          | ((with_reducible show wpList _ _ _ (⟨some 9, _, _, _, _, _⟩ :: _) _ _); refine wpList_allocN rfl _ rfl (vb zero16) zeroV16 ?_; intro w4 hb4 bw4 hs4; have hb34 := hb3.on bw4; have b34 := bt bw3 bw4)
          | ((with_reducible show wpList _ _ _ (⟨none, .store 29 (.tmp 8) _, _, _, _, _⟩ :: _) _ _); refine wpList_storeN rfl _ _ _ rfl rfl (ys := vb L) rfl hb34 hZL.out (vb_one _) hszL ?_; intro w5 hb5 hg5; have hb45 := hb4.grown hg5 (by simp; omega); have b5 := below_row b34 hg5 (Nat.le_refl _) b34.size)
          | ((with_reducible show wpList _ _ _ (⟨none, .store 22 (.tmp 9) _, _, _, _, _⟩ :: _) _ _); refine wpList_storeN rfl _ _ _ rfl rfl (ys := vb C) rfl hb45 (by rw [vb_len, vb_len, HCl.out]; rfl) (vb_one _) hszC ?_; intro w6 hb6 hg6; have hb56 := hb5.grown hg6 (by simp; omega); have b6 := below_row b5 hg6 (by omega) b5.size; have hb16 := hb12.on b6; have bt6 := bt bt2 b6)
          | ((with_reducible show wpList _ _ _ (⟨some 29, _, _, _, _, _⟩ :: _) _ _); refine wpList_loadA rfl _ _ rfl rfl hb16 Try.underlying22 hzz ?_)
          | ((with_reducible show wpList _ _ _ (⟨none, .store 22 (.tmp 6) _, _, _, _, _⟩ :: _) _ _); refine wpList_storeN rfl _ _ _ rfl rfl (ys := vb zero16) rfl hb16 rfl (vb_one _) hzz ?_; intro w9 hb9 hg9)
          | fail)
        rw [hat0.out, hat1.out]
        exact bodyPost_ret (v := .tuple #[arrV (vb zero16), .int .i64 2]) (results_arr2 Try.results23 _ hb9 Try.underlying22 hzz rfl rfl) rfl ⟨rfl, below_row bt6 hg9 (Nat.le_refl _) bt6.size⟩
    · rw [if_neg hrg] at hat0 hat1
      have hneg : ¬ i < 0 := by omega
      have hbig : ¬ 65536 ≤ i := by omega
      obtain ⟨n, rfl⟩ : ∃ n : Nat, i = (n : Int) := ⟨i.toNat, by omega⟩
      rw [Int.toNat_natCast] at hat1
      have HnB := Lib.hid (show n < 65536 by omega)
      have hge : decide ((65536 : Int) ≤ (n : Int)) = false := by simp; omega

      clear hrg hneg hbig hi0 hi1
      go_enter Try.func23, Try.ntmps23
      go_wp2_with (first
        | ((with_reducible show wpList _ _ _ (⟨some 6, _, _, _, _, _⟩ :: _) _ _); refine wpList_allocN rfl _ rfl (vb zero16) zeroV16 ?_; intro w1 hb1 bw1 hs1)
        | fail)
      refine (Hbg.out _ bw1).mono ?_
      rintro e w2 ⟨⟨K, C, rfl, hKl, hCl, hKC⟩, b2⟩
      obtain ⟨rfl, rfl⟩ := hKC Hok.out.2
      have bt2 := bt bw1 b2
      have hb12 := hb1.on b2
      have hszL := size240 sizeK hKl
      have hszC := sizeL hCl
      have hZL := Lib.hid (show (vb Z).length = (vb (keysOf key)).length by rw [vb_len, vb_len, hKl, HZ.out])
      have HKl := Lib.hid hKl
      have HCl := Lib.hid hCl
      have hen := encrypt_any (keysOf key)
      rw [hkk] at hen hszL hZL HKl ⊢
      obtain ⟨L, hL⟩ : ∃ L, L = sched key := ⟨_, rfl⟩
      rw [← hL] at hen hszL hZL HKl ⊢; try rw [← hL] at hat1
      have Hen := Lib.hid hen
      clear hKl hCl hKC hkk hen hL hb1 b2
      go_wp2_with (first
        | ((with_reducible show wpList _ _ _ (⟨some 8, _, _, _, _, _⟩ :: _) _ _); refine wpList_allocN rfl _ rfl (vb Z) zK ?_; intro w3 hb3 bw3 hs3)
        | ((with_reducible show wpList _ _ _ (⟨some 9, _, _, _, _, _⟩ :: _) _ _); refine wpList_allocN rfl _ rfl (vb zero16) zeroV16 ?_; intro w4 hb4 bw4 hs4; have hb34 := hb3.on bw4; have b34 := bt bw3 bw4)
        | ((with_reducible show wpList _ _ _ (⟨none, .store 29 (.tmp 8) _, _, _, _, _⟩ :: _) _ _); refine wpList_storeN rfl _ _ _ rfl rfl (ys := vb L) rfl hb34 hZL.out (vb_one _) hszL ?_; intro w5 hb5 hg5; have hb45 := hb4.grown hg5 (by simp; omega); have b5 := below_row b34 hg5 (Nat.le_refl _) b34.size)
        | ((with_reducible show wpList _ _ _ (⟨none, .store 22 (.tmp 9) _, _, _, _, _⟩ :: _) _ _); refine wpList_storeN rfl _ _ _ rfl rfl (ys := vb C) rfl hb45 (by rw [vb_len, vb_len, HCl.out]; rfl) (vb_one _) hszC ?_; intro w6 hb6 hg6; have hb56 := hb5.grown hg6 (by simp; omega); have b6 := below_row b5 hg6 (by omega) b5.size; have hb16 := hb12.on b6; have bt6 := bt bt2 b6)
        | fail)
      have l12 : w.heap.size < w2.heap.size := hb12.lt
      have l23 : w2.heap.size < w3.heap.size := hs3
      have hb5' := hb56
      obtain ⟨B8, hB8⟩ : ∃ B, B = w2.heap.size := ⟨_, rfl⟩
      obtain ⟨B9, hB9⟩ : ∃ B, B = w3.heap.size := ⟨_, rfl⟩
      rw [← hB8] at hb5' l12 l23 ⊢
      rw [← hB9] at hb6 l23 ⊢
      clear hB8 hB9 hb3 hb4 hb34 hb45 hb5 hb56 hb12 hg5 hg6 bw3 bw4 b34 b5 b6 hs3 hs4 bt2 bw1 hs1
      go_loopw [31] (fun v wr => ∃ k : Nat, k ≤ n ∧ v = .int .i64 k ∧ Blk wr w.heap.size (vb zero16) ∧ Blk wr B8 (vb L) ∧ (∃ D, Hid (D = later C k) ∧ Blk wr B9 (vb D)) ∧ Below w.heap.size w wr) (fun v _ => n - (intOf v).toNat)
      case atStart => exact ⟨0, by omega, rfl, hb16, hb5', ⟨C, Lib.hid (later_zero C).symm, hb6⟩, bt6⟩
      case round =>
        obtain ⟨k, hk, rfl, d6, d8, ⟨D, hD, d9⟩, bt0⟩ := hrel
        clear hb16 hb5' hb6 bt6
        have hDl : D.length = 16 := by rw [hD.out, later_len, HCl.out]
        have hszD := sizeL hDl
        have HDl := Lib.hid hDl
        by_cases hlt : k < n
        · have hwk : IntKind.i64.wrap ((k : Int) + 1) = (k : Int) + 1 := wrap_small (by omega) (by have := HnB.out; omega)
          have hnx := Lib.hid (fun W => next_any D hDl W)
          have hNl : (next D).length = 16 := by rw [next_len, hDl]
          have hNe := Lib.hid (show next D = later C (k + 1) by rw [hD.out, later_succ])
          obtain ⟨N, hN⟩ : ∃ N, N = next D := ⟨_, rfl⟩
          rw [← hN] at hnx hNl hNe
          have hszN := sizeL hNl
          have HNl := Lib.hid hNl
          clear hN hNl hDl
          go_wp2_with (first
            | ((with_reducible show wpList _ _ _ (⟨some 33, _, _, _, _, _⟩ :: _) _ _); refine wpList_loadA rfl _ _ rfl rfl d9 Try.underlying22 hszD ?_)
            | fail)
          refine (hnx.out _).mono ?_
          rintro e w7 ⟨rfl, b7⟩
          have e9 := d9.on b7
          have bt7 := bt bt0 b7
          go_wp2_with (first
            | ((with_reducible show wpList _ _ _ (⟨none, .store 22 (.tmp 9) _, _, _, _, _⟩ :: _) _ _); refine wpList_storeN rfl _ _ _ rfl rfl (ys := vb N) rfl e9 (by rw [vb_len, vb_len, HDl.out, HNl.out]) (vb_one _) hszN ?_; intro w8 hb8 hg8)
            | fail)
          go_roundw
          case rel =>
            exact ⟨k + 1, by omega, rfl, (d6.on b7).grown hg8 (by simp; omega), (d8.on b7).grown hg8 (by simp; omega), ⟨N, hNe, hb8⟩, below_row bt7 hg8 (by omega) bt7.size⟩
          case measure => simp [intOf]; omega
        · obtain rfl : k = n := by omega
          have hen := Lib.hid (fun W => Hen.out D HKl.out hDl W)
          have hEl := encrypt_len L D
          have hEe := Lib.hid (show atB key C (k : Int) = encrypt L D by rw [hat1.out, hD.out]; rfl)
          obtain ⟨E, hE⟩ : ∃ E, E = encrypt L D := ⟨_, rfl⟩
          rw [← hE] at hen hEl hEe
          have hszE := sizeL hEl
          have HEl := Lib.hid hEl
          clear hE hEl hDl
          go_wp2_with (first
            | ((with_reducible show wpList _ _ _ (⟨some 36, _, _, _, _, _⟩ :: _) _ _); refine wpList_loadA rfl _ _ rfl rfl d8 Try.underlying29 hszL ?_)
            | ((with_reducible show wpList _ _ _ (⟨some 37, _, _, _, _, _⟩ :: _) _ _); refine wpList_loadA rfl _ _ rfl rfl d9 Try.underlying22 hszD ?_)
            | fail)
          refine (hen.out _).mono ?_
          rintro e w7 ⟨rfl, b7⟩
          have e6 := d6.on b7
          have bt7 := bt bt0 b7
          go_wp2_with (first
            | ((with_reducible show wpList _ _ _ (⟨none, .store 22 (.tmp 6) _, _, _, _, _⟩ :: _) _ _); refine wpList_storeN rfl _ _ _ rfl rfl (ys := vb E) rfl e6 (by rw [vb_len, vb_len, HEl.out]; rfl) (vb_one _) hszE ?_; intro w9 hb9 hg9)
            | fail)
          rw [hat0.out, hEe.out]
          exact bodyPost_ret (v := .tuple #[arrV (vb E), .int .i64 0]) (results_arr2 Try.results23 _ hb9 Try.underlying22 hszE rfl rfl) rfl ⟨rfl, below_row bt7 hg9 (Nat.le_refl _) bt7.size⟩
  · have hat0 := Lib.hid (show atF key nonce i = 4 by rw [atF, if_neg hok])
    have hat1 := Lib.hid (show atB key nonce i = zero16 by rw [atB, if_neg hok])
    rw [if_neg hok] at Hbg
    clear hok
    subst hn hm
    go_enter Try.func23, Try.ntmps23
    go_wp2_with (first
      | ((with_reducible show wpList _ _ _ (⟨some 6, _, _, _, _, _⟩ :: _) _ _); refine wpList_allocN rfl _ rfl (vb zero16) zeroV16 ?_; intro w1 hb1 bw1 hs1)
      | fail)
    refine (Hbg.out _ bw1).mono ?_
    rintro e w2 ⟨⟨K, C, rfl, hKl, hCl, hKC⟩, b2⟩
    have bt2 := bt bw1 b2
    have hb12 := hb1.on b2
    have hszL := size240 sizeK hKl
    have hszC := sizeL hCl
    have hZL := Lib.hid (show (vb Z).length = (vb K).length by rw [vb_len, vb_len, hKl, HZ.out])
    have HCl := Lib.hid hCl
    clear hKl hCl hKC hb1 b2
    go_wp2_with (first
      | ((with_reducible show wpList _ _ _ (⟨some 8, _, _, _, _, _⟩ :: _) _ _); refine wpList_allocN rfl _ rfl (vb Z) zK ?_; intro w3 hb3 bw3 hs3)
      | ((with_reducible show wpList _ _ _ (⟨some 9, _, _, _, _, _⟩ :: _) _ _); refine wpList_allocN rfl _ rfl (vb zero16) zeroV16 ?_; intro w4 hb4 bw4 hs4; have hb34 := hb3.on bw4; have b34 := bt bw3 bw4)
      | ((with_reducible show wpList _ _ _ (⟨none, .store 29 (.tmp 8) _, _, _, _, _⟩ :: _) _ _); refine wpList_storeN rfl _ _ _ rfl rfl (ys := vb K) rfl hb34 hZL.out (vb_one _) hszL ?_; intro w5 hb5 hg5; have hb45 := hb4.grown hg5 (by simp; omega); have b5 := below_row b34 hg5 (Nat.le_refl _) b34.size)
      | ((with_reducible show wpList _ _ _ (⟨none, .store 22 (.tmp 9) _, _, _, _, _⟩ :: _) _ _); refine wpList_storeN rfl _ _ _ rfl rfl (ys := vb C) rfl hb45 (by rw [vb_len, vb_len, HCl.out]; rfl) (vb_one _) hszC ?_; intro w6 hb6 hg6; have b6 := below_row b5 hg6 (by omega) b5.size; have hb16 := hb12.on b6; have bt6 := bt bt2 b6)
      | ((with_reducible show wpList _ _ _ (⟨some 20, _, _, _, _, _⟩ :: _) _ _); refine wpList_loadA rfl _ _ rfl rfl hb16 Try.underlying22 hzz ?_)
      | ((with_reducible show wpList _ _ _ (⟨none, .store 22 (.tmp 6) _, _, _, _, _⟩ :: _) _ _); refine wpList_storeN rfl _ _ _ rfl rfl (ys := vb zero16) rfl hb16 rfl (vb_one _) hzz ?_; intro w9 hb9 hg9)
      | fail)
    rw [hat0.out, hat1.out]
    exact bodyPost_ret (v := .tuple #[arrV (vb zero16), .int .i64 4]) (results_arr2 Try.results23 _ hb9 Try.underlying22 hzz rfl rfl) rfl ⟨rfl, below_row bt6 hg9 (Nat.le_refl _) bt6.size⟩
end Go.Proofs.Yteecbjpnnklbpaa.Ctr
