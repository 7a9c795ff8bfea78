/- The walk of the reference's At. -/
import Derived.Test.YteecbjpnnklbpaaCtr7
import Derived.Test.YteecbjpnnklbpaaArrEq
namespace Go.Proofs.Yteecbjpnnklbpaa.Ctr
open Go.RowKit
open Go.Proofs.Yteecbjpnnklbpaa.Aes
set_option linter.unusedVariables false
set_option maxRecDepth 100000
set_option maxHeartbeats 1000000 in
theorem rat_any (A B : Option Addr) (key nonce : List UInt8) (n c m d : Nat) (i : Int) (w : World) (hn : n = key.length) (hm : m = nonce.length) (hc : n ≤ c) (hcm : c ≤ maxLen) (hd : m ≤ d) (hdm : d ≤ maxLen)
    (hr : Rd w w.heap.size A (key.map e8)) (hq : Rd w w.heap.size B (nonce.map e8)) (hi0 : -9223372036854775808 ≤ i) (hi1 : i ≤ 9223372036854775807) (hn9 : n ≤ 1000000000) (hm9 : m ≤ 1000000000) :
    Calls Try.prog 24 #[.slice A n c, .slice B m d, .int .i64 i] w fun e w' => e = .returned (.tuple #[arrV (vb (atB key nonce i)), .int .i64 (atF key nonce i)]) ∧ Below w.heap.size w w' := by
  have hri : ∀ W, Calls Try.prog 40 #[.slice A n c, .slice B m d] W fun e w' => e = .returned (.bool (decide (okK key nonce))) ∧ W = w' := fun W => by
    have := right_any A B n c m d W hn9 hm9
    subst hn hm
    exact this
  have hzz := sizeL (l := zero16) rfl
  have zR := zeroVR
  have hZ := zero240_len
  obtain ⟨Z, hZe⟩ : ∃ Z, Z = zero240 := ⟨_, rfl⟩
  rw [← hZe] at zR hZ
  have HZ := Lib.hid hZ
  clear hZe hZ
  by_cases hok : okK key nonce
  · have hat0 := Lib.hid (show atF key nonce i = if i < 0 ∨ 65536 ≤ i then 2 else 0 by rw [atF, if_pos hok])
    have hat1 := Lib.hid (show atB key nonce i = if i < 0 ∨ 65536 ≤ i then zero16 else block (sched key) nonce i.toNat by rw [atB, if_pos hok])
    rw [show decide (okK key nonce) = true from decide_eq_true hok] at hri
    have Hri := Lib.hid hri
    have hk32 := hok.1
    have hn16 := hok.2
    have hkk : keysOf key = sched key := by rw [keysOf, if_pos hok.1]
    have hsc : ∀ W, Below w.heap.size w W → Calls Try.prog 19 #[.slice A n c] W fun e w' => e = .returned (.tuple #[arrV (vb (sched key)), .int .i64 0]) ∧ Below W.heap.size W w' := fun W hW => by
      have := rschedule_any A key n c W hn hc hcm (hr.on hW)
      rwa [hkk, if_pos hk32] at this
    have hsl := sched_len key
    obtain ⟨L, hL⟩ : ∃ L, L = sched key := ⟨_, rfl⟩
    rw [← hL] at hsc hat1 hsl
    have hszL := size240 sizeR hsl
    have hZL := Lib.hid (show (vb Z).length = (vb L).length by rw [vb_len, vb_len, hsl, HZ.out])
    have HLl := Lib.hid hsl
    have Hsc := Lib.hid hsc
    have H16 := Lib.hid hn16
    clear hok hri hkk hsc hsl hL hk32
    subst hn
    subst hm
    by_cases hrg : i < 0 ∨ 65536 ≤ i
    · rw [if_pos hrg] at hat0 hat1
      by_cases hneg : i < 0
      · clear hrg hn16
        go_enter Try.func24, Try.ntmps24
        go_wp2_with (first
          | ((with_reducible show wpList _ _ _ (⟨some 6, _, _, _, _, _⟩ :: _) _ _); refine wpList_allocN rfl _ rfl (vb zero16) zeroV16 ?_; intro w1 hb1 bw1 hs1)
          | fail)
        refine (Hri.out _).mono ?_
        rintro e w2 ⟨rfl, rfl⟩
        go_wp2_with (first
          | ((with_reducible show wpList _ _ _ (⟨some 21, _, _, _, _, _⟩ :: _) _ _); refine wpList_run rfl (arrV (vb zero16)) (by kernel_rfl) ?_)
          | ((with_reducible show wpList _ _ _ (⟨none, .store 22 (.tmp 6) _, _, _, _, _⟩ :: _) _ _); refine wpList_storeN rfl _ _ _ rfl rfl (ys := vb zero16) rfl hb1 rfl (vb_one _) hzz ?_; intro w9 hb9 hg9)
          | fail)
        rw [hat0.out, hat1.out]
        exact bodyPost_ret (v := .tuple #[arrV (vb zero16), .int .i64 2]) (results_arr2 Try.results24 _ hb9 Try.underlying22 hzz rfl rfl) rfl ⟨rfl, below_row bw1 hg9 (Nat.le_refl _) bw1.size⟩
      · have hbig : 65535 < i := by omega
        have hneg' : 0 ≤ i := by omega
        clear hrg hn16
        go_enter Try.func24, Try.ntmps24
        go_wp2_with (first
          | ((with_reducible show wpList _ _ _ (⟨some 6, _, _, _, _, _⟩ :: _) _ _); refine wpList_allocN rfl _ rfl (vb zero16) zeroV16 ?_; intro w1 hb1 bw1 hs1)
          | fail)
        refine (Hri.out _).mono ?_
        rintro e w2 ⟨rfl, rfl⟩
        go_wp2_with (first
          | ((with_reducible show wpList _ _ _ (⟨some 21, _, _, _, _, _⟩ :: _) _ _); refine wpList_run rfl (arrV (vb zero16)) (by kernel_rfl) ?_)
          | ((with_reducible show wpList _ _ _ (⟨none, .store 22 (.tmp 6) _, _, _, _, _⟩ :: _) _ _); refine wpList_storeN rfl _ _ _ rfl rfl (ys := vb zero16) rfl hb1 rfl (vb_one _) hzz ?_; intro w9 hb9 hg9)
          | fail)
        rw [hat0.out, hat1.out]
        exact bodyPost_ret (v := .tuple #[arrV (vb zero16), .int .i64 2]) (results_arr2 Try.results24 _ hb9 Try.underlying22 hzz rfl rfl) rfl ⟨rfl, below_row bw1 hg9 (Nat.le_refl _) bw1.size⟩
    · rw [if_neg hrg] at hat0 hat1
      have hneg : ¬ i < 0 := by omega
      have hbig : ¬ 65536 ≤ i := by omega
      obtain ⟨n, rfl⟩ : ∃ n : Nat, i = (n : Int) := ⟨i.toNat, by omega⟩
      rw [Int.toNat_natCast] at hat1
      have hge : decide ((65535 : Int) < (n : Int)) = false := by simp; omega
      obtain ⟨b, off, rfl⟩ : ∃ b off, B = some ⟨b, off, none⟩ := by
        obtain ⟨b, off, e, _, _⟩ := hq (by intro e; have := congrArg List.length e; rw [List.length_map, List.length_nil] at this; omega)
        exact ⟨b, off, e⟩
      have hd16 : 16 ≤ d := by omega
      have hcn : ∀ W, Below w.heap.size w W → Calls Try.prog 41 #[.slice (some ⟨b, off, none⟩) nonce.length d, .int .i64 (n : Int)] W fun e w' => e = .returned (arrV (vb (later nonce n))) ∧ Below W.heap.size W w' := fun W hW => by
        have := counter_any b off nonce d n (n : Int) rfl W hn16 (by omega) hd16 hdm (hq.on hW)
        rwa [← hn16] at this
      have hDl : (later nonce n).length = 16 := by rw [later_len, H16.out]
      have hen := Lib.hid (fun W => rencrypt_any L (later nonce n) HLl.out hDl W)
      have hEe := Lib.hid (show atB key nonce (n : Int) = encrypt L (later nonce n) by rw [hat1.out]; rfl)
      have hEl := encrypt_len L (later nonce n)
      obtain ⟨D, hD⟩ : ∃ D, D = later nonce n := ⟨_, rfl⟩
      rw [← hD] at hcn hen hEe hEl
      obtain ⟨E, hE⟩ : ∃ E, E = encrypt L D := ⟨_, rfl⟩
      rw [← hE] at hen hEe hEl
      have hszE := sizeL hEl
      have HEl := Lib.hid hEl
      have Hcn := Lib.hid hcn
      clear hrg hneg hbig hi0 hi1 hcn hn16 hd16 hD hE hDl hEl
      go_enter Try.func24, Try.ntmps24
      go_wp2_with (first
        | ((with_reducible show wpList _ _ _ (⟨some 6, _, _, _, _, _⟩ :: _) _ _); refine wpList_allocN rfl _ rfl (vb zero16) zeroV16 ?_; intro w1 hb1 bw1 hs1)
        | fail)
      refine (Hri.out _).mono ?_
      rintro e w2 ⟨rfl, rfl⟩
      go_wp2_with fail
      refine (Hsc.out _ bw1).mono ?_
      rintro e w2 ⟨rfl, b2⟩
      have bt2 := bt bw1 b2
      have hb12 := hb1.on b2
      go_wp2_with (first
        | ((with_reducible show wpList _ _ _ (⟨some 8, _, _, _, _, _⟩ :: _) _ _); refine wpList_allocN rfl _ rfl (vb Z) zR ?_; intro w3 hb3 bw3 hs3)
        | ((with_reducible show wpList _ _ _ (⟨none, .store 28 (.tmp 8) _, _, _, _, _⟩ :: _) _ _); refine wpList_storeN rfl _ _ _ rfl rfl (ys := vb L) rfl hb3 hZL.out (vb_one _) hszL ?_; intro w5 hb5 hg5; have b5 := below_row bw3 hg5 (Nat.le_refl _) bw3.size; have bt5 := bt bt2 b5; have hb15 := hb12.on b5)
        | fail)
      clear hb1 hb12 hb3 bw3 hs3 hg5 b2 b5 bt2 bw1 hs1
      refine region_inb_tail 5 (by kernel_rfl) (by kernel_rfl) ?_
      simp only [List.take_succ_cons, List.take_zero, List.drop_succ_cons, List.drop_zero]
      have inbNe := InB.some
      have inbW := @wrap_small
      have inbU := IntKind.wrap_u8'
      repeat (first | (with_reducible refine wpQuiet_nil ?_; fail) | (refine wpQuiet_loadA rfl 28 (.tmp 8) rfl rfl (fun w' hw' => hb5.on hw'.below) Try.underlying28 hszL ?_) | (refine wpQuiet_step (fun K hK => ?_); go_simp; first | (refine hK _ ?_; clear hK K) | (apply Exists.intro; refine ⟨?_, hK _ ?_⟩; (· (intro w' hw'; first | (go_at_call 41; refine (Hcn.out _ (bt bt5 hw'.below)).mono ?_; rintro e w1 ⟨rfl, b1⟩; exact ⟨rfl, hw'.on b1⟩) | (go_at_call 21; refine (hen.out _).mono ?_; rintro e w1 ⟨rfl, b1⟩; exact ⟨rfl, hw'.on b1⟩) | (have hcw := hw'.cell; go_simp; exact rfl))); clear hK K)))
      refine wpQuiet_nil ?_
      intro wq hq
      clear inbNe inbW inbU
      have m1 := hb15.on hq.below
      have btq := bt bt5 hq.below
      clear hq
      go_wp2_with (first
        | ((with_reducible show wpList _ _ _ (⟨none, .store 22 (.tmp 6) _, _, _, _, _⟩ :: _) _ _); refine wpList_storeN rfl _ _ _ rfl rfl (ys := vb E) rfl m1 (by rw [vb_len, vb_len, HEl.out]; rfl) (vb_one _) hszE ?_; intro w9 hb9 hg9)
        | fail)
      rw [hat0.out, hEe.out]
      exact bodyPost_ret (v := .tuple #[arrV (vb E), .int .i64 0]) (results_arr2 Try.results24 _ hb9 Try.underlying22 hszE rfl rfl) rfl ⟨rfl, below_row btq hg9 (Nat.le_refl _) btq.size⟩
  · have hat0 := Lib.hid (show atF key nonce i = 4 by rw [atF, if_neg hok])
    have hat1 := Lib.hid (show atB key nonce i = zero16 by rw [atB, if_neg hok])
    rw [show decide (okK key nonce) = false from decide_eq_false hok] at hri
    have Hri := Lib.hid hri
    clear hok hri
    subst hn
    subst hm
    go_enter Try.func24, Try.ntmps24
    go_wp2_with (first
      | ((with_reducible show wpList _ _ _ (⟨some 6, _, _, _, _, _⟩ :: _) _ _); refine wpList_allocN rfl _ rfl (vb zero16) zeroV16 ?_; intro w1 hb1 bw1 hs1)
      | fail)
    refine (Hri.out _).mono ?_
    rintro e w2 ⟨rfl, rfl⟩
    go_wp2_with (first
      | ((with_reducible show wpList _ _ _ (⟨some 14, _, _, _, _, _⟩ :: _) _ _); refine wpList_run rfl (arrV (vb zero16)) (by kernel_rfl) ?_)
      | ((with_reducible show wpList _ _ _ (⟨none, .store 22 (.tmp 6) _, _, _, _, _⟩ :: _) _ _); refine wpList_storeN rfl _ _ _ rfl rfl (ys := vb zero16) rfl hb1 rfl (vb_one _) hzz ?_; intro w9 hb9 hg9)
      | fail)
    rw [hat0.out, hat1.out]
    exact bodyPost_ret (v := .tuple #[arrV (vb zero16), .int .i64 4]) (results_arr2 Try.results24 _ hb9 Try.underlying22 hzz rfl rfl) rfl ⟨rfl, below_row bw1 hg9 (Nat.le_refl _) bw1.size⟩
end Go.Proofs.Yteecbjpnnklbpaa.Ctr
