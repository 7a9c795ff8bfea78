/- The walk of aes.Encrypt. -/
import Derived.Test.YteecbjpnnklbpaaAes9
namespace Go.Proofs.Yteecbjpnnklbpaa.Aes
open Go.RowKit
open Go.Proofs.Yteecbjpnnklbpaa.Gf
set_option linter.unusedVariables false
set_option maxRecDepth 100000
set_option maxHeartbeats 1000000 in
theorem encrypt_any (L s : List UInt8) (hL : L.length = 240) (hs : s.length = 16) (w : World) : Calls Try.prog 20 #[arrV (vb L), arrV (vb s)] w fun e w' => e = .returned (arrV (vb (encrypt L s))) ∧ Below w.heap.size w w' := by
  have HL := Lib.hid hL
  have Hs := Lib.hid hs
  have hszL := size240 sizeK hL
  have hk0 := keyAt_len L 0 hL (by omega)
  have Hk0 := Lib.hid hk0
  have hz0 := zero16
  have hszE : ∀ l : List UInt8, l.length = 16 → (Try.prog.info? 22).map (·.size) = some (vb l).length := fun l h => sizeL h
  have HszE := Lib.hid hszE
  have hszs := sizeL hs
  have hszk := sizeL hk0
  have hadd : ∀ (a b : List UInt8), a.length = 16 → b.length = 16 → ∀ w, Calls Try.prog 15 #[arrV (vb a), arrV (vb b)] w fun e w' => e = .returned (arrV (vb (add a b))) ∧ Below w.heap.size w w' := fun a b ha hb w => add_any a b ha hb w
  have hsub : ∀ (a : List UInt8), a.length = 16 → ∀ w, Calls Try.prog 9 #[arrV (vb a)] w fun e w' => e = .returned (arrV (vb (sub a))) ∧ Below w.heap.size w w' := fun a ha w => sub_any a ha w
  have hshift : ∀ (a : List UInt8), a.length = 16 → ∀ w, Calls Try.prog 11 #[arrV (vb a)] w fun e w' => e = .returned (arrV (vb (shift a))) ∧ Below w.heap.size w w' := fun a ha w => shift_any a ha w
  have hmix : ∀ (a : List UInt8), a.length = 16 → ∀ w, Calls Try.prog 13 #[arrV (vb a)] w fun e w' => e = .returned (arrV (vb (mixS a))) ∧ Below w.heap.size w w' := fun a ha w => mix_any a ha w
  have Hadd := Lib.hid hadd
  have Hsub := Lib.hid hsub
  have Hshift := Lib.hid hshift
  have Hmix := Lib.hid hmix
  have hval : ∀ w, Sem.run Try.prog (callFunc 13 #[]) w = .ok (.enter 13 #[]) w := by intro w; simp [go_sem]
  have hE0 : enc (keyAt L) s 0 = add s (keyAt L 0) := rfl
  have HE0 := Lib.hid hE0
  have hes : encrypt L s = enc (keyAt L) s 14 := rfl
  have Hes := Lib.hid hes
  have hst : ∀ k E, E = enc (keyAt L) s k → enc (keyAt L) s (k + 1) = add (if k + 1 < 14 then mixS (shift (sub E)) else shift (sub E)) (keyAt L (k + 1)) := by rintro k E rfl; rfl
  have Hst := Lib.hid hst
  clear hL hs hk0 hadd hsub hshift hmix hE0 hes hst hszE hz0
  go_enter Try.func20, Try.ntmps20
  go_wp2_with (first
    | ((with_reducible show wpList _ _ _ (⟨some 2, _, _, _, _, _⟩ :: _) _ _); refine wpList_boxN rfl _ _ rfl (vb L) rfl ?_; intro w1 hb1 bw1 hs1)
    | ((with_reducible show wpList _ _ _ (⟨some 3, _, _, _, _, _⟩ :: _) _ _); refine wpList_boxN rfl _ _ rfl (vb s) rfl ?_; intro w2 hb2 bw2 hs2; have hb12 := hb1.on bw2; have bt2 := bt bw1 bw2)
    | ((with_reducible show wpList _ _ _ (⟨some 4, _, _, _, _, _⟩ :: _) _ _); refine wpList_allocN rfl _ rfl (vb zero16) zeroV16 ?_; intro w3 hb3 bw3 hs3; have hb13 := hb12.on bw3; have hb23 := hb2.on bw3; have bt3 := bt bt2 bw3; have hrk := range_keyAt hb13 0 HL.out (by omega))
    | ((with_reducible show wpList _ _ _ (⟨some 8, _, _, _, _, _⟩ :: _) _ _); refine wpList_loadA rfl _ _ rfl rfl hb23 Try.underlying22 hszs ?_)
    | ((with_reducible show wpList _ _ _ (⟨some 10, _, _, _, _, _⟩ :: _) _ _); refine wpList_load_mid rfl _ _ rfl w.heap.size 0 rfl (vb (keyAt L 0)) _ hrk Try.underlying22 rfl hszk ?_)
    | fail)
  refine (Hadd.out s (keyAt L 0) Hs.out Hk0.out _).mono ?_
  rintro e w4 ⟨rfl, b4⟩
  have hb14 := hb13.on b4
  have hb24 := hb23.on b4
  have hb34 := hb3.on b4
  have bt4 := bt bt3 b4
  have hsz0 := HszE.out _ (add_len s (keyAt L 0))
  rw [← HE0.out] at hsz0 ⊢
  obtain ⟨E0, hE0⟩ : ∃ E, E = enc (keyAt L) s 0 := ⟨_, rfl⟩
  rw [← hE0] at hsz0 ⊢
  have hE16 : E0.length = 16 := by rw [hE0]; exact enc_len _ _ _
  have HE16 := Lib.hid hE16
  have HE0' := Lib.hid hE0
  clear hE0 hE16
  go_wp2_with (first
    | ((with_reducible show wpList _ _ _ (⟨none, .store 22 (.tmp 3) _, _, _, _, _⟩ :: _) _ _); refine wpList_storeN rfl _ _ _ rfl rfl (ys := vb E0) rfl hb24 (by rw [vb_len, vb_len, Hs.out, HE16.out]) (vb_one _) hsz0 ?_; intro w5 hb5 hg5)
    | fail)
  have l01 : w.heap.size < w1.heap.size := hs1
  have l12 : w1.heap.size < w2.heap.size := hs2
  have hb15 := hb14.grown hg5 (by simp; omega)
  have hb35 := hb34.grown hg5 (by simp; omega)
  have bt5 := below_row bt4 hg5 (by omega) bt4.size
  obtain ⟨B3, hB3⟩ : ∃ B, B = w1.heap.size := ⟨_, rfl⟩
  obtain ⟨B4, hB4⟩ : ∃ B, B = w2.heap.size := ⟨_, rfl⟩
  rw [← hB3] at hb5 l01 l12 ⊢
  rw [← hB4] at hb35 l12 ⊢
  clear hB3 hB4 hb1 hb2 hb3 hb12 hb13 hb23 hb14 hb24 hb34 bw1 bw2 bw3 b4 bt2 bt3 bt4 hs1 hs2 hs3 hg5 hrk hszk hszs hsz0
  go_wp2_with fail
  go_loopw [14] (fun i wr => ∃ k : Nat, k ≤ 14 ∧ i = .int .i64 k ∧ Blk wr w.heap.size (vb L) ∧ (∃ E, Hid (E = enc (keyAt L) s k) ∧ Blk wr B3 (vb E)) ∧ Blk wr B4 (vb zero16) ∧ Below w.heap.size w wr) (fun i _ => 14 - (intOf i).toNat)
  case atStart => exact ⟨0, by omega, rfl, hb15, ⟨E0, HE0', hb5⟩, hb35, bt5⟩
  case round =>
    obtain ⟨k, hk, rfl, d0, ⟨E, hE, d3⟩, d4, bt0⟩ := hrel
    clear hb15 hb5 hb35 bt5
    have hE16 : E.length = 16 := by rw [hE.out]; exact enc_len _ _ _
    have HE16 := Lib.hid hE16
    have hszE := HszE.out E hE16
    clear hE16
    by_cases hlt : k < 14
    · have hk1 := keyAt_len L (k + 1) HL.out (by omega)
      have hrk := range_keyAt d0 (k + 1) HL.out (by omega)
      have hstp := Lib.hid (Hst.out k E hE.out)
      obtain ⟨K, hK⟩ : ∃ K, K = keyAt L (k + 1) := ⟨_, rfl⟩
      rw [← hK] at hk1 hrk
      have hst2 := hstp.out
      rw [← hK] at hst2
      have Hst2 := Lib.hid hst2
      have Hk1 := Lib.hid hk1
      have hszK1 := HszE.out K hk1
      rw [show 16 * (k + 1) = 16 + k * 16 by omega] at hrk
      clear hst2 hstp hK hk1
      obtain ⟨S1, hS1⟩ : ∃ S, S = sub E := ⟨_, rfl⟩
      have hsu := Hsub.out E HE16.out
      rw [← hS1] at hsu
      have hl1 : S1.length = 16 := by rw [hS1, sub_len, HE16.out]
      obtain ⟨S2, hS2⟩ : ∃ S, S = shift S1 := ⟨_, rfl⟩
      have hsh := Hshift.out S1 hl1
      rw [← hS2] at hsh
      have hl2 : S2.length = 16 := by rw [hS2]; exact shift_len _
      obtain ⟨S3, hS3⟩ : ∃ S, S = mixS S2 := ⟨_, rfl⟩
      have hmi := Hmix.out S2 hl2
      rw [← hS3] at hmi
      have hl3 : S3.length = 16 := by rw [hS3]; exact mix_len _
      have hst2 := Hst2.out
      rw [← hS1, ← hS2, ← hS3] at hst2
      have hszS2 := HszE.out S2 hl2
      have hszS3 := HszE.out S3 hl3
      have Hl2 := Lib.hid hl2
      have Hl3 := Lib.hid hl3
      have Hsu := Lib.hid hsu
      have Hsh := Lib.hid hsh
      have Hmi := Lib.hid hmi
      clear hS1 hS2 hS3 hl1 hl2 hl3 hsu hsh hmi
      have hwk : IntKind.i64.wrap ((k : Int) + 1) = ((k + 1 : Nat) : Int) := by rw [IntKind.wrap_i64]; omega
      have hB3 := d3.lt
      have hB4 := d4.lt
      by_cases hk13 : k + 1 < 14
      · rw [if_pos hk13] at hst2
        obtain ⟨S4, hS4⟩ : ∃ S, S = add S3 K := ⟨_, rfl⟩
        have had := Hadd.out S3 K Hl3.out Hk1.out
        rw [← hS4] at had hst2
        have hl4 : S4.length = 16 := by rw [hS4]; exact add_len _ _
        have hszS4 := HszE.out S4 hl4
        have Hl4 := Lib.hid hl4
        have Had := Lib.hid had
        have Hst3 := Lib.hid hst2
        obtain ⟨k1, hk1⟩ : ∃ j, j = k + 1 := ⟨_, rfl⟩
        have hk1I : (k1 : Int) < 14 := by omega
        rw [← hk1] at hwk
        have Hk1e := Lib.hid hk1
        have hltI : (k : Int) < 14 := by omega
        clear hl4 had hst2 hS4 hk13 hk1 hlt hk
        go_wp2_with (first
          | ((with_reducible show wpList _ _ _ (⟨some 18, _, _, _, _, _⟩ :: _) _ _); refine wpList_load_mid rfl _ _ rfl w.heap.size (16 + k * 16) rfl (vb K) _ hrk Try.underlying22 rfl hszK1 ?_)
          | ((with_reducible show wpList _ _ _ (⟨some 7, _, _, _, _, _⟩ :: _) _ _); refine wpList_allocN rfl _ rfl (vb zero16) zeroV16 ?_; intro w1 hb1 bw1 hs1)
          | ((with_reducible show wpList _ _ _ (⟨none, .store 22 (.tmp 7) _, _, _, _, _⟩ :: _) _ _); refine wpList_storeN rfl _ _ _ rfl rfl (ys := vb K) rfl hb1 (by rw [vb_len, vb_len, Hk1.out]; rfl) (vb_one _) hszK1 ?_; intro w2 hb2 hg2; have bt2 := below_row bw1 hg2 (Nat.le_refl _) bw1.size; have f3 := d3.on bt2)
          | ((with_reducible show wpList _ _ _ (⟨some 19, _, _, _, _, _⟩ :: _) _ _); refine wpList_loadA rfl _ _ rfl rfl f3 Try.underlying22 hszE ?_)
          | fail)
        have f0 := d0.on bt2
        have f4 := d4.on bt2
        have btm := bt bt0 bt2
        have l7 : B4 < wr.heap.size := hB4
        obtain ⟨B7, hB7⟩ : ∃ B, B = wr.heap.size := ⟨_, rfl⟩
        rw [← hB7] at hb2 l7 ⊢
        clear hB7 hb1 bw1 hs1 hg2 bt2 d0 d3 d4 bt0 hrk
        refine (Hsu.out _).mono ?_
        rintro e w3 ⟨rfl, b3⟩
        go_wp2_with fail
        refine (Hsh.out _).mono ?_
        rintro e w4 ⟨rfl, b4⟩
        have b34 := bt b3 b4
        have g0 := f0.on b34
        have g3 := f3.on b34
        have g4 := f4.on b34
        have g7 := hb2.on b34
        have bt4 := bt btm b34
        clear f0 f3 f4 hb2 btm b3 b4 b34
        go_wp2_with (first
          | ((with_reducible show wpList _ _ _ (⟨none, .store 22 (.tmp 3) _, _, _, _, _⟩ :: _) _ _); refine wpList_storeN rfl _ _ _ rfl rfl (ys := vb S2) rfl g3 (by rw [vb_len, vb_len, HE16.out, Hl2.out]) (vb_one _) hszS2 ?_; intro w5 hb5 hg5)
          | ((with_reducible show wpList _ _ _ (⟨some 26, _, _, _, _, _⟩ :: _) _ _); refine wpList_loadA rfl _ _ rfl rfl hb5 Try.underlying22 hszS2 ?_)
          | fail)
        refine (Hmi.out _).mono ?_
        rintro e w6 ⟨rfl, b6⟩
        have i0 := (g0.grown hg5 (by simp; omega)).on b6
        have i4 := (g4.grown hg5 (by simp; omega)).on b6
        have i7 := (g7.grown hg5 (by simp; omega)).on b6
        have i3 := hb5.on b6
        have bt6 := bt (below_row bt4 hg5 (by omega) bt4.size) b6
        clear g0 g3 g4 g7 hb5 hg5 bt4 b6
        go_wp2_with (first
          | ((with_reducible show wpList _ _ _ (⟨none, .store 22 (.tmp 3) _, _, _, _, _⟩ :: _) _ _); refine wpList_storeN rfl _ _ _ rfl rfl (ys := vb S3) rfl i3 (by rw [vb_len, vb_len, Hl2.out, Hl3.out]) (vb_one _) hszS3 ?_; intro w7 hb7 hg7; have j7 := i7.grown hg7 (by simp; omega))
          | ((with_reducible show wpList _ _ _ (⟨some 28, _, _, _, _, _⟩ :: _) _ _); refine wpList_loadA rfl _ _ rfl rfl hb7 Try.underlying22 hszS3 ?_)
          | ((with_reducible show wpList _ _ _ (⟨some 29, _, _, _, _, _⟩ :: _) _ _); refine wpList_loadA rfl _ _ rfl rfl j7 Try.underlying22 hszK1 ?_)
          | fail)
        have j0 := i0.grown hg7 (by simp; omega)
        have j4 := i4.grown hg7 (by simp; omega)
        have bt7 := below_row bt6 hg7 (by omega) bt6.size
        refine (Had.out _).mono ?_
        rintro e w8 ⟨rfl, b8⟩
        have j3 := hb7.on b8
        have bt8 := bt bt7 b8
        go_wp2_with (first
          | ((with_reducible show wpList _ _ _ (⟨none, .store 22 (.tmp 3) _, _, _, _, _⟩ :: _) _ _); refine wpList_storeN rfl _ _ _ rfl rfl (ys := vb S4) rfl j3 (by rw [vb_len, vb_len, Hl3.out, Hl4.out]) (vb_one _) hszS4 ?_; intro w9 hb9 hg9)
          | fail)
        go_roundw
        case rel => exact ⟨k + 1, by have := Hk1e.out; omega, (by rw [Hk1e.out]), (j0.on b8).grown hg9 (by simp; omega), ⟨S4, Lib.hid Hst3.out.symm, hb9⟩, (j4.on b8).grown hg9 (by simp; omega), below_row bt8 hg9 (by omega) bt8.size⟩
        case measure => simp [intOf]; have := Hk1e.out; omega
      · rw [if_neg hk13] at hst2
        obtain ⟨S4, hS4⟩ : ∃ S, S = add S2 K := ⟨_, rfl⟩
        have had := Hadd.out S2 K Hl2.out Hk1.out
        rw [← hS4] at had hst2
        have hl4 : S4.length = 16 := by rw [hS4]; exact add_len _ _
        have hszS4 := HszE.out S4 hl4
        have Hl4 := Lib.hid hl4
        have Had := Lib.hid had
        have Hst3 := Lib.hid hst2
        obtain ⟨k1, hk1⟩ : ∃ j, j = k + 1 := ⟨_, rfl⟩
        have hk1I : (k1 : Int) ≥ 14 := by omega
        rw [← hk1] at hwk
        have Hk1e := Lib.hid hk1
        have hltI : (k : Int) < 14 := by omega
        clear hl4 had hst2 hS4 hk13 hk1 hlt hk
        go_wp2_with (first
          | ((with_reducible show wpList _ _ _ (⟨some 18, _, _, _, _, _⟩ :: _) _ _); refine wpList_load_mid rfl _ _ rfl w.heap.size (16 + k * 16) rfl (vb K) _ hrk Try.underlying22 rfl hszK1 ?_)
          | ((with_reducible show wpList _ _ _ (⟨some 7, _, _, _, _, _⟩ :: _) _ _); refine wpList_allocN rfl _ rfl (vb zero16) zeroV16 ?_; intro w1 hb1 bw1 hs1)
          | ((with_reducible show wpList _ _ _ (⟨none, .store 22 (.tmp 7) _, _, _, _, _⟩ :: _) _ _); refine wpList_storeN rfl _ _ _ rfl rfl (ys := vb K) rfl hb1 (by rw [vb_len, vb_len, Hk1.out]; rfl) (vb_one _) hszK1 ?_; intro w2 hb2 hg2; have bt2 := below_row bw1 hg2 (Nat.le_refl _) bw1.size; have f3 := d3.on bt2)
          | ((with_reducible show wpList _ _ _ (⟨some 19, _, _, _, _, _⟩ :: _) _ _); refine wpList_loadA rfl _ _ rfl rfl f3 Try.underlying22 hszE ?_)
          | fail)
        have f0 := d0.on bt2
        have f4 := d4.on bt2
        have btm := bt bt0 bt2
        have l7 : B4 < wr.heap.size := hB4
        obtain ⟨B7, hB7⟩ : ∃ B, B = wr.heap.size := ⟨_, rfl⟩
        rw [← hB7] at hb2 l7 ⊢
        clear hB7 hb1 bw1 hs1 hg2 bt2 d0 d3 d4 bt0 hrk
        refine (Hsu.out _).mono ?_
        rintro e w3 ⟨rfl, b3⟩
        go_wp2_with fail
        refine (Hsh.out _).mono ?_
        rintro e w4 ⟨rfl, b4⟩
        have b34 := bt b3 b4
        have g0 := f0.on b34
        have g3 := f3.on b34
        have g4 := f4.on b34
        have g7 := hb2.on b34
        have bt4 := bt btm b34
        clear f0 f3 f4 hb2 btm b3 b4 b34
        go_wp2_with (first
          | ((with_reducible show wpList _ _ _ (⟨none, .store 22 (.tmp 3) _, _, _, _, _⟩ :: _) _ _); refine wpList_storeN rfl _ _ _ rfl rfl (ys := vb S2) rfl g3 (by rw [vb_len, vb_len, HE16.out, Hl2.out]) (vb_one _) hszS2 ?_; intro w7 hb7 hg7; have j7 := g7.grown hg7 (by simp; omega))
          | ((with_reducible show wpList _ _ _ (⟨some 28, _, _, _, _, _⟩ :: _) _ _); refine wpList_loadA rfl _ _ rfl rfl hb7 Try.underlying22 hszS2 ?_)
          | ((with_reducible show wpList _ _ _ (⟨some 29, _, _, _, _, _⟩ :: _) _ _); refine wpList_loadA rfl _ _ rfl rfl j7 Try.underlying22 hszK1 ?_)
          | fail)
        have j0 := g0.grown hg7 (by simp; omega)
        have j4 := g4.grown hg7 (by simp; omega)
        have bt7 := below_row bt4 hg7 (by omega) bt4.size
        refine (Had.out _).mono ?_
        rintro e w8 ⟨rfl, b8⟩
        have j3 := hb7.on b8
        have bt8 := bt bt7 b8
        go_wp2_with (first
          | ((with_reducible show wpList _ _ _ (⟨none, .store 22 (.tmp 3) _, _, _, _, _⟩ :: _) _ _); refine wpList_storeN rfl _ _ _ rfl rfl (ys := vb S4) rfl j3 (by rw [vb_len, vb_len, Hl2.out, Hl4.out]) (vb_one _) hszS4 ?_; intro w9 hb9 hg9)
          | fail)
        go_roundw
        case rel => exact ⟨k + 1, by have := Hk1e.out; omega, (by rw [Hk1e.out]), (j0.on b8).grown hg9 (by simp; omega), ⟨S4, Lib.hid Hst3.out.symm, hb9⟩, (j4.on b8).grown hg9 (by simp; omega), below_row bt8 hg9 (by omega) bt8.size⟩
        case measure => simp [intOf]; have := Hk1e.out; omega
    · obtain rfl : k = 14 := by omega
      go_wp2_with (first
        | ((with_reducible show wpList _ _ _ (⟨some 32, _, _, _, _, _⟩ :: _) _ _); refine wpList_loadA rfl _ _ rfl rfl d3 Try.underlying22 hszE ?_)
        | ((with_reducible show wpList _ _ _ (⟨none, .store 22 (.tmp 4) _, _, _, _, _⟩ :: _) _ _); refine wpList_storeN rfl _ _ _ rfl rfl (ys := vb E) rfl d4 (by rw [vb_len, vb_len, HE16.out]; rfl) (vb_one _) hszE ?_; intro w9 hb9 hg9)
        | fail)
      rw [Hes.out, ← hE.out]
      exact bodyPost_ret (v := arrV (vb E)) (results_arr Try.results20 _ hb9 Try.underlying22 hszE rfl) rfl ⟨rfl, below_row bt0 hg9 (by omega) bt0.size⟩
end Go.Proofs.Yteecbjpnnklbpaa.Aes
