/- The walk of the reference's Encrypt. -/
import Derived.Test.YteecbjpnnklbpaaAes12
namespace Go.Proofs.Yteecbjpnnklbpaa.Aes
open Go.RowKit
open Go.Proofs.Yteecbjpnnklbpaa.Gf
set_option linter.unusedVariables false
set_option maxRecDepth 100000
section
variable {P : Program}
theorem wpQuiet_loadMid {ops : Array Oper} {C : World → Prop} {Q : Act → Prop} {a : Act} {o : Oper} {rest : List Oper} (hg : o.guard = none) (t : TypeId) (x : Operand) (ho : o.op = .load t x)
    {g off : Nat} (hx : a.eval x = .pointer (some ⟨g, off, none⟩)) {xs : List Value} (hb : ∀ w, C w → w.rangeAt g off xs) {n : Nat} {e : TypeId} (hu : P.underlying t = some (.array n e)) (hi : (P.info? t).map (·.size) = some xs.length)
    (h : wpQuiet P ops C Q rest (a.put o.dst (arrV xs))) : wpQuiet P ops C Q (o :: rest) a := by
  refine wpQuiet_run hg (arrV xs) (fun w hw => ?_) h
  have := run_loadAt_mid (P := P) w g off t xs _ (hb w hw) hu rfl hi
  unfold execOp
  simp only [ho, hx]
  simp [Instr.loadAt, Instr.sureAddr, run_loadVar_mid (P := P) w g off t xs _ (hb w hw) hu rfl hi, arrV]
end
set_option maxHeartbeats 1000000 in
theorem rencrypt_any (L s : List UInt8) (hL : L.length = 240) (hs : s.length = 16) (w : World) : Calls Try.prog 21 #[arrV (vb L), arrV (vb s)] w fun e w' => e = .returned (arrV (vb (encrypt L s))) ∧ Below w.heap.size w w' := by
  have HL := Lib.hid hL
  have Hs := Lib.hid hs
  have hszL := size240 sizeR hL
  have hk0 := keyAt_len L 0 hL (by omega)
  have Hk0 := Lib.hid hk0
  have hz0 := zero16
  have hszE : ∀ l : List UInt8, l.length = 16 → (Try.prog.info? 22).map (·.size) = some (vb l).length := fun l h => sizeL h
  have HszE := Lib.hid hszE
  have hszs := sizeL hs
  have hszk := sizeL hk0
  have hadd : ∀ (a b : List UInt8), a.length = 16 → b.length = 16 → ∀ w, Calls Try.prog 16 #[arrV (vb a), arrV (vb b)] w fun e w' => e = .returned (arrV (vb (add a b))) ∧ Below w.heap.size w w' := fun a b ha hb w => radd_any a b ha hb w
  have hsub : ∀ (a : List UInt8), a.length = 16 → ∀ w, Calls Try.prog 10 #[arrV (vb a)] w fun e w' => e = .returned (arrV (vb (sub a))) ∧ Below w.heap.size w w' := fun a ha w => rsub_any a ha w
  have hshift : ∀ (a : List UInt8), a.length = 16 → ∀ w, Calls Try.prog 12 #[arrV (vb a)] w fun e w' => e = .returned (arrV (vb (shift a))) ∧ Below w.heap.size w w' := fun a ha w => rshift_any a ha w
  have hmix : ∀ (a : List UInt8), a.length = 16 → ∀ w, Calls Try.prog 14 #[arrV (vb a)] w fun e w' => e = .returned (arrV (vb (mixS a))) ∧ Below w.heap.size w w' := fun a ha w => rmix_any a ha w
  have Hadd := Lib.hid hadd
  have Hsub := Lib.hid hsub
  have Hshift := Lib.hid hshift
  have Hmix := Lib.hid hmix
  have hE0 : enc (keyAt L) s 0 = add s (keyAt L 0) := rfl
  have HE0 := Lib.hid hE0
  have hes : encrypt L s = enc (keyAt L) s 14 := rfl
  have Hes := Lib.hid hes
  have hst : ∀ k E, E = enc (keyAt L) s k → enc (keyAt L) s (k + 1) = add (if k + 1 < 14 then mixS (shift (sub E)) else shift (sub E)) (keyAt L (k + 1)) := by rintro k E rfl; rfl
  have Hst := Lib.hid hst
  clear hL hs hk0 hadd hsub hshift hmix hE0 hes hst hszE hz0
  go_enter Try.func21, Try.ntmps21
  go_wp2_with (first
    | ((with_reducible show wpList _ _ _ (⟨some 2, _, _, _, _, _⟩ :: _) _ _); refine wpList_boxN rfl _ _ rfl (vb L) rfl ?_; intro w1 hb1 bw1 hs1)
    | ((with_reducible show wpList _ _ _ (⟨some 3, _, _, _, _, _⟩ :: _) _ _); refine wpList_boxN rfl _ _ rfl (vb s) rfl ?_; intro w2 hb2 bw2 hs2; have hb12 := hb1.on bw2; have bt2 := bt bw1 bw2)
    | ((with_reducible show wpList _ _ _ (⟨some 4, _, _, _, _, _⟩ :: _) _ _); refine wpList_allocN rfl _ rfl (vb zero16) zeroV16 ?_; intro w3 hb3 bw3 hs3; have hb13 := hb12.on bw3; have hb23 := hb2.on bw3; have bt3 := bt bt2 bw3; have hrk := range_keyAt hb13 0 HL.out (by omega))
    | ((with_reducible show wpList _ _ _ (⟨some 6, _, _, _, _, _⟩ :: _) _ _); refine wpList_loadA rfl _ _ rfl rfl hb23 Try.underlying22 hszs ?_)
    | ((with_reducible show wpList _ _ _ (⟨some 8, _, _, _, _, _⟩ :: _) _ _); refine wpList_load_mid rfl _ _ rfl w.heap.size 0 rfl (vb (keyAt L 0)) _ hrk Try.underlying22 rfl hszk ?_)
    | fail)
  refine (Hadd.out s (keyAt L 0) Hs.out Hk0.out _).mono ?_
  rintro e w4 ⟨rfl, b4⟩
  have hb14 := hb13.on b4
  have hb24 := hb23.on b4
  have hb34 := hb3.on b4
  have bt4 := bt bt3 b4
  have hsz0 := HszE.out _ (add_len s (keyAt L 0))
  rw [← HE0.out] at hsz0 ⊢
  obtain ⟨E0, hE0⟩ : ∃ E, E = enc (keyAt L) s 0 := ⟨_, rfl⟩
  rw [← hE0] at hsz0 ⊢
  have hE16 : E0.length = 16 := by rw [hE0]; exact enc_len _ _ _
  have HE16 := Lib.hid hE16
  have HE0' := Lib.hid hE0
  clear hE0 hE16
  go_wp2_with (first
    | ((with_reducible show wpList _ _ _ (⟨none, .store 22 (.tmp 3) _, _, _, _, _⟩ :: _) _ _); refine wpList_storeN rfl _ _ _ rfl rfl (ys := vb E0) rfl hb24 (by rw [vb_len, vb_len, Hs.out, HE16.out]) (vb_one _) hsz0 ?_; intro w5 hb5 hg5)
    | fail)
  have l01 : w.heap.size < w1.heap.size := hs1
  have l12 : w1.heap.size < w2.heap.size := hs2
  have hb15 := hb14.grown hg5 (by simp; omega)
  have hb35 := hb34.grown hg5 (by simp; omega)
  have bt5 := below_row bt4 hg5 (by omega) bt4.size
  obtain ⟨B3, hB3⟩ : ∃ B, B = w1.heap.size := ⟨_, rfl⟩
  obtain ⟨B4, hB4⟩ : ∃ B, B = w2.heap.size := ⟨_, rfl⟩
  rw [← hB3] at hb5 l01 l12 ⊢
  rw [← hB4] at hb35 l12 ⊢
  clear hB3 hB4 hb1 hb2 hb3 hb12 hb13 hb23 hb14 hb24 hb34 bw1 bw2 bw3 b4 bt2 bt3 bt4 hs1 hs2 hs3 hg5 hrk hszk hszs hsz0
  go_wp2_with fail
  go_loopw [5] (fun i wr => ∃ (k : Nat) (k1 : Int), k ≤ 14 ∧ k1 = (k : Int) + 1 ∧ i = .int .i64 k1 ∧ Blk wr w.heap.size (vb L) ∧ (∃ E, Hid (E = enc (keyAt L) s k) ∧ Blk wr B3 (vb E)) ∧ Blk wr B4 (vb zero16) ∧ Below w.heap.size w wr) (fun i _ => 15 - (intOf i).toNat)
  case atStart => exact ⟨0, 1, by omega, rfl, rfl, hb15, ⟨E0, HE0', hb5⟩, hb35, bt5⟩
  case round =>
    obtain ⟨k, k1, hk, hk1e, rfl, d0, ⟨E, hE, d3⟩, d4, bt0⟩ := hrel
    clear hb15 hb5 hb35 bt5
    have hE16 : E.length = 16 := by rw [hE.out]; exact enc_len _ _ _
    have HE16 := Lib.hid hE16
    have hszE := HszE.out E hE16
    clear hE16
    by_cases hlt : k < 14
    · have hk1 := keyAt_len L (k + 1) HL.out (by omega)
      have hrk : ∀ W, Blk W w.heap.size (vb L) → W.rangeAt w.heap.size (16 * (k + 1)) (vb (keyAt L (k + 1))) := fun W hW => range_keyAt hW (k + 1) HL.out (by omega)
      have hstp := Lib.hid (Hst.out k E hE.out)
      obtain ⟨K, hK⟩ : ∃ K, K = keyAt L (k + 1) := ⟨_, rfl⟩
      rw [← hK] at hk1 hrk
      have hst2 := hstp.out
      rw [← hK] at hst2
      have Hst2 := Lib.hid hst2
      have Hk1 := Lib.hid hk1
      have hszK1 := HszE.out K hk1
      obtain ⟨kn, hkn⟩ : ∃ n, n = k + 1 := ⟨_, rfl⟩
      have hk1n : k1 = (kn : Int) := by omega
      subst hk1n
      rw [show 16 * (k + 1) = kn * 16 by omega] at hrk
      have HrK := Lib.hid hrk
      clear hst2 hstp hK hk1 hrk
      obtain ⟨S1, hS1⟩ : ∃ S, S = sub E := ⟨_, rfl⟩
      have hsu := Hsub.out E HE16.out
      rw [← hS1] at hsu
      have hl1 : S1.length = 16 := by rw [hS1, sub_len, HE16.out]
      obtain ⟨S2, hS2⟩ : ∃ S, S = shift S1 := ⟨_, rfl⟩
      have hsh := Hshift.out S1 hl1
      rw [← hS2] at hsh
      have hl2 : S2.length = 16 := by rw [hS2]; exact shift_len _
      obtain ⟨S3, hS3⟩ : ∃ S, S = mixS S2 := ⟨_, rfl⟩
      have hmi := Hmix.out S2 hl2
      rw [← hS3] at hmi
      have hl3 : S3.length = 16 := by rw [hS3]; exact mix_len _
      have hst2 := Hst2.out
      rw [← hS1, ← hS2, ← hS3] at hst2
      have hszS2 := HszE.out S2 hl2
      have hszS3 := HszE.out S3 hl3
      have Hl2 := Lib.hid hl2
      have Hl3 := Lib.hid hl3
      have Hsu := Lib.hid hsu
      have Hsh := Lib.hid hsh
      have Hmi := Lib.hid hmi
      clear hS1 hS2 hS3 hl1 hl2 hl3 hsu hsh hmi
      have hwk : IntKind.i64.wrap ((kn : Int) + 1) = (kn : Int) + 1 := by rw [IntKind.wrap_i64]; omega
      have hknI : (kn : Int) < 15 := by omega
      have hB3 := d3.lt
      have hB4 := d4.lt
      by_cases hk13 : k + 1 < 14
      · rw [if_pos hk13] at hst2
        obtain ⟨S4, hS4⟩ : ∃ S, S = add S3 K := ⟨_, rfl⟩
        have had := Hadd.out S3 K Hl3.out Hk1.out
        rw [← hS4] at had hst2
        have hl4 : S4.length = 16 := by rw [hS4]; exact add_len _ _
        have hszS4 := HszE.out S4 hl4
        have Hl4 := Lib.hid hl4
        have Had := Lib.hid had
        have Hst3 := Lib.hid hst2
        have h14I : (kn : Int) < 14 := by omega
        have Hkn := Lib.hid hkn
        clear hl4 had hst2 hS4 hk13 hlt hk hkn hk1e
        go_wp2_with (first
          | ((with_reducible show wpList _ _ _ (⟨some 14, _, _, _, _, _⟩ :: _) _ _); refine wpList_loadA rfl _ _ rfl rfl d3 Try.underlying22 hszE ?_)
          | fail)
        refine (Hsu.out _).mono ?_
        rintro e w3 ⟨rfl, b3⟩
        go_wp2_with fail
        refine (Hsh.out _).mono ?_
        rintro e w4 ⟨rfl, b4⟩
        have b34 := bt b3 b4
        have g0 := d0.on b34
        have g3 := d3.on b34
        have g4 := d4.on b34
        have bt4 := bt bt0 b34
        clear d3 d4 b3 b4
        go_wp2_with (first
          | ((with_reducible show wpList _ _ _ (⟨none, .store 22 (.tmp 3) _, _, _, _, _⟩ :: _) _ _); refine wpList_storeN rfl _ _ _ rfl rfl (ys := vb S2) rfl g3 (by rw [vb_len, vb_len, HE16.out, Hl2.out]) (vb_one _) hszS2 ?_; intro w5 hb5 hg5)
          | ((with_reducible show wpList _ _ _ (⟨some 19, _, _, _, _, _⟩ :: _) _ _); refine wpList_loadA rfl _ _ rfl rfl hb5 Try.underlying22 hszS2 ?_)
          | fail)
        refine (Hmi.out _).mono ?_
        rintro e w6 ⟨rfl, b6⟩
        have i0 := (g0.grown hg5 (by simp; omega)).on b6
        have i4 := (g4.grown hg5 (by simp; omega)).on b6
        have i3 := hb5.on b6
        have bt6 := bt (below_row bt4 hg5 (by omega) bt4.size) b6
        clear g0 g3 g4 hb5 hg5 bt4 b6
        go_wp2_with (first
          | ((with_reducible show wpList _ _ _ (⟨none, .store 22 (.tmp 3) _, _, _, _, _⟩ :: _) _ _); refine wpList_storeN rfl _ _ _ rfl rfl (ys := vb S3) rfl i3 (by rw [vb_len, vb_len, Hl2.out, Hl3.out]) (vb_one _) hszS3 ?_; intro w7 hb7 hg7)
          | fail)
        have j0 := i0.grown hg7 (by simp; omega)
        have j4 := i4.grown hg7 (by simp; omega)
        have bt7 := below_row bt6 hg7 (by omega) bt6.size
        clear i0 i3 i4 bt6 hg7
        have hkm := HrK.out _ j0
        have HK := Lib.hid hkm
        clear hkm
        refine region_inb_tail 5 (by kernel_rfl) (by kernel_rfl) ?_
        simp only [List.take_succ_cons, List.take_zero, List.drop_succ_cons, List.drop_zero]
        have inbNe := InB.some
        have inbW := @wrap_small
        have inbU := IntKind.wrap_u8'
        repeat (first | (with_reducible refine wpQuiet_nil ?_; fail) | ((with_reducible show wpQuiet _ _ _ _ (⟨some 21, _, _, _, _, _⟩ :: _) _); refine wpQuiet_loadA rfl 22 _ rfl rfl (fun w' hw' => hb7.on hw'.below) Try.underlying22 hszS3 ?_) | ((with_reducible show wpQuiet _ _ _ _ (⟨some 24, _, _, _, _, _⟩ :: _) _); refine wpQuiet_loadMid rfl 22 _ rfl (g := w.heap.size) (off := kn * 16) rfl (fun w' hw' => HrK.out _ (j0.on hw'.below)) Try.underlying22 hszK1 ?_) | (refine wpQuiet_step (fun K hK => ?_); go_simp; first | (refine hK _ ?_; clear hK K) | (apply Exists.intro; refine ⟨?_, hK _ ?_⟩; (· (intro w' hw'; first | (go_at_call 16; refine (Had.out _).mono ?_; rintro e w1 ⟨rfl, b1⟩; exact ⟨rfl, hw'.on b1⟩) | (have hcw := hw'.cell; go_simp; exact rfl))); clear hK K)))
        refine wpQuiet_nil ?_
        intro wq hq
        clear inbNe inbW inbU
        have m0 := j0.on hq.below
        have m3 := hb7.on hq.below
        have m4 := j4.on hq.below
        have btq := bt bt7 hq.below
        clear hq j0 hb7 j4 bt7
        refine wpList_storeN rfl 22 _ _ rfl rfl (ys := vb S4) rfl m3 (by rw [vb_len, vb_len, Hl3.out, Hl4.out]) (vb_one _) hszS4 ?_
        intro w9 hb9 hg9
        go_wp2
        go_roundw
        case rel => exact ⟨k + 1, (kn : Int) + 1, by have := Hkn.out; omega, by have := Hkn.out; omega, rfl, m0.grown hg9 (by simp; omega), ⟨S4, Lib.hid Hst3.out.symm, hb9⟩, m4.grown hg9 (by simp; omega), below_row btq hg9 (by omega) btq.size⟩
        case measure => simp [intOf]; omega
      · rw [if_neg hk13] at hst2
        obtain ⟨S4, hS4⟩ : ∃ S, S = add S2 K := ⟨_, rfl⟩
        have had := Hadd.out S2 K Hl2.out Hk1.out
        rw [← hS4] at had hst2
        have hl4 : S4.length = 16 := by rw [hS4]; exact add_len _ _
        have hszS4 := HszE.out S4 hl4
        have Hl4 := Lib.hid hl4
        have Had := Lib.hid had
        have Hst3 := Lib.hid hst2
        have h14I : (kn : Int) ≥ 14 := by omega
        have Hkn := Lib.hid hkn
        clear hl4 had hst2 hS4 hk13 hlt hk hkn hk1e
        go_wp2_with (first
          | ((with_reducible show wpList _ _ _ (⟨some 14, _, _, _, _, _⟩ :: _) _ _); refine wpList_loadA rfl _ _ rfl rfl d3 Try.underlying22 hszE ?_)
          | fail)
        refine (Hsu.out _).mono ?_
        rintro e w3 ⟨rfl, b3⟩
        go_wp2_with fail
        refine (Hsh.out _).mono ?_
        rintro e w4 ⟨rfl, b4⟩
        have b34 := bt b3 b4
        have g0 := d0.on b34
        have g3 := d3.on b34
        have g4 := d4.on b34
        have bt4 := bt bt0 b34
        clear d3 d4 b3 b4
        go_wp2_with (first
          | ((with_reducible show wpList _ _ _ (⟨none, .store 22 (.tmp 3) _, _, _, _, _⟩ :: _) _ _); refine wpList_storeN rfl _ _ _ rfl rfl (ys := vb S2) rfl g3 (by rw [vb_len, vb_len, HE16.out, Hl2.out]) (vb_one _) hszS2 ?_; intro w7 hb7 hg7)
          | fail)
        have j0 := g0.grown hg7 (by simp; omega)
        have j4 := g4.grown hg7 (by simp; omega)
        have bt7 := below_row bt4 hg7 (by omega) bt4.size
        clear g0 g3 g4 bt4 hg7
        have hkm := HrK.out _ j0
        have HK := Lib.hid hkm
        clear hkm
        refine region_inb_tail 5 (by kernel_rfl) (by kernel_rfl) ?_
        simp only [List.take_succ_cons, List.take_zero, List.drop_succ_cons, List.drop_zero]
        have inbNe := InB.some
        have inbW := @wrap_small
        have inbU := IntKind.wrap_u8'
        repeat (first | (with_reducible refine wpQuiet_nil ?_; fail) | ((with_reducible show wpQuiet _ _ _ _ (⟨some 21, _, _, _, _, _⟩ :: _) _); refine wpQuiet_loadA rfl 22 _ rfl rfl (fun w' hw' => hb7.on hw'.below) Try.underlying22 hszS2 ?_) | ((with_reducible show wpQuiet _ _ _ _ (⟨some 24, _, _, _, _, _⟩ :: _) _); refine wpQuiet_loadMid rfl 22 _ rfl (g := w.heap.size) (off := kn * 16) rfl (fun w' hw' => HrK.out _ (j0.on hw'.below)) Try.underlying22 hszK1 ?_) | (refine wpQuiet_step (fun K hK => ?_); go_simp; first | (refine hK _ ?_; clear hK K) | (apply Exists.intro; refine ⟨?_, hK _ ?_⟩; (· (intro w' hw'; first | (go_at_call 16; refine (Had.out _).mono ?_; rintro e w1 ⟨rfl, b1⟩; exact ⟨rfl, hw'.on b1⟩) | (have hcw := hw'.cell; go_simp; exact rfl))); clear hK K)))
        refine wpQuiet_nil ?_
        intro wq hq
        clear inbNe inbW inbU
        have m0 := j0.on hq.below
        have m3 := hb7.on hq.below
        have m4 := j4.on hq.below
        have btq := bt bt7 hq.below
        clear hq j0 hb7 j4 bt7
        refine wpList_storeN rfl 22 _ _ rfl rfl (ys := vb S4) rfl m3 (by rw [vb_len, vb_len, Hl2.out, Hl4.out]) (vb_one _) hszS4 ?_
        intro w9 hb9 hg9
        go_wp2
        go_roundw
        case rel => exact ⟨k + 1, (kn : Int) + 1, by have := Hkn.out; omega, by have := Hkn.out; omega, rfl, m0.grown hg9 (by simp; omega), ⟨S4, Lib.hid Hst3.out.symm, hb9⟩, m4.grown hg9 (by simp; omega), below_row btq hg9 (by omega) btq.size⟩
        case measure => simp [intOf]; omega
    · obtain rfl : k = 14 := by omega
      obtain rfl : k1 = 15 := by omega
      go_wp2_with (first
        | ((with_reducible show wpList _ _ _ (⟨some 26, _, _, _, _, _⟩ :: _) _ _); refine wpList_loadA rfl _ _ rfl rfl d3 Try.underlying22 hszE ?_)
        | ((with_reducible show wpList _ _ _ (⟨none, .store 22 (.tmp 4) _, _, _, _, _⟩ :: _) _ _); refine wpList_storeN rfl _ _ _ rfl rfl (ys := vb E) rfl d4 (by rw [vb_len, vb_len, HE16.out]; rfl) (vb_one _) hszE ?_; intro w9 hb9 hg9)
        | fail)
      rw [Hes.out, ← hE.out]
      exact bodyPost_ret (v := arrV (vb E)) (results_arr Try.results21 _ hb9 Try.underlying22 hszE rfl) rfl ⟨rfl, below_row bt0 hg9 (by omega) bt0.size⟩
end Go.Proofs.Yteecbjpnnklbpaa.Aes
