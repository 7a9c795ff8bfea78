/- AesBack: for every input the law returns true: rows shifted four times, columns mixed four times, and keys added twice leave a state as it was, and unlike blocks are encrypted to unlike ones. No condition. -/
import Derived.Test.YteecbjpnnklbpaaAes15
import Derived.Test.YteecbjpnnklbpaaOpen
import Derived.Test.YteecbjpnnklbpaaRegion
namespace Go.Proofs.Yteecbjpnnklbpaa.AesBack
open Go.ChangeShapes Go.WideShapes Go.ChangeAt Go.RowKit Go.Joins
open Go.ChangeMaps (open_string shut_string)
open Go.Proofs.Yteecbjpnnklbpaa.Aes
set_option linter.unusedVariables false

set_option maxRecDepth 100000 in
set_option maxHeartbeats 1000000 in
theorem walk (A : Option Addr) (l : List UInt8) (c : Nat) (s t : List UInt8) (w : World)
    (ha : Rd w w.heap.size A (l.map e8)) (hc : l.length ≤ c) (hcm : c ≤ maxLen) (hs : s.length = 16) (ht : t.length = 16) :
    Calls Try.prog 5 #[.slice A l.length c, arrV (vb s), arrV (vb t)] w fun e w' => e = .returned (.bool true) ∧ Below w.heap.size w w' := by
  have hszs := sizeL hs
  have hszt := sizeL ht
  by_cases hlen : l.length = 32
  · have hsc : ∀ W, Below w.heap.size w W → Calls Try.prog 18 #[.slice A 32 c] W fun e w' => e = .returned (.tuple #[arrV (vb (keysOf l)), .int .i64 0]) ∧ Below W.heap.size W w' := fun W hW => by
      have := schedule_any A l 32 c W hlen.symm (by omega) hcm (ha.on hW)
      rwa [if_pos hlen] at this
    have hL := keysOf_len l
    obtain ⟨L, hLe⟩ : ∃ L, L = keysOf l := ⟨_, rfl⟩
    rw [← hLe] at hsc hL
    rw [hlen]
    clear hLe hlen hc
    have hsh : ∀ (a : List UInt8), a.length = 16 → ∀ w, Calls Try.prog 11 #[arrV (vb a)] w fun e w' => e = .returned (arrV (vb (shift a))) ∧ Below w.heap.size w w' := fun a ha w => shift_any a ha w
    have hmi : ∀ (a : List UInt8), a.length = 16 → ∀ w, Calls Try.prog 13 #[arrV (vb a)] w fun e w' => e = .returned (arrV (vb (mixS a))) ∧ Below w.heap.size w w' := fun a ha w => mix_any a ha w
    have had : ∀ (a b : List UInt8), a.length = 16 → b.length = 16 → ∀ w, Calls Try.prog 15 #[arrV (vb a), arrV (vb b)] w fun e w' => e = .returned (arrV (vb (add a b))) ∧ Below w.heap.size w w' := fun a b ha hb w => add_any a b ha hb w
    have s1 := hsh s hs
    have s2 := hsh _ (shift_len s)
    have s3 := hsh _ (shift_len (shift s))
    have s4 := hsh _ (shift_len (shift (shift s)))
    rw [shift4 s hs] at s4
    have m1 := hmi s hs
    have m2 := hmi _ (mix_len s)
    have m3 := hmi _ (mix_len (mixS s))
    have m4 := hmi _ (mix_len (mixS (mixS s)))
    rw [mixS4 s hs] at m4
    have a1 := had s t hs ht
    have a2 := had _ t (add_len s t) ht
    rw [add_add s t hs] at a2
    have e1 := encrypt_any L s hL hs
    have e2 := encrypt_any L t hL ht
    have n1 := ne16 s hs
    have g1 := grd16 .neq s s
    have i1 := is16 s t hs ht
    have j1 := grd16 .eql s t
    have i2 := is16 (encrypt L s) (encrypt L t) (encrypt_len _ _) (encrypt_len _ _)
    have j2 := grd16 .eql (encrypt L s) (encrypt L t)
    have hbb : (encrypt L s == encrypt L t) = (s == t) := by
      rw [Bool.eq_iff_iff]
      simp only [beq_iff_eq]
      exact ⟨fun h => enc_inj hs ht 14 h, fun h => by rw [h]⟩
    rw [hbb] at i2
    obtain ⟨d, hd⟩ : ∃ d, d = (s == t) := ⟨_, rfl⟩
    rw [← hd] at i1 i2
    obtain ⟨S1, hS1⟩ : ∃ S, S = shift s := ⟨_, rfl⟩
    rw [← hS1] at s1 s2 s3 s4
    obtain ⟨S2, hS2⟩ : ∃ S, S = shift S1 := ⟨_, rfl⟩
    rw [← hS2] at s2 s3 s4
    obtain ⟨S3, hS3⟩ : ∃ S, S = shift S2 := ⟨_, rfl⟩
    rw [← hS3] at s3 s4
    obtain ⟨M1, hM1⟩ : ∃ S, S = mixS s := ⟨_, rfl⟩
    rw [← hM1] at m1 m2 m3 m4
    obtain ⟨M2, hM2⟩ : ∃ S, S = mixS M1 := ⟨_, rfl⟩
    rw [← hM2] at m2 m3 m4
    obtain ⟨M3, hM3⟩ : ∃ S, S = mixS M2 := ⟨_, rfl⟩
    rw [← hM3] at m3 m4
    obtain ⟨A1, hA1⟩ : ∃ S, S = add s t := ⟨_, rfl⟩
    rw [← hA1] at a1 a2
    obtain ⟨E1, hE1⟩ : ∃ S, S = encrypt L s := ⟨_, rfl⟩
    rw [← hE1] at e1 i2 j2
    obtain ⟨E2, hE2⟩ : ∃ S, S = encrypt L t := ⟨_, rfl⟩
    rw [← hE2] at e2 i2 j2
    have hszK := size240 sizeK hL
    have zK := zeroVK
    have hZ := zero240_len
    obtain ⟨Z, hZe⟩ : ∃ Z, Z = zero240 := ⟨_, rfl⟩
    rw [← hZe] at zK hZ
    have hZL : (vb Z).length = (vb L).length := by rw [vb_len, vb_len, hL, hZ]
    have HZL := Lib.hid hZL
    have Hsc := Lib.hid hsc
    have Q1 := Lib.hid s1
    have Q2 := Lib.hid s2
    have Q3 := Lib.hid s3
    have Q4 := Lib.hid s4
    have R1 := Lib.hid m1
    have R2 := Lib.hid m2
    have R3 := Lib.hid m3
    have R4 := Lib.hid m4
    have T1 := Lib.hid a1
    have T2 := Lib.hid a2
    have V1 := Lib.hid e1
    have V2 := Lib.hid e2
    clear s1 s2 s3 s4 m1 m2 m3 m4 a1 a2 e1 e2 hsh hmi had hsc hZL hZ hZe hE1 hE2 hA1 hM1 hM2 hM3 hS1 hS2 hS3 hd hbb hL hs ht
    unfold maxLen at hcm
    go_enter Try.func5, Try.ntmps5
    go_wp2_with (first
      | ((with_reducible show wpList _ _ _ (⟨some 4, _, _, _, _, _⟩ :: _) _ _); refine wpList_boxN rfl _ _ rfl (vb s) rfl ?_; intro w1 hb1 bw1 hs1)
      | ((with_reducible show wpList _ _ _ (⟨some 5, _, _, _, _, _⟩ :: _) _ _); refine wpList_boxN rfl _ _ rfl (vb t) rfl ?_; intro w2 hb2 bw2 hs2; have hb12 := hb1.on bw2; have bt2 := bt bw1 bw2)
      | fail)
    refine (Hsc.out _ bt2).mono ?_
    rintro e w3 ⟨rfl, b3⟩
    have bt3 := bt bt2 b3
    have hb13 := hb12.on b3
    have hb23 := hb2.on b3
    clear hb1 b3 hb12 hb2
    go_wp2_with (first
      | ((with_reducible show wpList _ _ _ (⟨some 7, _, _, _, _, _⟩ :: _) _ _); refine wpList_allocN rfl _ rfl (vb Z) zK ?_; intro w4 hb4 bw4 hs4)
      | ((with_reducible show wpList _ _ _ (⟨none, .store 29 (.tmp 7) _, _, _, _, _⟩ :: _) _ _); refine wpList_storeN rfl _ _ _ rfl rfl (ys := vb L) rfl hb4 HZL.out (vb_one _) hszK ?_; intro w5 hb5 hg5; have b5 := below_row bw4 hg5 (Nat.le_refl _) bw4.size; have bt5 := bt bt3 b5; have hb15 := hb13.on b5; have hb25 := hb23.on b5)
      | fail)
    clear hb13 hb23 hb4 bw4 hs4 hg5 b5
    refine region_inb (by kernel_rfl) (by kernel_rfl) ?_
    have inbNe := InB.some
    have inbW := @wrap_small
    have inbU := IntKind.wrap_u8'
    repeat (first | (with_reducible refine wpQuiet_nil ?_; fail) | (refine wpQuiet_loadG 22 (.tmp 4) rfl rfl (fun w' hw' => hb15.on hw'.below) Try.underlying22 hszs (by rfl) ?_) | (refine wpQuiet_loadG 22 (.tmp 5) rfl rfl (fun w' hw' => hb25.on hw'.below) Try.underlying22 hszt (by rfl) ?_) | (refine wpQuiet_step (fun K hK => ?_); go_simp; first | (refine hK _ ?_; clear hK K) | (apply Exists.intro; refine ⟨?_, hK _ ?_⟩; (· (intro w' hw'; first | (go_at_call 11; with_reducible refine (Q1.out _).mono ?_; rintro e w1 ⟨rfl, b1⟩; exact ⟨rfl, hw'.on b1⟩) | (go_at_call 11; with_reducible refine (Q2.out _).mono ?_; rintro e w1 ⟨rfl, b1⟩; exact ⟨rfl, hw'.on b1⟩) | (go_at_call 11; with_reducible refine (Q3.out _).mono ?_; rintro e w1 ⟨rfl, b1⟩; exact ⟨rfl, hw'.on b1⟩) | (go_at_call 11; with_reducible refine (Q4.out _).mono ?_; rintro e w1 ⟨rfl, b1⟩; exact ⟨rfl, hw'.on b1⟩) | (go_at_call 13; with_reducible refine (R1.out _).mono ?_; rintro e w1 ⟨rfl, b1⟩; exact ⟨rfl, hw'.on b1⟩) | (go_at_call 13; with_reducible refine (R2.out _).mono ?_; rintro e w1 ⟨rfl, b1⟩; exact ⟨rfl, hw'.on b1⟩) | (go_at_call 13; with_reducible refine (R3.out _).mono ?_; rintro e w1 ⟨rfl, b1⟩; exact ⟨rfl, hw'.on b1⟩) | (go_at_call 13; with_reducible refine (R4.out _).mono ?_; rintro e w1 ⟨rfl, b1⟩; exact ⟨rfl, hw'.on b1⟩) | (go_at_call 15; with_reducible refine (T1.out _).mono ?_; rintro e w1 ⟨rfl, b1⟩; exact ⟨rfl, hw'.on b1⟩) | (go_at_call 15; with_reducible refine (T2.out _).mono ?_; rintro e w1 ⟨rfl, b1⟩; exact ⟨rfl, hw'.on b1⟩) | (have hcw := hw'.cell; go_simp; exact rfl))); clear hK K)))
    refine wpQuiet_nil ?_
    intro wq hq
    clear inbNe inbW inbU
    have hb16 := hb15.on hq.below
    have hb26 := hb25.on hq.below
    have hb56 := hb5.on hq.below
    have bt6 := bt bt5 hq.below
    clear hb15 hb25 hb5 bt5 hq
    go_wp2
    refine region_inb (by kernel_rfl) (by kernel_rfl) ?_
    have inbNe := InB.some
    have inbW := @wrap_small
    have inbU := IntKind.wrap_u8'
    repeat (first | (with_reducible refine wpQuiet_nil ?_; fail) | (refine wpQuiet_loadG 22 (.tmp 4) rfl rfl (fun w' hw' => hb16.on hw'.below) Try.underlying22 hszs (by rfl) ?_) | (refine wpQuiet_loadG 22 (.tmp 5) rfl rfl (fun w' hw' => hb26.on hw'.below) Try.underlying22 hszt (by rfl) ?_) | (refine wpQuiet_loadG 29 (.tmp 7) rfl rfl (fun w' hw' => hb56.on hw'.below) Try.underlying29 hszK (by rfl) ?_) | (refine wpQuiet_step (fun K hK => ?_); go_simp; first | (refine hK _ ?_; clear hK K) | (apply Exists.intro; refine ⟨?_, hK _ ?_⟩; (· (intro w' hw'; first | (go_at_call 20; with_reducible refine (V1.out _).mono ?_; rintro e w1 ⟨rfl, b1⟩; exact ⟨rfl, hw'.on b1⟩) | (go_at_call 20; with_reducible refine (V2.out _).mono ?_; rintro e w1 ⟨rfl, b1⟩; exact ⟨rfl, hw'.on b1⟩) | (go_at_call 17; refine (alive_any _).mono ?_; rintro e w1 ⟨rfl, b1⟩; exact ⟨rfl, hw'.on b1⟩) | (have hcw := hw'.cell; go_simp; exact rfl))); clear hK K)))
    refine wpQuiet_nil ?_
    intro wq hq
    clear inbNe inbW inbU
    go_wp2
    go_ret
    exact ⟨rfl, bt bt6 hq.below⟩
  · unfold maxLen at hcm
    have hn : ((l.length : Int) != 32) = true := bne_yes (by omega)
    go_enter Try.func5, Try.ntmps5
    go_wp2_with (first
      | ((with_reducible show wpList _ _ _ (⟨some 4, _, _, _, _, _⟩ :: _) _ _); refine wpList_boxN rfl _ _ rfl (vb s) rfl ?_; intro w1 hb1 bw1 hs1)
      | ((with_reducible show wpList _ _ _ (⟨some 5, _, _, _, _, _⟩ :: _) _ _); refine wpList_boxN rfl _ _ rfl (vb t) rfl ?_; intro w2 hb2 bw2 hs2; have hb12 := hb1.on bw2; have bt2 := bt bw1 bw2)
      | fail)
    refine (alive_any _).mono ?_
    rintro e w3 ⟨rfl, b3⟩
    go_wp2_with fail
    go_ret
    exact ⟨rfl, bt bt2 b3⟩

set_option maxRecDepth 100000 in
theorem lifted (os : Os) (started : os.Started) (H : Type) (enc : TypeId × Value → H) :
    ReturnsInHanded {} Try.checked os 5 .any (Rows.aesBackSpec.pre6 enc Try.prog Try.f5 Rows.aesBackRow.domain false) (Rows.aesBackSpec.post enc Try.prog Try.f5 false true false false) := by
  refine returnsInHanded_of_change (C := Try.checked) own started (by kernel_rfl) Try.func5
    (ChangeSpec.witness6 (enc := enc) (C := Try.checked) false ⟨#[], #[.slice none 0 0, .agg #[.int .u8 0, .int .u8 0, .int .u8 0, .int .u8 0, .int .u8 0, .int .u8 0, .int .u8 0, .int .u8 0, .int .u8 0, .int .u8 0, .int .u8 0, .int .u8 0, .int .u8 0, .int .u8 0, .int .u8 0, .int .u8 0], .agg #[.int .u8 0, .int .u8 0, .int .u8 0, .int .u8 0, .int .u8 0, .int .u8 0, .int .u8 0, .int .u8 0, .int .u8 0, .int .u8 0, .int .u8 0, .int .u8 0, .int .u8 0, .int .u8 0, .int .u8 0, .int .u8 0]], []⟩ 8 (by kernel_rfl) (by kernel_rfl) (by kernel_rfl) (by kernel_rfl)) ?_
  intro W base args ds gs before hval0 hW hcnd _
  have hval : ∀ (j : Nat) t v, Try.f5.params[j]? = some t → args[j]? = some v → Value.okWide Try.prog W .any base t v := hval0
  have hW' := hW
  obtain ⟨p, q, hA0, hV, rfl, hfz, hnd⟩ := hW
  have hA : DataW.TrodAll enc Try.prog W 0 (fun _ => true) true Try.f5.params.toList args.toList ds p := hA0
  rw [Try.params5] at hA hval
  obtain ⟨v0, vs0, d0, ds0, p0, q0, hargs, rfl, rfl, h0, r0⟩ := trodAll_cons hA
  obtain ⟨v1, vs1, d1, ds1, p1, q1, rfl, rfl, rfl, h1, r1⟩ := trodAll_cons r0
  obtain ⟨v2, vs2, d2, ds2, p2, q2, rfl, rfl, rfl, h2, r2⟩ := trodAll_cons r1
  obtain ⟨rfl, rfl, rfl⟩ := trodAll_nil r2
  obtain rfl : args = #[v0, v1, v2] := by cases args; simp_all
  obtain ⟨rfl, rfl⟩ := trodVars_none hV
  have k0 := h0
  have lt0 := places_lt k0
  obtain ⟨a0, len0, cap0, rfl⟩ := okWide_slice Try.underlying27 (hval 0 27 v0 rfl rfl)
  obtain ⟨fuel0, hf0⟩ := h0
  obtain ⟨l0, rfl, rr0, rc0, rm0⟩ := bytes_of rfl Try.underlying27 Try.underlying5 (by kernel_rfl) hf0
  have k1 := h1
  have lt1 := places_lt k1
  obtain ⟨x1, hx1, rfl⟩ := arr16_of (hval 1 22 v1 rfl rfl) h1
  have k2 := h2
  have lt2 := places_lt k2
  obtain ⟨x2, hx2, rfl⟩ := arr16_of (hval 2 22 v2 rfl rfl) h2
  clear hA0 hval0
  refine (walk a0 l0 cap0 x1 x2 W rr0 rc0 rm0 hx1 hx2).mono fun e W' ⟨he, bel⟩ => ?_
  subst he
  exact ⟨_, rfl, _, _, _, [], _, [], hW', trodAll_mk1 (shut_bool Try.underlying4 _), (trodAll_cons_mk (Below.trod laidOut (by kernel_rfl) (of_decide_eq_true (by kernel_rfl)) k0 bel lt0) (trodAll_cons_mk (Below.trod laidOut (by kernel_rfl) (of_decide_eq_true (by kernel_rfl)) k1 bel lt1) (trodAll_cons_mk (Below.trod laidOut (by kernel_rfl) (of_decide_eq_true (by kernel_rfl)) k2 bel lt2) trodAll_mk0))), rfl, bel.frame _, fun h => by cases h⟩

theorem proved : Rows.AesBackSaid :=
  OpenClaim.holds_of_wide 5 Try.f5 rfl rfl rfl rfl rfl rfl rfl ⟨rfl, rfl, rfl, rfl, rfl⟩ rfl rfl rfl rfl rfl (by kernel_rfl) Try.func5 (by kernel_rfl)
    (of_decide_eq_true (by kernel_rfl)) (by unfold Func.isWrapper; first | (rw [if_pos (by decide +kernel)]; kernel_rfl) | (rw [if_neg (by decide +kernel)]; exact ⟨rfl, rfl⟩))
    (fun os started H enc _ => lifted os started H enc)
#print axioms proved
end Go.Proofs.Yteecbjpnnklbpaa.AesBack
