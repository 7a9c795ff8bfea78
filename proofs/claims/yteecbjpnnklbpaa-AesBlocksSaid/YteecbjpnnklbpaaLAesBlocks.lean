/- AesBlocks: for every input the law returns true: the keys of any rounds, and any block encrypted with them. No condition. -/
import Derived.Test.YteecbjpnnklbpaaAes15
import Derived.Test.YteecbjpnnklbpaaOpen
import Derived.Test.YteecbjpnnklbpaaRegion
namespace Go.Proofs.Yteecbjpnnklbpaa.AesBlocks
open Go.ChangeShapes Go.WideShapes Go.ChangeAt Go.RowKit Go.Joins
open Go.ChangeMaps (open_string shut_string)
open Go.Proofs.Yteecbjpnnklbpaa.Aes
set_option linter.unusedVariables false

set_option maxRecDepth 100000 in
set_option maxHeartbeats 1000000 in
theorem walk (A : Option Addr) (l : List UInt8) (c : Nat) (s : List UInt8) (w : World)
    (ha : Rd w w.heap.size A (l.map e8)) (hc : l.length ≤ c) (hcm : c ≤ maxLen) (hs : s.length = 16) :
    Calls Try.prog 4 #[.slice A l.length c, arrV (vb s)] w fun e w' => e = .returned (.bool true) ∧ Below w.heap.size w w' := by
  have hszs := sizeL hs
  by_cases hlen : 100 < l.length
  · unfold maxLen at hcm
    go_enter Try.func4, Try.ntmps4
    go_wp2_with (first
      | ((with_reducible show wpList _ _ _ (⟨some 3, _, _, _, _, _⟩ :: _) _ _); refine wpList_boxN rfl _ _ rfl (vb s) rfl ?_; intro w1 hb1 bw1 hs1)
      | fail)
    refine (alive_any _).mono ?_
    rintro e w2 ⟨rfl, b2⟩
    go_wp2_with fail
    go_ret
    exact ⟨rfl, bt bw1 b2⟩
  · have hsc : ∀ W, Below w.heap.size w W → Calls Try.prog 18 #[.slice A l.length c] W fun e w' => e = .returned (.tuple #[arrV (vb (keysOf l)), .int .i64 (if l.length = 32 then 0 else 4)]) ∧ Below W.heap.size W w' := fun W hW =>
      schedule_any A l _ c W rfl hc hcm (ha.on hW)
    have hrsc : ∀ W, Below w.heap.size w W → Calls Try.prog 19 #[.slice A l.length c] W fun e w' => e = .returned (.tuple #[arrV (vb (keysOf l)), .int .i64 (if l.length = 32 then 0 else 4)]) ∧ Below W.heap.size W w' := fun W hW =>
      rschedule_any A l _ c W rfl hc hcm (ha.on hW)
    have hL := keysOf_len l
    obtain ⟨L, hLe⟩ : ∃ L, L = keysOf l := ⟨_, rfl⟩
    obtain ⟨F, hFe⟩ : ∃ F : Int, F = (if l.length = 32 then 0 else 4) := ⟨_, rfl⟩
    rw [← hLe, ← hFe] at hsc hrsc
    rw [← hLe] at hL
    clear hLe hFe
    have hen : ∀ W, Calls Try.prog 20 #[arrV (vb L), arrV (vb s)] W fun e w' => e = .returned (arrV (vb (encrypt L s))) ∧ Below W.heap.size W w' := encrypt_any L s hL hs
    have hren : ∀ W, Calls Try.prog 21 #[arrV (vb L), arrV (vb s)] W fun e w' => e = .returned (arrV (vb (encrypt L s))) ∧ Below W.heap.size W w' := rencrypt_any L s hL hs
    have e1 := eq16 (encrypt L s) (encrypt_len L s)
    have f1 := grd16 .eql (encrypt L s) (encrypt L s)
    have e2 := eqK L hL
    have f2 := grdK .eql L L
    have hszK := size240 sizeK hL
    have hszR := size240 sizeR hL
    have zK := zeroVK
    have zR := zeroVR
    have hZ := zero240_len
    obtain ⟨Z, hZe⟩ : ∃ Z, Z = zero240 := ⟨_, rfl⟩
    rw [← hZe] at zK zR hZ
    obtain ⟨U1, hU1⟩ : ∃ U, U = arrV (vb (encrypt L s)) := ⟨_, rfl⟩
    rw [← hU1] at hen hren e1 f1
    have hZL : (vb Z).length = (vb L).length := by rw [vb_len, vb_len, hL, hZ]
    have HZL := Lib.hid hZL
    have Hsc := Lib.hid hsc
    have Hrsc := Lib.hid hrsc
    have Hen := Lib.hid hen
    have Hren := Lib.hid hren
    clear hZe hU1 hen hren hZ hL hs hsc hrsc hZL
    unfold maxLen at hcm
    go_enter Try.func4, Try.ntmps4
    go_wp2_with (first
      | ((with_reducible show wpList _ _ _ (⟨some 3, _, _, _, _, _⟩ :: _) _ _); refine wpList_boxN rfl _ _ rfl (vb s) rfl ?_; intro w1 hb1 bw1 hs1)
      | fail)
    refine (Hsc.out _ bw1).mono ?_
    rintro e w2 ⟨rfl, b2⟩
    have bt2 := bt bw1 b2
    have hb12 := hb1.on b2
    clear hb1 b2
    go_wp2_with (first
      | ((with_reducible show wpList _ _ _ (⟨some 5, _, _, _, _, _⟩ :: _) _ _); refine wpList_allocN rfl _ rfl (vb Z) zK ?_; intro w3 hb3 bw3 hs3)
      | ((with_reducible show wpList _ _ _ (⟨none, .store 29 (.tmp 5) _, _, _, _, _⟩ :: _) _ _); refine wpList_storeN rfl _ _ _ rfl rfl (ys := vb L) rfl hb3 HZL.out (vb_one _) hszK ?_; intro w4 hb4 hg4; have b4 := below_row bw3 hg4 (Nat.le_refl _) bw3.size; have bt4 := bt bt2 b4; have hb14 := hb12.on b4)
      | fail)
    refine (Hrsc.out _ bt4).mono ?_
    rintro e w5 ⟨rfl, b5⟩
    have bt5 := bt bt4 b5
    have hb15 := hb14.on b5
    have hb45 := hb4.on b5
    clear hb12 hb3 bw3 hs3 hg4 b4 hb14 hb4 b5
    go_wp2_with (first
      | ((with_reducible show wpList _ _ _ (⟨some 7, _, _, _, _, _⟩ :: _) _ _); refine wpList_allocN rfl _ rfl (vb Z) zR ?_; intro w6 hb6 bw6 hs6)
      | ((with_reducible show wpList _ _ _ (⟨none, .store 28 (.tmp 7) _, _, _, _, _⟩ :: _) _ _); refine wpList_storeN rfl _ _ _ rfl rfl (ys := vb L) rfl hb6 HZL.out (vb_one _) hszR ?_; intro w7 hb7 hg7; have b7 := below_row bw6 hg7 (Nat.le_refl _) bw6.size; have bt7 := bt bt5 b7; have hb17 := hb15.on b7; have hb47 := hb45.on b7)
      | fail)
    clear hb15 hb45 hb6 bw6 hs6 hg7 b7
    refine region_inb (by kernel_rfl) (by kernel_rfl) ?_
    have inbNe := InB.some
    have inbW := @wrap_small
    have inbU := IntKind.wrap_u8'
    repeat (first | (with_reducible refine wpQuiet_nil ?_; fail) | (refine wpQuiet_loadG 29 (.tmp 5) rfl rfl (fun w' hw' => hb47.on hw'.below) Try.underlying29 hszK (by rfl) ?_) | (refine wpQuiet_loadG 28 (.tmp 7) rfl rfl (fun w' hw' => hb7.on hw'.below) Try.underlying28 hszR (by rfl) ?_) | (refine wpQuiet_loadG 22 (.tmp 3) rfl rfl (fun w' hw' => hb17.on hw'.below) Try.underlying22 hszs (by rfl) ?_) | (refine wpQuiet_step (fun K hK => ?_); go_simp; first | (refine hK _ ?_; clear hK K) | (apply Exists.intro; refine ⟨?_, hK _ ?_⟩; (· (intro w' hw'; first | (go_at_call 20; with_reducible refine (Hen.out _).mono ?_; rintro e w1 ⟨rfl, b1⟩; exact ⟨rfl, hw'.on b1⟩) | (go_at_call 21; with_reducible refine (Hren.out _).mono ?_; rintro e w1 ⟨rfl, b1⟩; exact ⟨rfl, hw'.on b1⟩) | (go_at_call 17; refine (alive_any _).mono ?_; rintro e w1 ⟨rfl, b1⟩; exact ⟨rfl, hw'.on b1⟩) | (have hcw := hw'.cell; go_simp; exact rfl))); clear hK K)))
    refine wpQuiet_nil ?_
    intro wq hq
    clear inbNe inbW inbU
    go_wp2
    go_ret
    exact ⟨rfl, bt bt7 hq.below⟩

set_option maxRecDepth 100000 in
theorem lifted (os : Os) (started : os.Started) (H : Type) (enc : TypeId × Value → H) :
    ReturnsInHanded {} Try.checked os 4 .any (Rows.aesBlocksSpec.pre6 enc Try.prog Try.f4 Rows.aesBlocksRow.domain false) (Rows.aesBlocksSpec.post enc Try.prog Try.f4 false true false false) := by
  refine returnsInHanded_of_change (C := Try.checked) own started (by kernel_rfl) Try.func4
    (ChangeSpec.witness6 (enc := enc) (C := Try.checked) false ⟨#[], #[.slice none 0 0, .agg #[.int .u8 0, .int .u8 0, .int .u8 0, .int .u8 0, .int .u8 0, .int .u8 0, .int .u8 0, .int .u8 0, .int .u8 0, .int .u8 0, .int .u8 0, .int .u8 0, .int .u8 0, .int .u8 0, .int .u8 0, .int .u8 0]], []⟩ 8 (by kernel_rfl) (by kernel_rfl) (by kernel_rfl) (by kernel_rfl)) ?_
  intro W base args ds gs before hval0 hW hcnd _
  have hval : ∀ (j : Nat) t v, Try.f4.params[j]? = some t → args[j]? = some v → Value.okWide Try.prog W .any base t v := hval0
  have hW' := hW
  obtain ⟨p, q, hA0, hV, rfl, hfz, hnd⟩ := hW
  have hA : DataW.TrodAll enc Try.prog W 0 (fun _ => true) true Try.f4.params.toList args.toList ds p := hA0
  rw [Try.params4] at hA hval
  obtain ⟨v0, vs0, d0, ds0, p0, q0, hargs, rfl, rfl, h0, r0⟩ := trodAll_cons hA
  obtain ⟨v1, vs1, d1, ds1, p1, q1, rfl, rfl, rfl, h1, r1⟩ := trodAll_cons r0
  obtain ⟨rfl, rfl, rfl⟩ := trodAll_nil r1
  obtain rfl : args = #[v0, v1] := by cases args; simp_all
  obtain ⟨rfl, rfl⟩ := trodVars_none hV
  have k0 := h0
  have lt0 := places_lt k0
  obtain ⟨a0, len0, cap0, rfl⟩ := okWide_slice Try.underlying27 (hval 0 27 v0 rfl rfl)
  obtain ⟨fuel0, hf0⟩ := h0
  obtain ⟨l0, rfl, rr0, rc0, rm0⟩ := bytes_of rfl Try.underlying27 Try.underlying5 (by kernel_rfl) hf0
  have k1 := h1
  have lt1 := places_lt k1
  obtain ⟨x1, hx1, rfl⟩ := arr16_of (hval 1 22 v1 rfl rfl) h1
  clear hA0 hval0
  refine (walk a0 l0 cap0 x1 W rr0 rc0 rm0 hx1).mono fun e W' ⟨he, bel⟩ => ?_
  subst he
  exact ⟨_, rfl, _, _, _, [], _, [], hW', trodAll_mk1 (shut_bool Try.underlying4 _), (trodAll_cons_mk (Below.trod laidOut (by kernel_rfl) (of_decide_eq_true (by kernel_rfl)) k0 bel lt0) (trodAll_cons_mk (Below.trod laidOut (by kernel_rfl) (of_decide_eq_true (by kernel_rfl)) k1 bel lt1) trodAll_mk0)), rfl, bel.frame _, fun h => by cases h⟩

theorem proved : Rows.AesBlocksSaid :=
  OpenClaim.holds_of_wide 4 Try.f4 rfl rfl rfl rfl rfl rfl rfl ⟨rfl, rfl, rfl, rfl, rfl⟩ rfl rfl rfl rfl rfl (by kernel_rfl) Try.func4 (by kernel_rfl)
    (of_decide_eq_true (by kernel_rfl)) (by unfold Func.isWrapper; first | (rw [if_pos (by decide +kernel)]; kernel_rfl) | (rw [if_neg (by decide +kernel)]; exact ⟨rfl, rfl⟩))
    (fun os started H enc _ => lifted os started H enc)
#print axioms proved
end Go.Proofs.Yteecbjpnnklbpaa.AesBlocks
