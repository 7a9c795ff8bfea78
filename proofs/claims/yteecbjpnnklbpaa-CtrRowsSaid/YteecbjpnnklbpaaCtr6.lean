/- The walks of both Over. -/
import Derived.Test.YteecbjpnnklbpaaCtr5
import Derived.Test.YteecbjpnnklbpaaXor
namespace Go.Proofs.Yteecbjpnnklbpaa.Ctr
open Go.RowKit
open Go.Proofs.Yteecbjpnnklbpaa.Aes
set_option linter.unusedVariables false
set_option maxRecDepth 100000
def overB (key nonce text : List UInt8) : List UInt8 := Mac.xorL text (strB key nonce text.length)
theorem overB_len (key nonce text : List UInt8) : (overB key nonce text).length ≤ text.length := by rw [overB, Mac.xorL_len]; omega
theorem strB_nil {key nonce : List UInt8} {i : Int} (h : strF key nonce i ≠ 0) : strB key nonce i = [] := by
  unfold strF at h
  unfold strB
  by_cases hok : okK key nonce
  · rw [if_pos hok] at h ⊢
    by_cases hr : i < 0 ∨ 65536 < i
    · rw [if_pos hr]
    · rw [if_neg hr] at h; exact absurd rfl h
  · rw [if_neg hok]
theorem xorL_nil (l : List UInt8) : Mac.xorL l [] = [] := by simp [Mac.xorL]
theorem RetF.of_own {w w1 w' : World} {l : List UInt8} {f : Int} {A : Option Addr} {c : Nat} (h : Below w.heap.size w w1) (own : w'.ownsRow w1.heap.size 5 1 (.slice A l.length c) l.length (l.map e8)) (b : Below w1.heap.size w1 w') :
    RetF w l f (.returned (.tuple #[.slice A l.length c, .int .i64 f])) w' :=
  ⟨A, c, rfl, Rd.own own, (own_cap own).1, (own_cap own).2, bt h b⟩
set_option maxHeartbeats 400000 in
theorem over_any (A B T : Option Addr) (key nonce text : List UInt8) (n c m d t g : Nat) (w : World) (hn : n = key.length) (hm : m = nonce.length) (ht : t = text.length) (hc : n ≤ c) (hcm : c ≤ maxLen) (hd : m ≤ d) (hdm : d ≤ maxLen)
    (hr : Rd w w.heap.size A (key.map e8)) (hq : Rd w w.heap.size B (nonce.map e8)) (hx : Rd w w.heap.size T (text.map e8)) (ht9 : t ≤ 1000000000) :
    Calls Try.prog 30 #[.slice A n c, .slice B m d, .slice T t g] w fun e w' => RetF w (overB key nonce text) (strF key nonce text.length) e w' := by
  have hst := stream_any A B key nonce n c m d (t : Int) w hn hm hc hcm hd hdm hr hq (by omega) (by omega)
  have hsl := strB_len key nonce (t : Int)
  subst hn hm ht
  obtain ⟨S, hS⟩ : ∃ S, S = strB key nonce (text.length : Int) := ⟨_, rfl⟩
  obtain ⟨F, hF⟩ : ∃ F, F = strF key nonce (text.length : Int) := ⟨_, rfl⟩
  have hob := Lib.hid (show overB key nonce text = Mac.xorL text S by rw [overB, hS])
  have hnil := Lib.hid (fun (h : F ≠ 0) => (show S = [] by rw [hS]; exact strB_nil (by rw [← hF]; exact h)))
  rw [← hS, ← hF] at hst
  rw [← hS] at hsl
  rw [← hF]
  have Hst := Lib.hid hst
  have Hsl := Lib.hid hsl
  clear hst hsl hS hF
  by_cases h0 : F = 0
  · subst h0
    go_enter Try.func30, Try.ntmps30
    go_wp2_with fail
    refine Hst.out.mono ?_
    rintro e w1 ⟨A1, c1, rfl, hr1, hc1, hm1, b1⟩
    go_wp2_with fail
    refine (Mac.xor_any T A1 text S _ _ _ _ w1 rfl rfl (hx.on b1) hr1 (by omega) (by have := Hsl.out; omega)).mono ?_
    rintro e w2 ⟨A2, c2, rfl, own2, b2⟩
    go_wp2_with fail
    rw [hob.out]
    go_ret2
    exact RetF.of_own b1 own2 b2
  · have hne : (F != 0) = true := bne_yes h0
    have hS0 := hnil.out h0
    subst hS0
    clear h0
    go_enter Try.func30, Try.ntmps30
    go_wp2_with fail
    refine Hst.out.mono ?_
    rintro e w1 ⟨A1, c1, rfl, hr1, hc1, hm1, b1⟩
    go_wp2_with fail
    rw [hob.out, xorL_nil]
    go_ret2
    exact RetF.nil b1
set_option maxHeartbeats 400000 in
theorem rover_any (A B T : Option Addr) (key nonce text : List UInt8) (n c m d t g : Nat) (w : World) (hn : n = key.length) (hm : m = nonce.length) (ht : t = text.length) (hc : n ≤ c) (hcm : c ≤ maxLen) (hd : m ≤ d) (hdm : d ≤ maxLen)
    (hr : Rd w w.heap.size A (key.map e8)) (hq : Rd w w.heap.size B (nonce.map e8)) (hx : Rd w w.heap.size T (text.map e8)) (ht9 : t ≤ 1000000000) (hn9 : n ≤ 1000000000) (hm9 : m ≤ 1000000000) :
    Calls Try.prog 31 #[.slice A n c, .slice B m d, .slice T t g] w fun e w' => RetF w (overB key nonce text) (strF key nonce text.length) e w' := by
  have hst := rstream_any A B key nonce n c m d (t : Int) w hn hm hc hcm hd hdm hr hq (by omega) (by omega) hn9 hm9
  have hsl := strB_len key nonce (t : Int)
  subst hn hm ht
  obtain ⟨S, hS⟩ : ∃ S, S = strB key nonce (text.length : Int) := ⟨_, rfl⟩
  obtain ⟨F, hF⟩ : ∃ F, F = strF key nonce (text.length : Int) := ⟨_, rfl⟩
  have hob := Lib.hid (show overB key nonce text = Mac.xorL text S by rw [overB, hS])
  rw [← hS, ← hF] at hst
  rw [← hS] at hsl
  rw [← hF]
  have Hst := Lib.hid hst
  have Hsl := Lib.hid hsl
  clear hst hsl hS hF
  go_enter Try.func31, Try.ntmps31
  go_wp2_with fail
  refine Hst.out.mono ?_
  rintro e w1 ⟨A1, c1, rfl, hr1, hc1, hm1, b1⟩
  go_wp2_with fail
  refine (Mac.rxor_any T A1 text S _ _ _ _ w1 rfl rfl (hx.on b1) hr1 (by omega) (by have := Hsl.out; omega)).mono ?_
  rintro e w2 ⟨A2, c2, rfl, own2, b2⟩
  go_wp2_with fail
  rw [hob.out]
  go_ret2
  exact RetF.of_own b1 own2 b2
end Go.Proofs.Yteecbjpnnklbpaa.Ctr
