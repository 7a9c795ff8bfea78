/- AES as plain functions: rows shifted four times, columns mixed four times, keys added twice; unlike blocks are encrypted to unlike ones. Nothing of the program. -/
import Derived.Test.YteecbjpnnklbpaaAesPlain
namespace Go.Proofs.Yteecbjpnnklbpaa.Aes
open Go.Proofs.Yteecbjpnnklbpaa.Gf
set_option linter.unusedVariables false
theorem shift_at (s : List UInt8) (i : Nat) (h : i < 16) : (shift s).getD i 0 = s.getD ((i + 4 * (i % 4)) % 16) 0 := of16_at _ i h
theorem shift4 (s : List UInt8) (h : s.length = 16) : shift (shift (shift (shift s))) = s := by
  refine ext16 (shift_len _) h fun i hi => ?_
  rw [shift_at _ _ hi, shift_at _ _ (Nat.mod_lt _ (by omega)), shift_at _ _ (Nat.mod_lt _ (by omega)), shift_at _ _ (Nat.mod_lt _ (by omega))]
  congr 1
  omega
theorem mixS_col (s : List UInt8) (c : Nat) (hc : c < 4) : colOf (mixS s) c = mix (colOf s c) := by
  have key : ∀ j, j < 4 → (mixS s).getD (4 * c + j) 0 = colGet (mix (colOf s c)) j := fun j hj => by
    have h := of16_at (fun i => colGet (mix (colOf s (i / 4))) i) (4 * c + j) (by omega)
    rw [show (4 * c + j) / 4 = c by omega] at h
    rw [show (mixS s).getD (4 * c + j) 0 = _ from h]
    unfold colGet
    rw [show (4 * c + j) % 4 = j % 4 by omega]
  have h0 := key 0 (by omega)
  have h1 := key 1 (by omega)
  have h2 := key 2 (by omega)
  have h3 := key 3 (by omega)
  unfold colOf
  rw [Nat.add_zero] at h0
  rw [h0, h1, h2, h3]
  rfl
theorem at_col (s : List UInt8) (i : Nat) : s.getD i 0 = colGet (colOf s (i / 4)) i := by
  unfold colGet colOf
  rcases (show i % 4 = 0 ∨ i % 4 = 1 ∨ i % 4 = 2 ∨ i % 4 = 3 by omega) with h | h | h | h
  · rw [if_pos h]; exact congrArg (fun k => s.getD k 0) (by omega)
  · rw [if_neg (by omega), if_pos h]; exact congrArg (fun k => s.getD k 0) (by omega)
  · rw [if_neg (by omega), if_neg (by omega), if_pos h]; exact congrArg (fun k => s.getD k 0) (by omega)
  · rw [if_neg (by omega), if_neg (by omega), if_neg (by omega)]; exact congrArg (fun k => s.getD k 0) (by omega)
theorem mixS4 (s : List UInt8) (h : s.length = 16) : mixS (mixS (mixS (mixS s))) = s := by
  refine ext16 (mix_len _) h fun i hi => ?_
  have hc : i / 4 < 4 := by omega
  rw [at_col, mixS_col _ _ hc, mixS_col _ _ hc, mixS_col _ _ hc, mixS_col _ _ hc]; exact (congrArg (fun c => colGet c i) (mix4_id _)).trans (at_col s i).symm
theorem add_at (s k : List UInt8) (i : Nat) (h : i < 16) : (add s k).getD i 0 = s.getD i 0 ^^^ k.getD i 0 := of16_at _ i h
theorem add_add (s k : List UInt8) (h : s.length = 16) : add (add s k) k = s := by
  refine ext16 (add_len _ _) h fun i hi => ?_
  rw [add_at _ _ _ hi, add_at _ _ _ hi, UInt8.xor_assoc, UInt8.xor_self, UInt8.xor_zero]
theorem add_inj {s t k : List UInt8} (hs : s.length = 16) (ht : t.length = 16) (h : add s k = add t k) : s = t := by
  rw [← add_add s k hs, h, add_add t k ht]
theorem mixS_inj {s t : List UInt8} (hs : s.length = 16) (ht : t.length = 16) (h : mixS s = mixS t) : s = t := by
  rw [← mixS4 s hs, h, mixS4 t ht]
theorem shift_inj {s t : List UInt8} (hs : s.length = 16) (ht : t.length = 16) (h : shift s = shift t) : s = t := by
  rw [← shift4 s hs, h, shift4 t ht]
theorem box_inj {x y : UInt8} (h : box x = box y) : x = y := by
  have hb : ∀ i : Fin 256, ((List.range 256).map fun n => box (UInt8.ofNat n)).idxOf (box (UInt8.ofNat i.val)) = i.val := by decide +kernel
  have hx := hb ⟨x.toNat, x.toNat_lt⟩
  have hy := hb ⟨y.toNat, y.toNat_lt⟩
  simp only [UInt8.ofNat_toNat] at hx hy
  rw [h, hy] at hx
  exact UInt8.toNat_inj.1 hx.symm
theorem map_box_inj : ∀ {s t : List UInt8}, s.map box = t.map box → s = t
  | [], [], _ => rfl
  | [], _ :: _, h => by simp at h
  | _ :: _, [], h => by simp at h
  | x :: s, y :: t, h => by
    simp only [List.map_cons, List.cons.injEq] at h
    rw [box_inj h.1, map_box_inj h.2]
theorem sub_inj {s t : List UInt8} (h : sub s = sub t) : s = t := map_box_inj h
/-- a round behind the first key -/
def step (ks : Nat → List UInt8) (i : Nat) (s : List UInt8) : List UInt8 := add (if i < 14 then mixS (shift (sub s)) else shift (sub s)) (ks i)
theorem step_len (ks : Nat → List UInt8) (i : Nat) (s : List UInt8) : (step ks i s).length = 16 := add_len _ _
def enc (ks : Nat → List UInt8) (s : List UInt8) : Nat → List UInt8
  | 0 => add s (ks 0)
  | i + 1 => step ks (i + 1) (enc ks s i)
theorem enc_len (ks : Nat → List UInt8) (s : List UInt8) (i : Nat) : (enc ks s i).length = 16 := by cases i <;> exact add_len _ _
theorem step_inj {ks : Nat → List UInt8} {i : Nat} {s t : List UInt8} (hs : s.length = 16) (ht : t.length = 16) (h : step ks i s = step ks i t) : s = t := by
  unfold step at h
  have h1 : (sub s).length = 16 := by rw [sub_len, hs]
  have h2 : (sub t).length = 16 := by rw [sub_len, ht]
  split at h
  · exact sub_inj (shift_inj h1 h2 (mixS_inj (shift_len _) (shift_len _) (add_inj (mix_len _) (mix_len _) h)))
  · exact sub_inj (shift_inj h1 h2 (add_inj (shift_len _) (shift_len _) h))
theorem enc_inj {ks : Nat → List UInt8} {s t : List UInt8} (hs : s.length = 16) (ht : t.length = 16) : ∀ i, enc ks s i = enc ks t i → s = t
  | 0, h => add_inj hs ht h
  | i + 1, h => enc_inj hs ht i (step_inj (enc_len _ _ _) (enc_len _ _ _) h)
end Go.Proofs.Yteecbjpnnklbpaa.Aes
