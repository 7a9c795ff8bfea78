/- The keys of AES's rounds as a plain list of 240 bytes. Nothing of the program. -/
import Derived.Test.YteecbjpnnklbpaaAesBackPlain
namespace Go.Proofs.Yteecbjpnnklbpaa.Aes
open Go.Proofs.Yteecbjpnnklbpaa.Gf
set_option linter.unusedVariables false
def colL (x : Col) : List UInt8 := [x.a, x.b, x.c, x.d]
theorem colL_get (x : Col) (n : Nat) (h : n < 4) : (colL x).getD n 0 = colGet x n := by
  match n, h with
  | 0, _ => rfl
  | 1, _ => rfl
  | 2, _ => rfl
  | 3, _ => rfl
def rotC (x : Col) : Col := ⟨x.b, x.c, x.d, x.a⟩
def boxC (x : Col) : Col := ⟨box x.a, box x.b, box x.c, box x.d⟩
/-- the word ahead, as it goes into the one at place i -/
def turn (x : Col) (i : Nat) : Col :=
  if i % 8 = 0 then ⟨box x.b ^^^ pow 2 (i / 8 - 1), box x.c, box x.d, box x.a⟩ else if i % 4 = 0 then boxC x else x
def wn (key : List UInt8) (l : List Col) : Col :=
  if l.length < 8 then colOf key l.length else addC (l.getD (l.length - 8) ⟨0, 0, 0, 0⟩) (turn (l.getD (l.length - 1) ⟨0, 0, 0, 0⟩) l.length)
def wc (key : List UInt8) : Nat → List Col
  | 0 => []
  | k + 1 => wc key k ++ [wn key (wc key k)]
theorem wc_len (key : List UInt8) : ∀ k, (wc key k).length = k
  | 0 => rfl
  | k + 1 => by simp [wc, wc_len key k]
theorem wc_get (key : List UInt8) : ∀ k j, j < k → (wc key k).getD j ⟨0, 0, 0, 0⟩ = wn key (wc key j)
  | 0, j, h => by omega
  | k + 1, j, h => by
    by_cases hj : j < k
    · rw [← wc_get key k j hj, wc]
      simp [List.getD, List.getElem?_append_left (show j < (wc key k).length by rw [wc_len]; exact hj)]
    · obtain rfl : j = k := by omega
      rw [wc]
      simp [List.getD, List.getElem?_append_right, wc_len]
/-- the word at a place -/
def wAt (key : List UInt8) (i : Nat) : Col := wn key (wc key i)
theorem wAt_lo (key : List UInt8) (i : Nat) (h : i < 8) : wAt key i = colOf key i := by unfold wAt wn; rw [wc_len, if_pos h]
theorem wAt_hi (key : List UInt8) (i : Nat) (h : 8 ≤ i) : wAt key i = addC (wAt key (i - 8)) (turn (wAt key (i - 1)) i) := by
  conv => lhs; unfold wAt wn
  rw [wc_len, if_neg (by omega), wc_get _ _ _ (by omega), wc_get _ _ _ (by omega)]
  rfl
def flat (l : List Col) : List UInt8 := l.flatMap colL
theorem flat_len : ∀ l : List Col, (flat l).length = 4 * l.length
  | [] => rfl
  | x :: l => by rw [flat, List.flatMap_cons, List.length_append, ← flat, flat_len l]; simp [colL]; omega
theorem flat_get : ∀ (l : List Col) (i n : Nat), n < 4 → i < l.length → (flat l).getD (4 * i + n) 0 = colGet (l.getD i ⟨0, 0, 0, 0⟩) n
  | [], i, n, _, h => by simp at h
  | x :: l, 0, n, hn, _ => by
    rw [← show ((x :: l).getD 0 ⟨0, 0, 0, 0⟩) = x from rfl, ← colL_get _ _ hn]
    simp only [flat, List.flatMap_cons, Nat.mul_zero, Nat.zero_add, List.getD]
    rw [List.getElem?_append_left (by simp [colL]; omega)]
    rfl
  | x :: l, i + 1, n, hn, h => by
    rw [show (x :: l).getD (i + 1) ⟨0, 0, 0, 0⟩ = l.getD i ⟨0, 0, 0, 0⟩ from rfl, ← flat_get l i n hn (by simpa using h)]
    simp only [flat, List.flatMap_cons, List.getD]
    rw [List.getElem?_append_right (by simp [colL]; omega)]
    congr 2
    simp [colL]; omega
/-- the keys: 240 bytes -/
def sched (key : List UInt8) : List UInt8 := flat (wc key 60)
theorem sched_len (key : List UInt8) : (sched key).length = 240 := by rw [sched, flat_len, wc_len]
theorem sched_get (key : List UInt8) (i n : Nat) (hi : i < 60) (hn : n < 4) : (sched key).getD (4 * i + n) 0 = colGet (wAt key i) n := by
  rw [sched, flat_get _ _ _ hn (by rw [wc_len]; exact hi), wc_get _ _ _ hi]; rfl
theorem sched_col (key : List UInt8) (i : Nat) (hi : i < 60) : colOf (sched key) i = wAt key i := by
  have h0 := sched_get key i 0 hi (by omega)
  have h1 := sched_get key i 1 hi (by omega)
  have h2 := sched_get key i 2 hi (by omega)
  have h3 := sched_get key i 3 hi (by omega)
  unfold colOf
  rw [Nat.add_zero] at h0
  rw [h0, h1, h2, h3]
  rfl
/-- the key of a round -/
def keyAt (L : List UInt8) (i : Nat) : List UInt8 := (L.drop (16 * i)).take 16
theorem keyAt_len (L : List UInt8) (i : Nat) (h : L.length = 240) (hi : i < 15) : (keyAt L i).length = 16 := by simp [keyAt, h]; omega
/-- a block encrypted with keys -/
def encrypt (L : List UInt8) (s : List UInt8) : List UInt8 := enc (keyAt L) s 14
theorem encrypt_len (L s : List UInt8) : (encrypt L s).length = 16 := enc_len _ _ _
/-- what Schedule tells -/
def keysOf (key : List UInt8) : List UInt8 := if key.length = 32 then sched key else List.replicate 240 0
theorem keysOf_len (key : List UInt8) : (keysOf key).length = 240 := by
  unfold keysOf; split
  · exact sched_len _
  · exact List.length_replicate ..
theorem example_ok : (encrypt (sched ((List.range 32).map UInt8.ofNat)) ((List.range 16).map fun i => UInt8.ofNat (17 * i))).take 4 = [0x8e, 0xa2, 0xb7, 0xca] := by decide +kernel
end Go.Proofs.Yteecbjpnnklbpaa.Aes
