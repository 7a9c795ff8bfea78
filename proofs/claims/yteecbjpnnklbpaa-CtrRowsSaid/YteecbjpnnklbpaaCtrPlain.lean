/- Counters of 16 bytes and rows of blocks as plain functions. Nothing of the program. -/
import Derived.Test.YteecbjpnnklbpaaAesKeyPlain
namespace Go.Proofs.Yteecbjpnnklbpaa.Ctr
open Go.Proofs.Yteecbjpnnklbpaa.Aes
set_option linter.unusedVariables false
/-- a number added to bytes, the lowest first -/
def addR : List UInt8 → Nat → List UInt8
  | [], _ => []
  | x :: l, n => UInt8.ofNat (n + x.toNat) :: addR l ((n + x.toNat) / 256)
theorem addR_len : ∀ l n, (addR l n).length = l.length
  | [], _ => rfl
  | x :: l, n => by simp [addR, addR_len l]
theorem addR_zero : ∀ l, addR l 0 = l
  | [] => rfl
  | x :: l => by
    have := x.toNat_lt
    rw [addR, show (0 + x.toNat) / 256 = 0 by omega, addR_zero l]
    simp
theorem addR_add : ∀ l m n, addR (addR l m) n = addR l (m + n)
  | [], _, _ => rfl
  | x :: l, m, n => by
    have hx := x.toNat_lt
    have hu : (UInt8.ofNat (m + x.toNat)).toNat = (m + x.toNat) % 256 := by simp
    rw [addR, addR, addR, addR_add l, hu]
    congr 1
    · apply UInt8.toNat_inj.1; simp; omega
    · congr 1; omega
/-- a counter, so much later -/
def later (c : List UInt8) (n : Nat) : List UInt8 := (addR c.reverse n).reverse
theorem later_len (c : List UInt8) (n : Nat) : (later c n).length = c.length := by simp [later, addR_len]
theorem later_zero (c : List UInt8) : later c 0 = c := by simp [later, addR_zero]
theorem later_add (c : List UInt8) (m n : Nat) : later (later c m) n = later c (m + n) := by simp [later, addR_add]
def next (c : List UInt8) : List UInt8 := later c 1
theorem next_len (c : List UInt8) : (next c).length = c.length := later_len c 1
theorem later_succ (c : List UInt8) (n : Nat) : later c (n + 1) = next (later c n) := (later_add c n 1).symm
/-- what is added to a list behind whose last byte there is a carry -/
theorem later_snoc (c : List UInt8) (x : UInt8) (n : Nat) : later (c ++ [x]) n = later c ((n + x.toNat) / 256) ++ [UInt8.ofNat (n + x.toNat)] := by
  simp [later, addR]
/-- the blocks of a row -/
def block (L c : List UInt8) (i : Nat) : List UInt8 := encrypt L (later c i)
theorem block_len (L c : List UInt8) (i : Nat) : (block L c i).length = 16 := encrypt_len _ _
def row (L c : List UInt8) : Nat → List UInt8
  | 0 => []
  | k + 1 => row L c k ++ block L c k
theorem row_len (L c : List UInt8) : ∀ k, (row L c k).length = 16 * k
  | 0 => rfl
  | k + 1 => by rw [row, List.length_append, row_len L c k, block_len]; omega
theorem row_take (L c : List UInt8) (size : Nat) : ∀ k j, size ≤ 16 * k → k ≤ j → (row L c j).take size = (row L c k).take size
  | k, j, h, hj => by
    obtain ⟨d, rfl⟩ : ∃ d, j = k + d := ⟨j - k, by omega⟩
    clear hj
    induction d with
    | zero => rfl
    | succ d ih => rw [show k + (d + 1) = (k + d) + 1 by omega, row, List.take_append_of_le_length (by rw [row_len]; omega), ih]
/-- so many bytes of a row -/
def stream (L c : List UInt8) (size : Nat) : List UInt8 := (row L c ((size + 15) / 16)).take size
theorem stream_len (L c : List UInt8) (size : Nat) : (stream L c size).length = size := by rw [stream, List.length_take, row_len]; omega
theorem stream_take (L c : List UInt8) (m n : Nat) (h : m ≤ n) : (stream L c n).take m = stream L c m := by
  rw [stream, stream, List.take_take, Nat.min_eq_left h]
  exact row_take L c m _ _ (by omega) (by omega)
/-- counters while a carry goes on -/
theorem next_stop (t : List UInt8) (x : UInt8) (h : x + 1 ≠ 0) : next (t ++ [x]) = t ++ [x + 1] := by
  have hx : x.toNat ≠ 255 := fun e => h (by apply UInt8.toNat_inj.1; rw [UInt8.toNat_add, e]; rfl)
  have := x.toNat_lt
  rw [next, later_snoc, show (1 + x.toNat) / 256 = 0 by omega, later_zero]
  congr 2
  apply UInt8.toNat_inj.1
  rw [UInt8.toNat_add]; simp; omega
theorem next_go (t : List UInt8) (x : UInt8) (h : x + 1 = 0) : next (t ++ [x]) = next t ++ [0] := by
  have hx : x.toNat = 255 := by
    have h1 := congrArg UInt8.toNat h
    have := x.toNat_lt
    rw [UInt8.toNat_add] at h1
    simp at h1
    omega
  rw [next, later_snoc, hx]
  rfl
theorem take_snoc (c : List UInt8) (j : Nat) (h : j < c.length) : c.take (j + 1) = c.take j ++ [c.getD j 0] := by
  rw [List.take_succ_eq_append_getElem h]; simp [List.getD, List.getElem?_eq_getElem h]
theorem set_mid (c suf : List UInt8) (j : Nat) (x : UInt8) (h : j < c.length) : (c.take (j + 1) ++ suf).set j x = c.take j ++ (x :: suf) := by
  rw [take_snoc c j h, List.append_assoc, List.set_append_right _ _ (by simp; omega)]
  simp [Nat.min_eq_left (Nat.le_of_lt h)]
theorem get_mid (c suf : List UInt8) (j : Nat) (h : j < c.length) : (c.take (j + 1) ++ suf).getD j 0 = c.getD j 0 := by
  simp [List.getD, List.getElem?_append_left (show j < (c.take (j + 1)).length by simp; omega), List.getElem?_take]
theorem next_here (c suf : List UInt8) (j : Nat) (hj : j < c.length) (h : next c = next (c.take (j + 1)) ++ suf) (hx : c.getD j 0 + 1 ≠ 0 ∨ j = 0) : next c = c.take j ++ ((c.getD j 0 + 1) :: suf) := by
  rw [h, take_snoc c j hj]
  by_cases h0 : c.getD j 0 + 1 = 0
  · rcases hx with hx | rfl
    · exact absurd h0 hx
    · rw [next_go _ _ h0, h0]; rfl
  · rw [next_stop _ _ h0, List.append_assoc]; rfl
theorem next_on (c suf : List UInt8) (j : Nat) (hj : j < c.length) (h : next c = next (c.take (j + 1)) ++ suf) (hx : c.getD j 0 + 1 = 0) : next c = next (c.take j) ++ (0 :: suf) := by
  rw [h, take_snoc c j hj, next_go _ _ hx, List.append_assoc]; rfl
theorem next_nil : next [] = [] := rfl
theorem later_nil (n : Nat) : later [] n = [] := rfl
theorem later_on (c suf : List UInt8) (j n m : Nat) (hj : j < c.length) (h : later c n = later (c.take (j + 1)) m ++ suf) : later c n = later (c.take j) ((m + (c.getD j 0).toNat) / 256) ++ (UInt8.ofNat (m + (c.getD j 0).toNat) :: suf) := by
  rw [h, take_snoc c j hj, later_snoc, List.append_assoc]; rfl
end Go.Proofs.Yteecbjpnnklbpaa.Ctr
