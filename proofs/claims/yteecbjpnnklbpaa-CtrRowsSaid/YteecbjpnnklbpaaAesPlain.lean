/- AES as plain functions of lists of bytes; nothing of the program. -/
import Derived.Test.YteecbjpnnklbpaaGfPlain
namespace Go.Proofs.Yteecbjpnnklbpaa.Aes
open Go.Proofs.Yteecbjpnnklbpaa.Gf
set_option linter.unusedVariables false

/-- the first k of one list, and the rest of another -/
def part (a b : List UInt8) (k : Nat) : List UInt8 := a.take k ++ b.drop k
theorem part_zero (a b : List UInt8) : part a b 0 = b := by simp [part]
theorem part_all (a b : List UInt8) (n : Nat) (ha : a.length = n) (hb : b.length = n) : part a b n = a := by
  rw [part, List.take_of_length_le (by omega), List.drop_of_length_le (by omega), List.append_nil]
theorem part_len (a b : List UInt8) (k n : Nat) (ha : a.length = n) (hb : b.length = n) (hk : k ≤ n) : (part a b k).length = n := by simp [part, ha, hb]; omega
theorem part_old (a b : List UInt8) (k i n : Nat) (ha : a.length = n) (hb : b.length = n) (hk : k ≤ i) (hi : i < n) : (part a b k).getD i 0 = b.getD i 0 := by
  rw [part, List.getD_eq_getElem?_getD, List.getD_eq_getElem?_getD, List.getElem?_append_right (by simp [ha]; omega), List.getElem?_drop]
  congr 2
  simp [ha]; omega
theorem part_set (a b : List UInt8) (k n : Nat) (ha : a.length = n) (hb : b.length = n) (hk : k < n) : (part a b k).set k (a.getD k 0) = part a b (k + 1) := by
  apply List.ext_getElem
  · rw [List.length_set, part_len a b k n ha hb (by omega), part_len a b (k + 1) n ha hb (by omega)]
  · intro i h1 h2
    rw [List.getElem_set]
    rw [List.length_set, part_len a b k n ha hb (by omega)] at h1
    by_cases e : k = i
    · subst e
      rw [if_pos rfl]
      simp only [part]
      rw [List.getElem_append_left (by simp; omega), List.getElem_take]
      simp [List.getD, List.getElem?_eq_getElem (show k < a.length by omega)]
    · rw [if_neg e]
      simp only [part]
      by_cases l : i < k
      · rw [List.getElem_append_left (by simp; omega), List.getElem_append_left (by simp; omega), List.getElem_take, List.getElem_take]
      · rw [List.getElem_append_right (by simp; omega), List.getElem_append_right (by simp; omega), List.getElem_drop, List.getElem_drop]
        congr 1
        simp; omega

def sub (s : List UInt8) : List UInt8 := s.map box
theorem sub_len (s : List UInt8) : (sub s).length = s.length := by simp [sub]
theorem sub_at (s : List UInt8) (i : Nat) (h : i < s.length) : (sub s).getD i 0 = box (s.getD i 0) := by
  simp [sub, List.getD, List.getElem?_eq_getElem h]
def of16 (f : Nat → UInt8) : List UInt8 := (List.range 16).map f
theorem of16_len (f : Nat → UInt8) : (of16 f).length = 16 := by simp [of16]
theorem of16_at (f : Nat → UInt8) (i : Nat) (h : i < 16) : (of16 f).getD i 0 = f i := by
  simp [of16, List.getD, List.getElem?_map, List.getElem?_range h]
def shift (s : List UInt8) : List UInt8 := of16 fun i => s.getD ((i + 4 * (i % 4)) % 16) 0
theorem shift_len (s : List UInt8) : (shift s).length = 16 := of16_len _
def colOf (s : List UInt8) (c : Nat) : Col := ⟨s.getD (4 * c) 0, s.getD (4 * c + 1) 0, s.getD (4 * c + 2) 0, s.getD (4 * c + 3) 0⟩
def colGet (x : Col) (i : Nat) : UInt8 := if i % 4 = 0 then x.a else if i % 4 = 1 then x.b else if i % 4 = 2 then x.c else x.d
def mixS (s : List UInt8) : List UInt8 := of16 fun i => colGet (mix (colOf s (i / 4))) i
theorem mix_len (s : List UInt8) : (mixS s).length = 16 := of16_len _
def add (s k : List UInt8) : List UInt8 := of16 fun i => s.getD i 0 ^^^ k.getD i 0
theorem add_len (s k : List UInt8) : (add s k).length = 16 := of16_len _
theorem ext16 {a b : List UInt8} (ha : a.length = 16) (hb : b.length = 16) (h : ∀ i, i < 16 → a.getD i 0 = b.getD i 0) : a = b := by
  apply List.ext_getElem (by omega)
  intro i h1 h2
  have := h i (by omega)
  simpa [List.getD, List.getElem?_eq_getElem h1, List.getElem?_eq_getElem h2] using this
end Go.Proofs.Yteecbjpnnklbpaa.Aes
