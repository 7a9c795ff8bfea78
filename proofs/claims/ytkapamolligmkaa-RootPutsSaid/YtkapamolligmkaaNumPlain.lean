/- Numbers as bytes, most significant first: plain functions; nothing of the program. -/
namespace Go.Proofs.Ytkapamolligmkaa.Num

def putL (n size : Nat) : List UInt8 := (List.range size).map fun j => UInt8.ofNat (n / 2 ^ (8 * (size - 1 - j)))
theorem putL_len (n size : Nat) : (putL n size).length = size := by simp [putL]
theorem putL_get (n size j : Nat) (h : j < (putL n size).length) : (putL n size)[j] = UInt8.ofNat (n / 2 ^ (8 * (size - 1 - j))) := by simp [putL]
theorem putL_take (n size j : Nat) (h : j < size) : (putL n size).take (j + 1) = (putL n size).take j ++ [UInt8.ofNat (n / 2 ^ (8 * (size - 1 - j)))] := by
  rw [List.take_succ_eq_append_getElem (by rw [putL_len]; exact h), putL_get]
theorem cell_of (n e : Nat) : ((UInt8.ofNat (n / 2 ^ e)).toNat : Int) = (n : Int) / 2 ^ e % 256 := by
  rw [UInt8.toNat_ofNat', Int.natCast_emod, Int.natCast_ediv, Int.natCast_pow]; rfl
/-- the reference's: the last ones are put first -/
def backL (n size k : Nat) : List UInt8 := (List.range size).map fun i => if i < size - k then 0 else UInt8.ofNat (n / 2 ^ (8 * (size - 1 - i)))
theorem backL_len (n size k : Nat) : (backL n size k).length = size := by simp [backL]
theorem backL_zero (n size : Nat) : backL n size 0 = List.replicate size 0 := by
  apply List.ext_getElem
  · simp [backL]
  · intro i h1 h2
    rw [backL_len] at h1
    simp only [backL, List.getElem_map, List.getElem_range, List.getElem_replicate]
    rw [if_pos (by omega)]
theorem backL_all (n size : Nat) : backL n size size = putL n size := by
  unfold backL putL
  apply List.map_congr_left
  intro i _
  rw [if_neg (by omega)]
theorem backL_set (n size k : Nat) (h : k < size) : (backL n size k).set (size - 1 - k) (UInt8.ofNat (n / 2 ^ (8 * k))) = backL n size (k + 1) := by
  apply List.ext_getElem
  · simp [backL]
  · intro i h1 h2
    rw [List.length_set, backL_len] at h1
    rw [List.getElem_set]
    simp only [backL, List.getElem_map, List.getElem_range]
    by_cases e : size - 1 - k = i
    · subst e
      rw [if_pos rfl, if_neg (by omega), show size - 1 - (size - 1 - k) = k by omega]
    · rw [if_neg e]
      by_cases e2 : i < size - k
      · rw [if_pos e2, if_pos (by omega)]
      · rw [if_neg e2, if_neg (by omega)]
/-- the number that bytes are -/
def getN (l : List UInt8) : Nat := l.foldl (fun n c => n * 256 + c.toNat) 0
theorem getN_snoc (l : List UInt8) (c : UInt8) : getN (l ++ [c]) = getN l * 256 + c.toNat := by simp [getN]
theorem getN_take {l : List UInt8} {k : Nat} (h : k < l.length) : getN (l.take (k + 1)) = getN (l.take k) * 256 + l[k].toNat := by
  rw [List.take_succ_eq_append_getElem h, getN_snoc]
theorem getN_lt (l : List UInt8) : ∀ k, k ≤ l.length → getN (l.take k) < 256 ^ k
  | 0, _ => by simp [getN]
  | k + 1, h => by
    rw [getN_take (by omega), Nat.pow_succ]
    have := getN_lt l k (by omega)
    have := l[k].toNat_lt
    omega
theorem getN_8 (l : List UInt8) (h : l.length ≤ 8) : getN l < 18446744073709551616 := by
  have := getN_lt l l.length (Nat.le_refl _)
  rw [List.take_length] at this
  exact Nat.lt_of_lt_of_le this (Nat.pow_le_pow_right (by omega) h)
theorem getN_7 (l : List UInt8) (k : Nat) (hk : k ≤ l.length) (h : k ≤ 7) : getN (l.take k) < 72057594037927936 := 
  Nat.lt_of_lt_of_le (getN_lt l k hk) (Nat.pow_le_pow_right (by omega) h)
theorem putL_succ (n s : Nat) : putL n (s + 1) = putL (n / 256) s ++ [UInt8.ofNat n] := by
  unfold putL
  rw [List.range_succ, List.map_append]
  congr 1
  · apply List.map_congr_left
    intro j hj
    have hj' := List.mem_range.1 hj
    rw [Nat.div_div_eq_div_mul, show (256 : Nat) = 2 ^ 8 from rfl, ← Nat.pow_add]
    congr 3
    omega
  · simp
theorem getN_putL (n s : Nat) : getN (putL n s) = n % 256 ^ s := by
  induction s generalizing n with
  | zero => simp [putL, getN, Nat.mod_one]
  | succ s ih =>
    have h := Nat.mod_mul (x := n) (a := 256) (b := 256 ^ s)
    rw [putL_succ, getN_snoc, ih, UInt8.toNat_ofNat', show 256 ^ (s + 1) = 256 * 256 ^ s by rw [Nat.pow_succ, Nat.mul_comm], h, show (2 : Nat) ^ 8 = 256 from rfl]
    omega
end Go.Proofs.Ytkapamolligmkaa.Num
