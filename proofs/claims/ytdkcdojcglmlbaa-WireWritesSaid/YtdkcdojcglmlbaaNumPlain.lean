/- Numbers as bytes, most significant first: plain functions; nothing of the program. -/
namespace Go.Proofs.Ytdkcdojcglmlbaa.Num

def putL (n size : Nat) : List UInt8 := (List.range size).map fun j => UInt8.ofNat (n / 2 ^ (8 * (size - 1 - j)))
theorem putL_len (n size : Nat) : (putL n size).length = size := by simp [putL]
theorem putL_get (n size j : Nat) (h : j < (putL n size).length) : (putL n size)[j] = UInt8.ofNat (n / 2 ^ (8 * (size - 1 - j))) := by simp [putL]
theorem putL_take (n size j : Nat) (h : j < size) : (putL n size).take (j + 1) = (putL n size).take j ++ [UInt8.ofNat (n / 2 ^ (8 * (size - 1 - j)))] := by
  rw [List.take_succ_eq_append_getElem (by rw [putL_len]; exact h), putL_get]
theorem cell_of (n e : Nat) : ((UInt8.ofNat (n / 2 ^ e)).toNat : Int) = (n : Int) / 2 ^ e % 256 := by
  rw [UInt8.toNat_ofNat', Int.natCast_emod, Int.natCast_ediv, Int.natCast_pow]; rfl
/-- the reference's: the last ones are put first -/
def backL (n size k : Nat) : List UInt8 := (List.range size).map fun i => if i < size - k then 0 else UInt8.ofNat (n / 2 ^ (8 * (size - 1 - i)))
theorem backL_len (n size k : Nat) : (backL n size k).length = size := by simp [backL]
theorem backL_zero (n size : Nat) : backL n size 0 = List.replicate size 0 := by
  apply List.ext_getElem
  · simp [backL]
  · intro i h1 h2
    rw [backL_len] at h1
    simp only [backL, List.getElem_map, List.getElem_range, List.getElem_replicate]
    rw [if_pos (by omega)]
theorem backL_all (n size : Nat) : backL n size size = putL n size := by
  unfold backL putL
  apply List.map_congr_left
  intro i _
  rw [if_neg (by omega)]
theorem backL_set (n size k : Nat) (h : k < size) : (backL n size k).set (size - 1 - k) (UInt8.ofNat (n / 2 ^ (8 * k))) = backL n size (k + 1) := by
  apply List.ext_getElem
  · simp [backL]
  · intro i h1 h2
    rw [List.length_set, backL_len] at h1
    rw [List.getElem_set]
    simp only [backL, List.getElem_map, List.getElem_range]
    by_cases e : size - 1 - k = i
    · subst e
      rw [if_pos rfl, if_neg (by omega), show size - 1 - (size - 1 - k) = k by omega]
    · rw [if_neg e]
      by_cases e2 : i < size - k
      · rw [if_pos e2, if_pos (by omega)]
      · rw [if_neg e2, if_neg (by omega)]
end Go.Proofs.Ytdkcdojcglmlbaa.Num
