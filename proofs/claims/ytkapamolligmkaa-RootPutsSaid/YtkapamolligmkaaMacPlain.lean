/- HMAC and HKDF with SHA-256 as plain functions of lists; nothing of the program. -/
import Derived.Test.YtkapamolligmkaaShaPlain
namespace Go.Proofs.Ytkapamolligmkaa.Mac
open Go.Proofs.Ytkapamolligmkaa.Sha (sum sum_len)

/-- filled up with noughts, or cut, to n bytes -/
def padTo (l : List UInt8) (n : Nat) : List UInt8 := l.take n ++ List.replicate (n - l.length) 0
theorem padTo_len (l : List UInt8) (n : Nat) : (padTo l n).length = n := by simp [padTo]; omega
def key (k : List UInt8) : List UInt8 := padTo (if 64 < k.length then sum k else k) 64
theorem key_len (k : List UInt8) : (key k).length = 64 := padTo_len _ _
def over (k : List UInt8) (c : UInt8) : List UInt8 := k.map fun x => x ^^^ c
theorem over_len (k : List UInt8) (c : UInt8) : (over k c).length = k.length := by simp [over]
def inner (k t : List UInt8) : List UInt8 := sum (over (key k) 0x36 ++ t)
def mac (k t : List UInt8) : List UInt8 := sum (over (key k) 0x5c ++ inner k t)
theorem mac_len (k t : List UInt8) : (mac k t).length = 32 := sum_len _
def two (k a b : List UInt8) : List UInt8 := mac k (Num.putL a.length 4 ++ a ++ b)
theorem padTo_self (l : List UInt8) (n : Nat) (h : l.length = n) : padTo l n = l := by subst h; simp [padTo]
theorem key_key (k : List UInt8) : key (key k) = key k := by
  rw [key, key_len, if_neg (by omega), padTo_self _ _ (key_len k)]
theorem mac_key (k t : List UInt8) : mac (key k) t = mac k t := by
  unfold mac inner; rw [key_key]
theorem mac_zeros (k t : List UInt8) (n : Nat) (h : k.length + n ≤ 64) : mac (k ++ List.replicate n 0) t = mac k t := by
  have hk : key (k ++ List.replicate n 0) = key k := by
    unfold key padTo
    rw [if_neg (by simp; omega), if_neg (by omega), List.take_of_length_le (by simp; omega), List.take_of_length_le (by omega), List.append_assoc, List.replicate_append_replicate]
    congr 2
    simp; omega
  unfold mac inner; rw [hk]
end Go.Proofs.Ytkapamolligmkaa.Mac
namespace Go.Proofs.Ytkapamolligmkaa.Kdf
open Go.Proofs.Ytkapamolligmkaa.Mac (mac mac_len)

/-- the n-th tag; before the first one: none -/
def tag (k info : List UInt8) : Nat → List UInt8
  | 0 => []
  | n + 1 => mac k (tag k info n ++ info ++ [UInt8.ofNat (n + 1)])
theorem tag_len (k info : List UInt8) (n : Nat) : (tag k info (n + 1)).length = 32 := mac_len _ _
theorem tag_le (k info : List UInt8) : ∀ n, (tag k info n).length ≤ 32
  | 0 => by simp [tag]
  | n + 1 => by rw [tag_len]; omega
/-- n tags, one behind the other -/
def tags (k info : List UInt8) : Nat → List UInt8
  | 0 => []
  | n + 1 => tags k info n ++ tag k info (n + 1)
theorem tags_len (k info : List UInt8) : ∀ n, (tags k info n).length = 32 * n
  | 0 => rfl
  | n + 1 => by rw [tags, List.length_append, tags_len k info n, tag_len]; omega
theorem tags_take (k info : List UInt8) (n m : Nat) : (tags k info (n + m)).take (32 * n) = tags k info n := by
  induction m with
  | zero => rw [Nat.add_zero, List.take_of_length_le (by rw [tags_len]; omega)]
  | succ m ih => rw [← Nat.add_assoc, tags, List.take_append_of_le_length (by rw [tags_len]; omega), ih]
/-- how many tags so many bytes want -/
def many (size : Nat) : Nat := (size + 31) / 32
def expand (k info : List UInt8) (size : Nat) : List UInt8 := (tags k info (many size)).take size
theorem expand_len (k info : List UInt8) (size : Nat) : (expand k info size).length = size := by
  rw [expand, List.length_take, tags_len]; unfold many; omega
theorem expand_fewer (k info : List UInt8) (size more : Nat) : (expand k info (size + more)).take size = expand k info size := by
  unfold expand
  rw [List.take_take, Nat.min_eq_left (by omega)]
  have h : many (size + more) = many size + (many (size + more) - many size) := by unfold many; omega
  have h2 := tags_take k info (many size) (many (size + more) - many size)
  rw [← h] at h2
  rw [← h2, List.take_take, Nat.min_eq_left (by unfold many; omega)]
def prefixB : List UInt8 := [111, 117, 98, 108, 105, 101, 116, 116, 101, 32]
def infoB (label : List UInt8) : List UInt8 := [0, 32, UInt8.ofNat (prefixB ++ label).length] ++ (prefixB ++ label)
def derive (k label : List UInt8) : List UInt8 := expand k (infoB label) 32
theorem derive_len (k label : List UInt8) : (derive k label).length = 32 := expand_len _ _ _
def chain (k label : List UInt8) : Nat → List UInt8
  | 0 => k
  | n + 1 => derive (chain k label n) label
theorem chain_add (k label : List UInt8) (n : Nat) : ∀ m, chain (chain k label n) label m = chain k label (n + m)
  | 0 => rfl
  | m + 1 => by rw [chain, chain_add k label n m, ← Nat.add_assoc, chain]
end Go.Proofs.Ytkapamolligmkaa.Kdf
