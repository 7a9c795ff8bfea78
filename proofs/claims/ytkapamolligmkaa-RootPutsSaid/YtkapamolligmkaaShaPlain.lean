/- SHA-256 as a plain function of lists; nothing of the program. -/
import Derived.Test.YtkapamolligmkaaNumPlain
namespace Go.Proofs.Ytkapamolligmkaa.Sha

def kTab : List UInt32 := [
  0x428a2f98, 0x71374491, 0xb5c0fbcf, 0xe9b5dba5, 0x3956c25b, 0x59f111f1, 0x923f82a4, 0xab1c5ed5,
  0xd807aa98, 0x12835b01, 0x243185be, 0x550c7dc3, 0x72be5d74, 0x80deb1fe, 0x9bdc06a7, 0xc19bf174,
  0xe49b69c1, 0xefbe4786, 0x0fc19dc6, 0x240ca1cc, 0x2de92c6f, 0x4a7484aa, 0x5cb0a9dc, 0x76f988da,
  0x983e5152, 0xa831c66d, 0xb00327c8, 0xbf597fc7, 0xc6e00bf3, 0xd5a79147, 0x06ca6351, 0x14292967,
  0x27b70a85, 0x2e1b2138, 0x4d2c6dfc, 0x53380d13, 0x650a7354, 0x766a0abb, 0x81c2c92e, 0x92722c85,
  0xa2bfe8a1, 0xa81a664b, 0xc24b8b70, 0xc76c51a3, 0xd192e819, 0xd6990624, 0xf40e3585, 0x106aa070,
  0x19a4c116, 0x1e376c08, 0x2748774c, 0x34b0bcb5, 0x391c0cb3, 0x4ed8aa4a, 0x5b9cca4f, 0x682e6ff3,
  0x748f82ee, 0x78a5636f, 0x84c87814, 0x8cc70208, 0x90befffa, 0xa4506ceb, 0xbef9a3f7, 0xc67178f2]
theorem kTab_len : kTab.length = 64 := rfl
def kAt (t : Nat) : UInt32 := kTab.getD t 0

/-- turned to the right by n, 0 < n < 32 -/
def rot (x : UInt32) (n : Nat) : UInt32 := (x <<< (UInt32.ofNat (32 - n))) ||| (x >>> (UInt32.ofNat n))
def low (x : UInt32) : UInt32 := rot x 7 ^^^ rot x 18 ^^^ (x >>> 3)
def high (x : UInt32) : UInt32 := rot x 17 ^^^ rot x 19 ^^^ (x >>> 10)

def be32 (b : List UInt8) (t : Nat) : UInt32 := UInt32.ofNat (Num.getN ((b.drop (4 * t)).take 4))
def wnext (b : List UInt8) (l : List UInt32) : UInt32 :=
  if l.length < 16 then be32 b l.length else
    high (l.getD (l.length - 2) 0) + l.getD (l.length - 7) 0 + low (l.getD (l.length - 15) 0) + l.getD (l.length - 16) 0
def wl (b : List UInt8) : Nat → List UInt32
  | 0 => []
  | k + 1 => wl b k ++ [wnext b (wl b k)]
theorem wl_len (b : List UInt8) : ∀ k, (wl b k).length = k
  | 0 => rfl
  | k + 1 => by simp [wl, wl_len b k]
/-- what Words tells -/
def words (b : List UInt8) : List UInt32 := if b.length = 64 then wl b 64 else List.replicate 64 0
theorem words_len (b : List UInt8) : (words b).length = 64 := by
  unfold words; split
  · exact wl_len b 64
  · simp
/-- the words while k of them are there -/
def wpart (b : List UInt8) (k : Nat) : List UInt32 := wl b k ++ List.replicate (64 - k) 0
theorem wpart_len (b : List UInt8) (k : Nat) (h : k ≤ 64) : (wpart b k).length = 64 := by simp [wpart, wl_len]; omega
theorem wpart_zero (b : List UInt8) : wpart b 0 = List.replicate 64 0 := rfl
theorem wpart_all (b : List UInt8) : wpart b 64 = wl b 64 := by simp [wpart]
theorem wpart_set (b : List UInt8) (k : Nat) (h : k < 64) : (wpart b k).set k (wnext b (wl b k)) = wpart b (k + 1) := by
  unfold wpart
  rw [show 64 - k = (64 - (k + 1)) + 1 by omega, List.replicate_succ, List.set_append_right _ _ (by rw [wl_len]; omega), wl_len, Nat.sub_self, List.set_cons_zero]
  simp [wl]
theorem wpart_get (b : List UInt8) (k j : Nat) (h : j < k) : (wpart b k).getD j 0 = (wl b k).getD j 0 := by
  unfold wpart
  simp [List.getD, List.getElem?_append_left (show j < (wl b k).length by rw [wl_len]; exact h)]
theorem wnext_lo (b : List UInt8) (k : Nat) (h : k < 16) : wnext b (wl b k) = be32 b k := by
  unfold wnext; rw [wl_len, if_pos h]
theorem wnext_hi (b : List UInt8) (k : Nat) (h : 16 ≤ k) : wnext b (wl b k) = high ((wpart b k).getD (k - 2) 0) + (wpart b k).getD (k - 7) 0 + low ((wpart b k).getD (k - 15) 0) + (wpart b k).getD (k - 16) 0 := by
  unfold wnext; rw [wl_len, if_neg (by omega), wpart_get _ _ _ (by omega), wpart_get _ _ _ (by omega), wpart_get _ _ _ (by omega), wpart_get _ _ _ (by omega)]

structure H8 where
  a : UInt32
  b : UInt32
  c : UInt32
  d : UInt32
  e : UInt32
  f : UInt32
  g : UInt32
  h : UInt32
def H8.list (s : H8) : List UInt32 := [s.a, s.b, s.c, s.d, s.e, s.f, s.g, s.h]
def xOf (s : H8) (k w : UInt32) : UInt32 := s.h + (rot s.e 6 ^^^ rot s.e 11 ^^^ rot s.e 25) + (s.g ^^^ (s.e &&& (s.f ^^^ s.g))) + k + w
def yOf (s : H8) : UInt32 := (rot s.a 2 ^^^ rot s.a 13 ^^^ rot s.a 22) + (s.a &&& s.b ||| s.c &&& (s.a ||| s.b))
def round (s : H8) (k w : UInt32) : H8 := ⟨xOf s k w + yOf s, s.a, s.b, s.c, s.d + xOf s k w, s.e, s.f, s.g⟩
def rounds (w : List UInt32) (s : H8) : Nat → H8
  | 0 => s
  | t + 1 => round (rounds w s t) (kAt t) (w.getD t 0)
def H8.add (s r : H8) : H8 := ⟨s.a + r.a, s.b + r.b, s.c + r.c, s.d + r.d, s.e + r.e, s.f + r.f, s.g + r.g, s.h + r.h⟩
def block (s : H8) (b : List UInt8) : H8 := if b.length = 64 then (rounds (wl b 64) s 64).add s else s

/-! the reference's forms -/
theorem ch_eq (e f g : UInt32) : (e &&& f) ^^^ (~~~e &&& g) = g ^^^ (e &&& (f ^^^ g)) := by
  apply UInt32.toBitVec_inj.1
  simp only [UInt32.toBitVec_xor, UInt32.toBitVec_and, UInt32.toBitVec_not]
  apply BitVec.eq_of_getLsbD_eq
  intro i hi
  simp only [BitVec.getLsbD_xor, BitVec.getLsbD_and, BitVec.getLsbD_not, hi, decide_true, Bool.true_and]
  cases e.toBitVec.getLsbD i <;> cases f.toBitVec.getLsbD i <;> cases g.toBitVec.getLsbD i <;> rfl
theorem maj_eq (a b c : UInt32) : (a &&& b) ^^^ (a &&& c) ^^^ (b &&& c) = (a &&& b) ||| (c &&& (a ||| b)) := by
  apply UInt32.toBitVec_inj.1
  simp only [UInt32.toBitVec_xor, UInt32.toBitVec_and, UInt32.toBitVec_or]
  apply BitVec.eq_of_getLsbD_eq
  intro i hi
  simp only [BitVec.getLsbD_xor, BitVec.getLsbD_and, BitVec.getLsbD_or]
  cases a.toBitVec.getLsbD i <;> cases b.toBitVec.getLsbD i <;> cases c.toBitVec.getLsbD i <;> rfl

def first : H8 := ⟨0x6a09e667, 0xbb67ae85, 0x3c6ef372, 0xa54ff53a, 0x510e527f, 0x9b05688c, 0x1f83d9ab, 0x5be0cd19⟩

/-- the padding of a row of n bytes -/
def padB (n : Nat) : List UInt8 := 128 :: List.replicate ((119 - n % 64) % 64) 0 ++ Num.putL (8 * n) 8
theorem padB_len (n : Nat) : (padB n).length = 9 + (119 - n % 64) % 64 := by simp [padB, Num.putL_len]; omega
theorem padB_mod (n : Nat) : (n + (padB n).length) % 64 = 0 := by rw [padB_len]; omega
theorem padB_le (n : Nat) : (padB n).length ≤ 72 := by rw [padB_len]; omega

/-- the k-th whole block of 64 bytes -/
def blk (l : List UInt8) (k : Nat) : List UInt8 := (l.drop (64 * k)).take 64
def turned (l : List UInt8) : Nat → H8
  | 0 => first
  | k + 1 => block (turned l k) (blk l k)
def out8 (s : H8) : List UInt8 := s.list.flatMap fun x => Num.putL x.toNat 4
theorem out8_len (s : H8) : (out8 s).length = 32 := by simp [out8, H8.list, Num.putL_len]
def whole (l : List UInt8) : List UInt8 := l ++ padB l.length
theorem whole_mod (l : List UInt8) : (whole l).length % 64 = 0 := by rw [whole, List.length_append, padB_mod]
def sum (l : List UInt8) : List UInt8 := out8 (turned (whole l) ((whole l).length / 64))
theorem sum_len (l : List UInt8) : (sum l).length = 32 := out8_len _
end Go.Proofs.Ytkapamolligmkaa.Sha
