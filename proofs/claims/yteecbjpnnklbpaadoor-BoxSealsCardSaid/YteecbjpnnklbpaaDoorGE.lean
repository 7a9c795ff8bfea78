/- Texts of this claim, joined: ShaPlain, MacPlain, Sha, ShaW, ShaB, Cat, Chunk. -/
import Derived.Test.YteecbjpnnklbpaaDoorGA
import Derived.Outline
import Derived.Deep.QuietTactic
import Derived.BigQuiet
import Derived.Test.YteecbjpnnklbpaaDoorRows
import Derived.WalkSpells
import Derived.RangeFuncNested
import Derived.RangeFuncBound
import Derived.RangeFuncCalls
import Derived.RangeFuncLeaves
import Derived.RangeFuncBox
import Derived.Shelf.Abstract
import Derived.Shelf.RegionOpen
import Derived.WalkKit
import Derived.OwnWalkIn
import Derived.TacticsInMore
import Derived.LoopNIn
import Derived.LoopIn
import Derived.Sort.QuietIn
/- SHA-256 as a plain function of lists; nothing of the program. -/
namespace Go.Proofs.YteecbjpnnklbpaaDoor.Sha

def kTab : List UInt32 := [
  0x428a2f98, 0x71374491, 0xb5c0fbcf, 0xe9b5dba5, 0x3956c25b, 0x59f111f1, 0x923f82a4, 0xab1c5ed5,
  0xd807aa98, 0x12835b01, 0x243185be, 0x550c7dc3, 0x72be5d74, 0x80deb1fe, 0x9bdc06a7, 0xc19bf174,
  0xe49b69c1, 0xefbe4786, 0x0fc19dc6, 0x240ca1cc, 0x2de92c6f, 0x4a7484aa, 0x5cb0a9dc, 0x76f988da,
  0x983e5152, 0xa831c66d, 0xb00327c8, 0xbf597fc7, 0xc6e00bf3, 0xd5a79147, 0x06ca6351, 0x14292967,
  0x27b70a85, 0x2e1b2138, 0x4d2c6dfc, 0x53380d13, 0x650a7354, 0x766a0abb, 0x81c2c92e, 0x92722c85,
  0xa2bfe8a1, 0xa81a664b, 0xc24b8b70, 0xc76c51a3, 0xd192e819, 0xd6990624, 0xf40e3585, 0x106aa070,
  0x19a4c116, 0x1e376c08, 0x2748774c, 0x34b0bcb5, 0x391c0cb3, 0x4ed8aa4a, 0x5b9cca4f, 0x682e6ff3,
  0x748f82ee, 0x78a5636f, 0x84c87814, 0x8cc70208, 0x90befffa, 0xa4506ceb, 0xbef9a3f7, 0xc67178f2]
theorem kTab_len : kTab.length = 64 := rfl
def kAt (t : Nat) : UInt32 := kTab.getD t 0

/-- turned to the right by n, 0 < n < 32 -/
def rot (x : UInt32) (n : Nat) : UInt32 := (x <<< (UInt32.ofNat (32 - n))) ||| (x >>> (UInt32.ofNat n))
def low (x : UInt32) : UInt32 := rot x 7 ^^^ rot x 18 ^^^ (x >>> 3)
def high (x : UInt32) : UInt32 := rot x 17 ^^^ rot x 19 ^^^ (x >>> 10)

def be32 (b : List UInt8) (t : Nat) : UInt32 := UInt32.ofNat (Num.getN ((b.drop (4 * t)).take 4))
def wnext (b : List UInt8) (l : List UInt32) : UInt32 :=
  if l.length < 16 then be32 b l.length else
    high (l.getD (l.length - 2) 0) + l.getD (l.length - 7) 0 + low (l.getD (l.length - 15) 0) + l.getD (l.length - 16) 0
def wl (b : List UInt8) : Nat → List UInt32
  | 0 => []
  | k + 1 => wl b k ++ [wnext b (wl b k)]
theorem wl_len (b : List UInt8) : ∀ k, (wl b k).length = k
  | 0 => rfl
  | k + 1 => by simp [wl, wl_len b k]
/-- what Words tells -/
def words (b : List UInt8) : List UInt32 := if b.length = 64 then wl b 64 else List.replicate 64 0
theorem words_len (b : List UInt8) : (words b).length = 64 := by
  unfold words; split
  · exact wl_len b 64
  · simp
/-- the words while k of them are there -/
def wpart (b : List UInt8) (k : Nat) : List UInt32 := wl b k ++ List.replicate (64 - k) 0
theorem wpart_len (b : List UInt8) (k : Nat) (h : k ≤ 64) : (wpart b k).length = 64 := by simp [wpart, wl_len]; omega
theorem wpart_zero (b : List UInt8) : wpart b 0 = List.replicate 64 0 := rfl
theorem wpart_all (b : List UInt8) : wpart b 64 = wl b 64 := by simp [wpart]
theorem wpart_set (b : List UInt8) (k : Nat) (h : k < 64) : (wpart b k).set k (wnext b (wl b k)) = wpart b (k + 1) := by
  unfold wpart
  rw [show 64 - k = (64 - (k + 1)) + 1 by omega, List.replicate_succ, List.set_append_right _ _ (by rw [wl_len]; omega), wl_len, Nat.sub_self, List.set_cons_zero]
  simp [wl]
theorem wpart_get (b : List UInt8) (k j : Nat) (h : j < k) : (wpart b k).getD j 0 = (wl b k).getD j 0 := by
  unfold wpart
  simp [List.getD, List.getElem?_append_left (show j < (wl b k).length by rw [wl_len]; exact h)]
theorem wnext_lo (b : List UInt8) (k : Nat) (h : k < 16) : wnext b (wl b k) = be32 b k := by
  unfold wnext; rw [wl_len, if_pos h]
theorem wnext_hi (b : List UInt8) (k : Nat) (h : 16 ≤ k) : wnext b (wl b k) = high ((wpart b k).getD (k - 2) 0) + (wpart b k).getD (k - 7) 0 + low ((wpart b k).getD (k - 15) 0) + (wpart b k).getD (k - 16) 0 := by
  unfold wnext; rw [wl_len, if_neg (by omega), wpart_get _ _ _ (by omega), wpart_get _ _ _ (by omega), wpart_get _ _ _ (by omega), wpart_get _ _ _ (by omega)]

structure H8 where
  a : UInt32
  b : UInt32
  c : UInt32
  d : UInt32
  e : UInt32
  f : UInt32
  g : UInt32
  h : UInt32
def H8.list (s : H8) : List UInt32 := [s.a, s.b, s.c, s.d, s.e, s.f, s.g, s.h]
def xOf (s : H8) (k w : UInt32) : UInt32 := s.h + (rot s.e 6 ^^^ rot s.e 11 ^^^ rot s.e 25) + (s.g ^^^ (s.e &&& (s.f ^^^ s.g))) + k + w
def yOf (s : H8) : UInt32 := (rot s.a 2 ^^^ rot s.a 13 ^^^ rot s.a 22) + (s.a &&& s.b ||| s.c &&& (s.a ||| s.b))
def round (s : H8) (k w : UInt32) : H8 := ⟨xOf s k w + yOf s, s.a, s.b, s.c, s.d + xOf s k w, s.e, s.f, s.g⟩
def rounds (w : List UInt32) (s : H8) : Nat → H8
  | 0 => s
  | t + 1 => round (rounds w s t) (kAt t) (w.getD t 0)
def H8.add (s r : H8) : H8 := ⟨s.a + r.a, s.b + r.b, s.c + r.c, s.d + r.d, s.e + r.e, s.f + r.f, s.g + r.g, s.h + r.h⟩
def block (s : H8) (b : List UInt8) : H8 := if b.length = 64 then (rounds (wl b 64) s 64).add s else s

/-! the reference's forms -/
theorem ch_eq (e f g : UInt32) : (e &&& f) ^^^ (~~~e &&& g) = g ^^^ (e &&& (f ^^^ g)) := by
  apply UInt32.toBitVec_inj.1
  simp only [UInt32.toBitVec_xor, UInt32.toBitVec_and, UInt32.toBitVec_not]
  apply BitVec.eq_of_getLsbD_eq
  intro i hi
  simp only [BitVec.getLsbD_xor, BitVec.getLsbD_and, BitVec.getLsbD_not, hi, decide_true, Bool.true_and]
  cases e.toBitVec.getLsbD i <;> cases f.toBitVec.getLsbD i <;> cases g.toBitVec.getLsbD i <;> rfl
theorem maj_eq (a b c : UInt32) : (a &&& b) ^^^ (a &&& c) ^^^ (b &&& c) = (a &&& b) ||| (c &&& (a ||| b)) := by
  apply UInt32.toBitVec_inj.1
  simp only [UInt32.toBitVec_xor, UInt32.toBitVec_and, UInt32.toBitVec_or]
  apply BitVec.eq_of_getLsbD_eq
  intro i hi
  simp only [BitVec.getLsbD_xor, BitVec.getLsbD_and, BitVec.getLsbD_or]
  cases a.toBitVec.getLsbD i <;> cases b.toBitVec.getLsbD i <;> cases c.toBitVec.getLsbD i <;> rfl

def first : H8 := ⟨0x6a09e667, 0xbb67ae85, 0x3c6ef372, 0xa54ff53a, 0x510e527f, 0x9b05688c, 0x1f83d9ab, 0x5be0cd19⟩

/-- the padding of a row of n bytes -/
def padB (n : Nat) : List UInt8 := 128 :: List.replicate ((119 - n % 64) % 64) 0 ++ Num.putL (8 * n) 8
theorem padB_len (n : Nat) : (padB n).length = 9 + (119 - n % 64) % 64 := by simp [padB, Num.putL_len]; omega
theorem padB_mod (n : Nat) : (n + (padB n).length) % 64 = 0 := by rw [padB_len]; omega
theorem padB_le (n : Nat) : (padB n).length ≤ 72 := by rw [padB_len]; omega

/-- the k-th whole block of 64 bytes -/
def blk (l : List UInt8) (k : Nat) : List UInt8 := (l.drop (64 * k)).take 64
def turned (l : List UInt8) : Nat → H8
  | 0 => first
  | k + 1 => block (turned l k) (blk l k)
def out8 (s : H8) : List UInt8 := s.list.flatMap fun x => Num.putL x.toNat 4
theorem out8_len (s : H8) : (out8 s).length = 32 := by simp [out8, H8.list, Num.putL_len]
def whole (l : List UInt8) : List UInt8 := l ++ padB l.length
theorem whole_mod (l : List UInt8) : (whole l).length % 64 = 0 := by rw [whole, List.length_append, padB_mod]
def sum (l : List UInt8) : List UInt8 := out8 (turned (whole l) ((whole l).length / 64))
theorem sum_len (l : List UInt8) : (sum l).length = 32 := out8_len _
end Go.Proofs.YteecbjpnnklbpaaDoor.Sha

/- HMAC and HKDF with SHA-256 as plain functions of lists; nothing of the program. -/
namespace Go.Proofs.YteecbjpnnklbpaaDoor.Mac
open Go.Proofs.YteecbjpnnklbpaaDoor.Sha (sum sum_len)

/-- filled up with noughts, or cut, to n bytes -/
def padTo (l : List UInt8) (n : Nat) : List UInt8 := l.take n ++ List.replicate (n - l.length) 0
theorem padTo_len (l : List UInt8) (n : Nat) : (padTo l n).length = n := by simp [padTo]; omega
def key (k : List UInt8) : List UInt8 := padTo (if 64 < k.length then sum k else k) 64
theorem key_len (k : List UInt8) : (key k).length = 64 := padTo_len _ _
def over (k : List UInt8) (c : UInt8) : List UInt8 := k.map fun x => x ^^^ c
theorem over_len (k : List UInt8) (c : UInt8) : (over k c).length = k.length := by simp [over]
def inner (k t : List UInt8) : List UInt8 := sum (over (key k) 0x36 ++ t)
def mac (k t : List UInt8) : List UInt8 := sum (over (key k) 0x5c ++ inner k t)
theorem mac_len (k t : List UInt8) : (mac k t).length = 32 := sum_len _
def two (k a b : List UInt8) : List UInt8 := mac k (Num.putL a.length 4 ++ a ++ b)
theorem padTo_self (l : List UInt8) (n : Nat) (h : l.length = n) : padTo l n = l := by subst h; simp [padTo]
theorem key_key (k : List UInt8) : key (key k) = key k := by
  rw [key, key_len, if_neg (by omega), padTo_self _ _ (key_len k)]
theorem mac_key (k t : List UInt8) : mac (key k) t = mac k t := by
  unfold mac inner; rw [key_key]
theorem mac_zeros (k t : List UInt8) (n : Nat) (h : k.length + n ≤ 64) : mac (k ++ List.replicate n 0) t = mac k t := by
  have hk : key (k ++ List.replicate n 0) = key k := by
    unfold key padTo
    rw [if_neg (by simp; omega), if_neg (by omega), List.take_of_length_le (by simp; omega), List.take_of_length_le (by omega), List.append_assoc, List.replicate_append_replicate]
    congr 2
    simp; omega
  unfold mac inner; rw [hk]
end Go.Proofs.YteecbjpnnklbpaaDoor.Mac
namespace Go.Proofs.YteecbjpnnklbpaaDoor.Kdf
open Go.Proofs.YteecbjpnnklbpaaDoor.Mac (mac mac_len)

/-- the n-th tag; before the first one: none -/
def tag (k info : List UInt8) : Nat → List UInt8
  | 0 => []
  | n + 1 => mac k (tag k info n ++ info ++ [UInt8.ofNat (n + 1)])
theorem tag_len (k info : List UInt8) (n : Nat) : (tag k info (n + 1)).length = 32 := mac_len _ _
theorem tag_le (k info : List UInt8) : ∀ n, (tag k info n).length ≤ 32
  | 0 => by simp [tag]
  | n + 1 => by rw [tag_len]; omega
/-- n tags, one behind the other -/
def tags (k info : List UInt8) : Nat → List UInt8
  | 0 => []
  | n + 1 => tags k info n ++ tag k info (n + 1)
theorem tags_len (k info : List UInt8) : ∀ n, (tags k info n).length = 32 * n
  | 0 => rfl
  | n + 1 => by rw [tags, List.length_append, tags_len k info n, tag_len]; omega
theorem tags_take (k info : List UInt8) (n m : Nat) : (tags k info (n + m)).take (32 * n) = tags k info n := by
  induction m with
  | zero => rw [Nat.add_zero, List.take_of_length_le (by rw [tags_len]; omega)]
  | succ m ih => rw [← Nat.add_assoc, tags, List.take_append_of_le_length (by rw [tags_len]; omega), ih]
/-- how many tags so many bytes want -/
def many (size : Nat) : Nat := (size + 31) / 32
def expand (k info : List UInt8) (size : Nat) : List UInt8 := (tags k info (many size)).take size
theorem expand_len (k info : List UInt8) (size : Nat) : (expand k info size).length = size := by
  rw [expand, List.length_take, tags_len]; unfold many; omega
theorem expand_fewer (k info : List UInt8) (size more : Nat) : (expand k info (size + more)).take size = expand k info size := by
  unfold expand
  rw [List.take_take, Nat.min_eq_left (by omega)]
  have h : many (size + more) = many size + (many (size + more) - many size) := by unfold many; omega
  have h2 := tags_take k info (many size) (many (size + more) - many size)
  rw [← h] at h2
  rw [← h2, List.take_take, Nat.min_eq_left (by unfold many; omega)]
def prefixB : List UInt8 := [111, 117, 98, 108, 105, 101, 116, 116, 101, 32]
def infoB (label : List UInt8) : List UInt8 := [0, 32, UInt8.ofNat (prefixB ++ label).length] ++ (prefixB ++ label)
def derive (k label : List UInt8) : List UInt8 := expand k (infoB label) 32
theorem derive_len (k label : List UInt8) : (derive k label).length = 32 := expand_len _ _ _
def chain (k label : List UInt8) : Nat → List UInt8
  | 0 => k
  | n + 1 => derive (chain k label n) label
theorem chain_add (k label : List UInt8) (n : Nat) : ∀ m, chain (chain k label n) label m = chain k label (n + m)
  | 0 => rfl
  | m + 1 => by rw [chain, chain_add k label n m, ← Nat.add_assoc, chain]
end Go.Proofs.YteecbjpnnklbpaaDoor.Kdf

/- The walks of the package sha, and of the reference's sums: the turns of a word. -/
namespace Go.Proofs.YteecbjpnnklbpaaDoor.Sha
open Go.RowKit
set_option linter.unusedVariables false
set_option maxRecDepth 100000

/-- a word as a cell's number, closed to simp -/
def c32 (x : UInt32) : Int := (x.toNat : Int)
abbrev e32 (x : UInt32) : Value := .int .u32 (c32 x)
theorem c32_lo (x : UInt32) : 0 ≤ c32 x := by unfold c32; omega
theorem c32_hi (x : UInt32) : c32 x ≤ 4294967295 := by unfold c32; have := x.toNat_lt; omega
theorem c32_xor (a b : UInt32) : bits .xor .u32 (c32 a) (c32 b) = c32 (a ^^^ b) := xor32 a b
theorem c32_and (a b : UInt32) : bits .and .u32 (c32 a) (c32 b) = c32 (a &&& b) := and32 a b
theorem c32_or (a b : UInt32) : bits .or .u32 (c32 a) (c32 b) = c32 (a ||| b) := or32 a b
theorem c32_add (a b : UInt32) : IntKind.u32.wrap (c32 a + c32 b) = c32 (a + b) := by
  unfold c32; rw [IntKind.wrap_u32, UInt32.toNat_add]; omega
theorem c32_add' (a b : UInt32) : (c32 a + c32 b) % 4294967296 = c32 (a + b) := by
  unfold c32; rw [UInt32.toNat_add]; omega
attribute [local go_sem] c32_xor c32_and c32_or c32_add c32_add'
theorem c32_shl (x : UInt32) (n : Nat) (h : n < 32) : (c32 x * (2 ^ n : Nat)) % 4294967296 = c32 (x <<< UInt32.ofNat n) := by
  unfold c32
  rw [UInt32.toNat_shiftLeft]
  simp [Nat.mod_eq_of_lt (show n < 4294967296 by omega), Nat.mod_eq_of_lt h, Nat.shiftLeft_eq]
theorem c32_shr (x : UInt32) (n : Nat) (h : n < 32) : c32 x / (2 ^ n : Nat) = c32 (x >>> UInt32.ofNat n) := by
  unfold c32
  rw [UInt32.toNat_shiftRight]
  simp [Nat.mod_eq_of_lt (show n < 4294967296 by omega), Nat.mod_eq_of_lt h, Nat.shiftRight_eq_div_pow]
theorem or_rot (x : UInt32) (n : Nat) (a b : Int) (h0 : 0 < n) (h : n < 32) (ha : a = (2 ^ (32 - n) : Nat)) (hb : b = (2 ^ n : Nat)) : bits .or .u32 (c32 x * a % 4294967296) (c32 x / b) = c32 (rot x n) := by
  subst ha hb; rw [c32_shl x (32 - n) (by omega), c32_shr x n h, c32_or]; rfl
theorem or_rot' (x : UInt32) (n : Nat) (a b : Int) (h0 : 0 < n) (h : n < 32) (ha : a = (2 ^ (32 - n) : Nat)) (hb : b = (2 ^ n : Nat)) : bits .or .u32 (c32 x / b) (c32 x * a % 4294967296) = c32 (rot x n) := by
  subst ha hb; rw [c32_shl x (32 - n) (by omega), c32_shr x n h, c32_or]; rw [UInt32.or_comm]; rfl
def turns : List Int := [2, 6, 7, 11, 13, 17, 18, 19, 22, 25]
set_option maxHeartbeats 400000 in
theorem right_2 (x : UInt32) (w : World) : Calls Tryd.prog 115 #[.int .u32 (c32 x), .int .i64 2] w fun e w' => e = .returned (.int .u32 (c32 (rot x 2))) ∧ w = w' := by
  have b0 := c32_lo x
  have b1 := c32_hi x
  have s1 : bits .and .u64 (IntKind.u64.wrap (-2)) 31 = 30 := by decide
  have hr := Lib.hid (or_rot x 2 1073741824 4 (by omega) (by omega) (by rfl) (by rfl))
  go_enter Tryd.func115, Tryd.ntmps115
  go_wp2
  go_ret
  exact ⟨ret_int hr.out, rfl⟩
set_option maxHeartbeats 400000 in
theorem right_6 (x : UInt32) (w : World) : Calls Tryd.prog 115 #[.int .u32 (c32 x), .int .i64 6] w fun e w' => e = .returned (.int .u32 (c32 (rot x 6))) ∧ w = w' := by
  have b0 := c32_lo x
  have b1 := c32_hi x
  have s1 : bits .and .u64 (IntKind.u64.wrap (-6)) 31 = 26 := by decide
  have hr := Lib.hid (or_rot x 6 67108864 64 (by omega) (by omega) (by rfl) (by rfl))
  go_enter Tryd.func115, Tryd.ntmps115
  go_wp2
  go_ret
  exact ⟨ret_int hr.out, rfl⟩
set_option maxHeartbeats 400000 in
theorem right_7 (x : UInt32) (w : World) : Calls Tryd.prog 115 #[.int .u32 (c32 x), .int .i64 7] w fun e w' => e = .returned (.int .u32 (c32 (rot x 7))) ∧ w = w' := by
  have b0 := c32_lo x
  have b1 := c32_hi x
  have s1 : bits .and .u64 (IntKind.u64.wrap (-7)) 31 = 25 := by decide
  have hr := Lib.hid (or_rot x 7 33554432 128 (by omega) (by omega) (by rfl) (by rfl))
  go_enter Tryd.func115, Tryd.ntmps115
  go_wp2
  go_ret
  exact ⟨ret_int hr.out, rfl⟩
set_option maxHeartbeats 400000 in
theorem right_11 (x : UInt32) (w : World) : Calls Tryd.prog 115 #[.int .u32 (c32 x), .int .i64 11] w fun e w' => e = .returned (.int .u32 (c32 (rot x 11))) ∧ w = w' := by
  have b0 := c32_lo x
  have b1 := c32_hi x
  have s1 : bits .and .u64 (IntKind.u64.wrap (-11)) 31 = 21 := by decide
  have hr := Lib.hid (or_rot x 11 2097152 2048 (by omega) (by omega) (by rfl) (by rfl))
  go_enter Tryd.func115, Tryd.ntmps115
  go_wp2
  go_ret
  exact ⟨ret_int hr.out, rfl⟩
set_option maxHeartbeats 400000 in
theorem right_13 (x : UInt32) (w : World) : Calls Tryd.prog 115 #[.int .u32 (c32 x), .int .i64 13] w fun e w' => e = .returned (.int .u32 (c32 (rot x 13))) ∧ w = w' := by
  have b0 := c32_lo x
  have b1 := c32_hi x
  have s1 : bits .and .u64 (IntKind.u64.wrap (-13)) 31 = 19 := by decide
  have hr := Lib.hid (or_rot x 13 524288 8192 (by omega) (by omega) (by rfl) (by rfl))
  go_enter Tryd.func115, Tryd.ntmps115
  go_wp2
  go_ret
  exact ⟨ret_int hr.out, rfl⟩
set_option maxHeartbeats 400000 in
theorem right_17 (x : UInt32) (w : World) : Calls Tryd.prog 115 #[.int .u32 (c32 x), .int .i64 17] w fun e w' => e = .returned (.int .u32 (c32 (rot x 17))) ∧ w = w' := by
  have b0 := c32_lo x
  have b1 := c32_hi x
  have s1 : bits .and .u64 (IntKind.u64.wrap (-17)) 31 = 15 := by decide
  have hr := Lib.hid (or_rot x 17 32768 131072 (by omega) (by omega) (by rfl) (by rfl))
  go_enter Tryd.func115, Tryd.ntmps115
  go_wp2
  go_ret
  exact ⟨ret_int hr.out, rfl⟩
set_option maxHeartbeats 400000 in
theorem right_18 (x : UInt32) (w : World) : Calls Tryd.prog 115 #[.int .u32 (c32 x), .int .i64 18] w fun e w' => e = .returned (.int .u32 (c32 (rot x 18))) ∧ w = w' := by
  have b0 := c32_lo x
  have b1 := c32_hi x
  have s1 : bits .and .u64 (IntKind.u64.wrap (-18)) 31 = 14 := by decide
  have hr := Lib.hid (or_rot x 18 16384 262144 (by omega) (by omega) (by rfl) (by rfl))
  go_enter Tryd.func115, Tryd.ntmps115
  go_wp2
  go_ret
  exact ⟨ret_int hr.out, rfl⟩
set_option maxHeartbeats 400000 in
theorem right_19 (x : UInt32) (w : World) : Calls Tryd.prog 115 #[.int .u32 (c32 x), .int .i64 19] w fun e w' => e = .returned (.int .u32 (c32 (rot x 19))) ∧ w = w' := by
  have b0 := c32_lo x
  have b1 := c32_hi x
  have s1 : bits .and .u64 (IntKind.u64.wrap (-19)) 31 = 13 := by decide
  have hr := Lib.hid (or_rot x 19 8192 524288 (by omega) (by omega) (by rfl) (by rfl))
  go_enter Tryd.func115, Tryd.ntmps115
  go_wp2
  go_ret
  exact ⟨ret_int hr.out, rfl⟩
set_option maxHeartbeats 400000 in
theorem right_22 (x : UInt32) (w : World) : Calls Tryd.prog 115 #[.int .u32 (c32 x), .int .i64 22] w fun e w' => e = .returned (.int .u32 (c32 (rot x 22))) ∧ w = w' := by
  have b0 := c32_lo x
  have b1 := c32_hi x
  have s1 : bits .and .u64 (IntKind.u64.wrap (-22)) 31 = 10 := by decide
  have hr := Lib.hid (or_rot x 22 1024 4194304 (by omega) (by omega) (by rfl) (by rfl))
  go_enter Tryd.func115, Tryd.ntmps115
  go_wp2
  go_ret
  exact ⟨ret_int hr.out, rfl⟩
set_option maxHeartbeats 400000 in
theorem right_25 (x : UInt32) (w : World) : Calls Tryd.prog 115 #[.int .u32 (c32 x), .int .i64 25] w fun e w' => e = .returned (.int .u32 (c32 (rot x 25))) ∧ w = w' := by
  have b0 := c32_lo x
  have b1 := c32_hi x
  have s1 : bits .and .u64 (IntKind.u64.wrap (-25)) 31 = 7 := by decide
  have hr := Lib.hid (or_rot x 25 128 33554432 (by omega) (by omega) (by rfl) (by rfl))
  go_enter Tryd.func115, Tryd.ntmps115
  go_wp2
  go_ret
  exact ⟨ret_int hr.out, rfl⟩
theorem right_any (x : UInt32) (m : Int) (hm : m ∈ turns) (w : World) : Calls Tryd.prog 115 #[.int .u32 (c32 x), .int .i64 m] w fun e w' => e = .returned (.int .u32 (c32 (rot x m.toNat))) ∧ w = w' := by
  simp only [turns, List.mem_cons, List.not_mem_nil, or_false] at hm
  rcases hm with rfl | rfl | rfl | rfl | rfl | rfl | rfl | rfl | rfl | rfl
  · exact right_2 x w
  · exact right_6 x w
  · exact right_7 x w
  · exact right_11 x w
  · exact right_13 x w
  · exact right_17 x w
  · exact right_18 x w
  · exact right_19 x w
  · exact right_22 x w
  · exact right_25 x w
set_option maxHeartbeats 400000 in
theorem low_any (x : UInt32) (w : World) : Calls Tryd.prog 122 #[.int .u32 (c32 x)] w fun e w' => e = .returned (.int .u32 (c32 (low x))) ∧ w = w' := by
  have b0 := c32_lo x
  have b1 := c32_hi x
  have h3 := Lib.hid (show c32 x / (8 : Int) = c32 (x >>> 3) by exact c32_shr x 3 (by omega))
  go_enter Tryd.func122, Tryd.ntmps122
  go_wp2_with (go_at_call 115; refine (right_any _ _ (by decide) _).mono ?_; rintro e w' ⟨rfl, rfl⟩)
  go_ret
  exact ⟨ret_int (by rw [h3.out, c32_xor]; rfl), rfl⟩
set_option maxHeartbeats 400000 in
theorem high_any (x : UInt32) (w : World) : Calls Tryd.prog 123 #[.int .u32 (c32 x)] w fun e w' => e = .returned (.int .u32 (c32 (high x))) ∧ w = w' := by
  have b0 := c32_lo x
  have b1 := c32_hi x
  have h3 := Lib.hid (show c32 x / (1024 : Int) = c32 (x >>> 10) by exact c32_shr x 10 (by omega))
  go_enter Tryd.func123, Tryd.ntmps123
  go_wp2_with (go_at_call 115; refine (right_any _ _ (by decide) _).mono ?_; rintro e w' ⟨rfl, rfl⟩)
  go_ret
  exact ⟨ret_int (by rw [h3.out, c32_xor]; rfl), rfl⟩
set_option maxHeartbeats 400000 in
theorem rright_2 (x : UInt32) (w : World) : Calls Tryd.prog 106 #[.int .u32 (c32 x), .int .i64 2] w fun e w' => e = .returned (.int .u32 (c32 (rot x 2))) ∧ Below w.heap.size w w' := by
  have b0 := c32_lo x
  have b1 := c32_hi x
  have hr := Lib.hid (or_rot' x 2 1073741824 4 (by omega) (by omega) (by rfl) (by rfl))
  go_enter Tryd.func106, Tryd.ntmps106
  go_wp2
  go_quiet (fail)
  go_wp2
  go_ret
  exact ⟨ret_int hr.out, bdrew (Below.refl _ _) _⟩
set_option maxHeartbeats 400000 in
theorem rright_6 (x : UInt32) (w : World) : Calls Tryd.prog 106 #[.int .u32 (c32 x), .int .i64 6] w fun e w' => e = .returned (.int .u32 (c32 (rot x 6))) ∧ Below w.heap.size w w' := by
  have b0 := c32_lo x
  have b1 := c32_hi x
  have hr := Lib.hid (or_rot' x 6 67108864 64 (by omega) (by omega) (by rfl) (by rfl))
  go_enter Tryd.func106, Tryd.ntmps106
  go_wp2
  go_quiet (fail)
  go_wp2
  go_ret
  exact ⟨ret_int hr.out, bdrew (Below.refl _ _) _⟩
set_option maxHeartbeats 400000 in
theorem rright_7 (x : UInt32) (w : World) : Calls Tryd.prog 106 #[.int .u32 (c32 x), .int .i64 7] w fun e w' => e = .returned (.int .u32 (c32 (rot x 7))) ∧ Below w.heap.size w w' := by
  have b0 := c32_lo x
  have b1 := c32_hi x
  have hr := Lib.hid (or_rot' x 7 33554432 128 (by omega) (by omega) (by rfl) (by rfl))
  go_enter Tryd.func106, Tryd.ntmps106
  go_wp2
  go_quiet (fail)
  go_wp2
  go_ret
  exact ⟨ret_int hr.out, bdrew (Below.refl _ _) _⟩
set_option maxHeartbeats 400000 in
theorem rright_11 (x : UInt32) (w : World) : Calls Tryd.prog 106 #[.int .u32 (c32 x), .int .i64 11] w fun e w' => e = .returned (.int .u32 (c32 (rot x 11))) ∧ Below w.heap.size w w' := by
  have b0 := c32_lo x
  have b1 := c32_hi x
  have hr := Lib.hid (or_rot' x 11 2097152 2048 (by omega) (by omega) (by rfl) (by rfl))
  go_enter Tryd.func106, Tryd.ntmps106
  go_wp2
  go_quiet (fail)
  go_wp2
  go_ret
  exact ⟨ret_int hr.out, bdrew (Below.refl _ _) _⟩
set_option maxHeartbeats 400000 in
theorem rright_13 (x : UInt32) (w : World) : Calls Tryd.prog 106 #[.int .u32 (c32 x), .int .i64 13] w fun e w' => e = .returned (.int .u32 (c32 (rot x 13))) ∧ Below w.heap.size w w' := by
  have b0 := c32_lo x
  have b1 := c32_hi x
  have hr := Lib.hid (or_rot' x 13 524288 8192 (by omega) (by omega) (by rfl) (by rfl))
  go_enter Tryd.func106, Tryd.ntmps106
  go_wp2
  go_quiet (fail)
  go_wp2
  go_ret
  exact ⟨ret_int hr.out, bdrew (Below.refl _ _) _⟩
set_option maxHeartbeats 400000 in
theorem rright_17 (x : UInt32) (w : World) : Calls Tryd.prog 106 #[.int .u32 (c32 x), .int .i64 17] w fun e w' => e = .returned (.int .u32 (c32 (rot x 17))) ∧ Below w.heap.size w w' := by
  have b0 := c32_lo x
  have b1 := c32_hi x
  have hr := Lib.hid (or_rot' x 17 32768 131072 (by omega) (by omega) (by rfl) (by rfl))
  go_enter Tryd.func106, Tryd.ntmps106
  go_wp2
  go_quiet (fail)
  go_wp2
  go_ret
  exact ⟨ret_int hr.out, bdrew (Below.refl _ _) _⟩
set_option maxHeartbeats 400000 in
theorem rright_18 (x : UInt32) (w : World) : Calls Tryd.prog 106 #[.int .u32 (c32 x), .int .i64 18] w fun e w' => e = .returned (.int .u32 (c32 (rot x 18))) ∧ Below w.heap.size w w' := by
  have b0 := c32_lo x
  have b1 := c32_hi x
  have hr := Lib.hid (or_rot' x 18 16384 262144 (by omega) (by omega) (by rfl) (by rfl))
  go_enter Tryd.func106, Tryd.ntmps106
  go_wp2
  go_quiet (fail)
  go_wp2
  go_ret
  exact ⟨ret_int hr.out, bdrew (Below.refl _ _) _⟩
set_option maxHeartbeats 400000 in
theorem rright_19 (x : UInt32) (w : World) : Calls Tryd.prog 106 #[.int .u32 (c32 x), .int .i64 19] w fun e w' => e = .returned (.int .u32 (c32 (rot x 19))) ∧ Below w.heap.size w w' := by
  have b0 := c32_lo x
  have b1 := c32_hi x
  have hr := Lib.hid (or_rot' x 19 8192 524288 (by omega) (by omega) (by rfl) (by rfl))
  go_enter Tryd.func106, Tryd.ntmps106
  go_wp2
  go_quiet (fail)
  go_wp2
  go_ret
  exact ⟨ret_int hr.out, bdrew (Below.refl _ _) _⟩
set_option maxHeartbeats 400000 in
theorem rright_22 (x : UInt32) (w : World) : Calls Tryd.prog 106 #[.int .u32 (c32 x), .int .i64 22] w fun e w' => e = .returned (.int .u32 (c32 (rot x 22))) ∧ Below w.heap.size w w' := by
  have b0 := c32_lo x
  have b1 := c32_hi x
  have hr := Lib.hid (or_rot' x 22 1024 4194304 (by omega) (by omega) (by rfl) (by rfl))
  go_enter Tryd.func106, Tryd.ntmps106
  go_wp2
  go_quiet (fail)
  go_wp2
  go_ret
  exact ⟨ret_int hr.out, bdrew (Below.refl _ _) _⟩
set_option maxHeartbeats 400000 in
theorem rright_25 (x : UInt32) (w : World) : Calls Tryd.prog 106 #[.int .u32 (c32 x), .int .i64 25] w fun e w' => e = .returned (.int .u32 (c32 (rot x 25))) ∧ Below w.heap.size w w' := by
  have b0 := c32_lo x
  have b1 := c32_hi x
  have hr := Lib.hid (or_rot' x 25 128 33554432 (by omega) (by omega) (by rfl) (by rfl))
  go_enter Tryd.func106, Tryd.ntmps106
  go_wp2
  go_quiet (fail)
  go_wp2
  go_ret
  exact ⟨ret_int hr.out, bdrew (Below.refl _ _) _⟩
theorem rright_any (x : UInt32) (m : Int) (hm : m ∈ turns) (w : World) : Calls Tryd.prog 106 #[.int .u32 (c32 x), .int .i64 m] w fun e w' => e = .returned (.int .u32 (c32 (rot x m.toNat))) ∧ Below w.heap.size w w' := by
  simp only [turns, List.mem_cons, List.not_mem_nil, or_false] at hm
  rcases hm with rfl | rfl | rfl | rfl | rfl | rfl | rfl | rfl | rfl | rfl
  · exact rright_2 x w
  · exact rright_6 x w
  · exact rright_7 x w
  · exact rright_11 x w
  · exact rright_13 x w
  · exact rright_17 x w
  · exact rright_18 x w
  · exact rright_19 x w
  · exact rright_22 x w
  · exact rright_25 x w
end Go.Proofs.YteecbjpnnklbpaaDoor.Sha

/- The walk of sha.Words: the words of a block. -/
namespace Go.Proofs.YteecbjpnnklbpaaDoor.Sha
open Go.RowKit
set_option linter.unusedVariables false
set_option maxRecDepth 100000
attribute [local go_sem] c32_xor c32_and c32_or c32_add c32_add'

def vw (l : List UInt32) : List Value := l.map e32
theorem vw_len (l : List UInt32) : (vw l).length = l.length := by simp [vw]
theorem vw_one (l : List UInt32) : ∀ v ∈ vw l, v.oneCell' = true := by
  intro u hu
  obtain ⟨x, _, rfl⟩ := List.mem_map.1 hu
  rfl
theorem vw_set (l : List UInt32) (k : Nat) (x : UInt32) : (vw l).set k (e32 x) = vw (l.set k x) := by simp [vw, List.map_set]
/-- a word of a block of words -/
theorem Blk.word {w : World} {g : Nat} {l : List UInt32} (h : Blk w g (vw l)) {k : Nat} (hk : k < l.length) : w.cell? ⟨g, k, none⟩ = some (e32 (l.getD k 0)) := by
  rw [h.cell (by rw [vw_len]; exact hk)]
  simp [vw, List.getD, hk]
theorem zero28 (w : World) : (zeroValue 96).run Tryd.prog w = .ok (arrV (vw (List.replicate 64 0))) w := by kernel_rfl
theorem size28 : (Tryd.prog.info? 96).map (·.size) = some 64 := by kernel_rfl
theorem size23 : (Tryd.prog.info? 98).map (·.size) = some 8 := by kernel_rfl
theorem zero23 (w : World) : (zeroValue 98).run Tryd.prog w = .ok (arrV (vw (List.replicate 8 0))) w := by kernel_rfl
theorem words_no {l : List UInt8} (h : l.length ≠ 64) : words l = List.replicate 64 0 := if_neg h
def W64 : List Value := vw (List.replicate 64 0)
theorem W64_len : W64.length = 64 := rfl

set_option maxHeartbeats 400000 in
theorem words_not (A : Option Addr) (n c : Nat) (w : World) (hn : n ≠ 64) (hm : n ≤ maxLen) :
    Calls Tryd.prog 114 #[.slice A n c] w fun e w' => e = .returned (arrV W64) ∧ Below w.heap.size w w' := by
  have hne : ((n : Int) != 64) = true := bne_yes (by omega)
  have hz : ∀ w, (zeroValue 96).run Tryd.prog w = .ok (arrV W64) w := zero28
  have Hz := Lib.hid hz
  clear hz
  unfold maxLen at hm
  go_enter Tryd.func114, Tryd.ntmps114
  go_wp2_with (first
    | (refine wpList_allocN rfl _ rfl W64 Hz.out ?_; intro w1 hb1 bw1 hs1)
    | (refine wpList_loadA rfl _ _ rfl rfl hb1 Tryd.underlying96 size28 ?_)
    | (refine wpList_storeN rfl _ _ _ rfl rfl (ys := W64) rfl hb1 rfl (vw_one _) size28 ?_; intro w2 hb2 hg2))
  exact bodyPost_ret (v := arrV W64) (results_arr Tryd.results114 _ hb2 Tryd.underlying96 size28 rfl) rfl ⟨rfl, below_row bw1 hg2 (Nat.le_refl _) bw1.size⟩
set_option maxHeartbeats 400000 in
theorem words_yes (b off : Nat) (l : List UInt8) (c : Nat) (w : World) (hn : l.length = 64) (hc : 64 ≤ c) (hcm : c ≤ maxLen) (hr : Rd w w.heap.size (some ⟨b, off, none⟩) (l.map e8)) :
    Calls Tryd.prog 114 #[.slice (some ⟨b, off, none⟩) 64 c] w fun e w' => e = .returned (arrV (vw (wl l 64))) ∧ Below w.heap.size w w' := by
  have hz : ∀ w, (zeroValue 96).run Tryd.prog w = .ok (arrV (vw (wpart l 0))) w := fun w => by rw [wpart_zero]; exact zero28 w
  have Hz := Lib.hid hz
  have Hn := Lib.hid hn
  clear hz hn
  unfold maxLen at hcm
  have hc' : (64 : Int) ≤ (c : Int) := by omega
  go_enter Tryd.func114, Tryd.ntmps114
  go_wp2_with (first
    | (refine wpList_allocN rfl _ rfl (vw (wpart l 0)) Hz.out ?_; intro w1 hb1 bw1 hs1))
  go_loopw [12] (fun i wr => ∃ k : Nat, k ≤ 64 ∧ i = .int .i64 k ∧ Blk wr w.heap.size (vw (wpart l k)) ∧ Below w.heap.size w wr) (fun i _ => 64 - (intOf i).toNat)
  case atStart => exact ⟨0, by omega, rfl, hb1, bw1⟩
  case round =>
    obtain ⟨k, hk, rfl, hb, bw⟩ := hrel
    by_cases hlt : k < 64
    · by_cases h16 : k < 16
      · have hn := Hn.out
        have h4 : ((l.drop (4 * k)).take 4).length = 4 := by rw [List.length_take, List.length_drop]; omega
        have hr4 : Rd wr wr.heap.size (some ⟨b, off + 4 * k, none⟩) (((l.drop (4 * k)).take 4).map e8) := by
          rw [List.map_take, List.map_drop]
          have := (hr.on bw).drop (4 * k)
          simp only [Option.map_some, Addr.add_lit] at this
          exact this.take 4
        have Hw := Lib.hid (wpart_set l k hlt)
        have Hx := Lib.hid (wnext_lo l k h16)
        have hcell := Blk.word hb (k := k) (by rw [wpart_len l k (by omega)]; exact hlt)
        have hfr := hb.free k
        clear hn
        go_wp2_with fail
        refine (Num.get_any _ ((l.drop (4 * k)).take 4) _ _ _ _ (by rw [h4]; omega) hr4 (by omega) (by omega)).mono ?_
        rintro e w2 ⟨rfl, rfl⟩
        clear hr4 h4
        have hq : IntKind.u32.wrap (Num.getN ((l.drop (4 * k)).take 4) : Int) = c32 (be32 l k) := by
          unfold c32 be32; rw [IntKind.wrap_u32, UInt32.toNat_ofNat']; omega
        obtain ⟨q, hq2⟩ : ∃ q, q = Num.getN ((l.drop (4 * k)).take 4) := ⟨_, rfl⟩
        rw [← hq2] at hq ⊢
        obtain ⟨x, hx⟩ : ∃ x, x = be32 l k := ⟨_, rfl⟩
        rw [← hx] at hq
        have Hs := Lib.hid (show (wpart l k).set k x = wpart l (k + 1) by rw [hx, ← Hx.out, Hw.out])
        clear hq2 hx
        go_wp2
        go_roundw
        case rel => exact ⟨k + 1, by omega, by go_num, by have := hb.set (k := k) (e32 x); rw [vw_set, Hs.out] at this; exact this, bw.setCell (Nat.le_refl _) _⟩
        case measure => simp [intOf]; omega
      · have hl := wpart_len l k (by omega)
        have g2 := Blk.word hb (k := k - 2) (by omega)
        have g7 := Blk.word hb (k := k - 7) (by omega)
        have g15 := Blk.word hb (k := k - 15) (by omega)
        have g16 := Blk.word hb (k := k - 16) (by omega)
        have hcell := Blk.word hb (k := k) (by omega)
        have hB := hb.lt
        have hfr := hb.free k
        have Hs := Lib.hid (show (wpart l k).set k (high ((wpart l k).getD (k - 2) 0) + (wpart l k).getD (k - 7) 0 + low ((wpart l k).getD (k - 15) 0) + (wpart l k).getD (k - 16) 0) = wpart l (k + 1) by rw [← wnext_hi l k (by omega)]; exact wpart_set l k hlt)
        obtain ⟨x2, h2⟩ : ∃ x, x = (wpart l k).getD (k - 2) 0 := ⟨_, rfl⟩
        obtain ⟨x7, h7⟩ : ∃ x, x = (wpart l k).getD (k - 7) 0 := ⟨_, rfl⟩
        obtain ⟨x15, h15⟩ : ∃ x, x = (wpart l k).getD (k - 15) 0 := ⟨_, rfl⟩
        obtain ⟨x16, h16'⟩ : ∃ x, x = (wpart l k).getD (k - 16) 0 := ⟨_, rfl⟩
        rw [← h2, ← h7, ← h15, ← h16'] at Hs
        rw [← h2] at g2
        rw [← h7] at g7
        rw [← h15] at g15
        rw [← h16'] at g16
        clear h2 h7 h15 h16' hl
        have b2 : (2 : Int) ≤ (k : Int) := by omega
        have c2 : (k : Int) - 2 < 64 := by omega
        have d2 : 0 ≤ (k : Int) - 2 := by omega
        have b7 : (7 : Int) ≤ (k : Int) := by omega
        have c7 : (k : Int) - 7 < 64 := by omega
        have d7 : 0 ≤ (k : Int) - 7 := by omega
        have b15 : (15 : Int) ≤ (k : Int) := by omega
        have c15 : (k : Int) - 15 < 64 := by omega
        have d15 : 0 ≤ (k : Int) - 15 := by omega
        have b16 : (16 : Int) ≤ (k : Int) := by omega
        have c16 : (k : Int) - 16 < 64 := by omega
        have d16 : 0 ≤ (k : Int) - 16 := by omega
        have q2 : IntKind.i64.wrap ((k : Int) - 2) = (k : Int) - 2 := wrap_small (by omega) (by omega)
        have q7 : IntKind.i64.wrap ((k : Int) - 7) = (k : Int) - 7 := wrap_small (by omega) (by omega)
        have q15 : IntKind.i64.wrap ((k : Int) - 15) = (k : Int) - 15 := wrap_small (by omega) (by omega)
        have q16 : IntKind.i64.wrap ((k : Int) - 16) = (k : Int) - 16 := wrap_small (by omega) (by omega)
        have t2 : ((k : Int) - 2).toNat = k - 2 := by omega
        have t7 : ((k : Int) - 7).toNat = k - 7 := by omega
        have t15 : ((k : Int) - 15).toNat = k - 15 := by omega
        have t16 : ((k : Int) - 16).toNat = k - 16 := by omega
        go_wp2
        refine region_inb_tail 25 (by kernel_rfl) (by kernel_rfl) ?_
        simp only [List.take_succ_cons, List.take_zero, List.drop_succ_cons, List.drop_zero]
        have inbNe := InB.some
        have inbW := @wrap_small
        have inbU := IntKind.wrap_u8'
        repeat (refine wpQuiet_step (fun K hK => ?_); go_simp; first | (refine hK _ ?_; clear hK K) | (apply Exists.intro; refine ⟨?_, hK _ ?_⟩; (· (intro w' hw'; first | (go_at_call 123; refine (high_any _ _).mono ?_; rintro e w1 ⟨rfl, rfl⟩; exact ⟨rfl, hw'⟩) | (go_at_call 122; refine (low_any _ _).mono ?_; rintro e w1 ⟨rfl, rfl⟩; exact ⟨rfl, hw'⟩) | (have hcw := hw'.cell; go_simp; exact rfl))); clear hK K))
        refine wpQuiet_nil ?_
        intro wq hq
        clear inbNe inbW inbU
        have hbq := hb.on hq.below
        have hcq : wq.cell? ⟨w.heap.size, k, none⟩ = some (e32 ((wpart l k).getD k 0)) := (hq.cell _ _ hB).trans hcell
        have hfq := hbq.free k
        have bwq := bw.trans (hq.below.mono bw.size)
        go_wp2
        go_roundw
        case rel => exact ⟨k + 1, by omega, by go_num, by have := hbq.set (k := k) (e32 (high x2 + x7 + low x15 + x16)); rw [vw_set, Hs.out] at this; exact this, bwq.setCell (Nat.le_refl _) _⟩
        case measure => simp [intOf]; omega
    · obtain rfl : k = 64 := by omega
      rw [wpart_all] at hb
      have hl := wl_len l 64
      go_wp2_with (first
        | (refine wpList_loadA rfl _ _ rfl rfl hb Tryd.underlying96 (by rw [vw_len, hl]; exact size28) ?_)
        | (refine wpList_storeN rfl _ _ _ rfl rfl (ys := vw (wl l 64)) rfl hb rfl (vw_one _) (by rw [vw_len, hl]; exact size28) ?_; intro w2 hb2 hg2))
      exact bodyPost_ret (v := arrV (vw (wl l 64))) (results_arr Tryd.results114 _ hb2 Tryd.underlying96 (by rw [vw_len, hl]; exact size28) rfl) rfl ⟨rfl, below_row bw hg2 (Nat.le_refl _) bw.size⟩
theorem words_any (A : Option Addr) (l : List UInt8) (n c : Nat) (w : World) (hn : n = l.length) (hc : n ≤ c) (hcm : c ≤ maxLen) (hr : Rd w w.heap.size A (l.map e8)) :
    Calls Tryd.prog 114 #[.slice A n c] w fun e w' => e = .returned (arrV (vw (words l))) ∧ Below w.heap.size w w' := by
  subst hn
  by_cases h : l.length = 64
  · obtain ⟨b, off, rfl, _, _⟩ := hr (by intro e; have := congrArg List.length e; simp at this; subst this; simp at h)
    rw [words, if_pos h, h]
    exact words_yes b off l c w h (by omega) hcm hr
  · rw [words_no h]
    exact words_not A _ c w h (by omega)
end Go.Proofs.YteecbjpnnklbpaaDoor.Sha

/- The walk of sha.Block: words turned by a block. -/
namespace Go.Proofs.YteecbjpnnklbpaaDoor.Sha
open Go.RowKit
set_option linter.unusedVariables false
set_option maxRecDepth 100000
attribute [local go_sem] c32_xor c32_and c32_or c32_add c32_add'

/-- the table of the rounds lies where the program laid it -/
def Tab (w : World) : Prop := 3 < w.heap.size ∧ ∀ t, t < 64 → w.cell? ⟨3, t, none⟩ = some (e32 (kAt t))
theorem Tab.on {w w' : World} (h : Tab w) (b : Below w.heap.size w w') : Tab w' :=
  ⟨Nat.lt_of_lt_of_le h.1 b.size, fun t ht => (b.cell (p := ⟨3, t, none⟩) h.1).trans (h.2 t ht)⟩
def H8.vals (s : H8) : List Value := vw s.list
theorem H8.vals_len (s : H8) : s.vals.length = 8 := rfl
theorem H8.vals_eq (s : H8) : s.vals = [e32 s.a, e32 s.b, e32 s.c, e32 s.d, e32 s.e, e32 s.f, e32 s.g, e32 s.h] := rfl
def h8V (s : H8) : Value := arrV s.vals
/-- the words while the first k have been added -/
def H8.part (s r : H8) (k : Nat) : List UInt32 := (List.range 8).map fun i => if i < k then s.list.getD i 0 + r.list.getD i 0 else s.list.getD i 0
theorem H8.part_len (s r : H8) (k : Nat) : (s.part r k).length = 8 := by simp [H8.part]
theorem H8.part_zero (s r : H8) : s.part r 0 = s.list := rfl
theorem H8.part_all (s r : H8) : s.part r 8 = (s.add r).list := rfl
theorem H8.list_len (s : H8) : s.list.length = 8 := rfl
theorem H8.part_get (s r : H8) (k : Nat) : (s.part r k).getD k 0 = s.list.getD k 0 := by
  simp only [H8.part, List.getD, List.getElem?_map]
  by_cases h : k < 8
  · simp [h]
  · rw [List.getElem?_eq_none (by simp; omega), List.getElem?_eq_none (by simp [H8.list]; omega)]; rfl
theorem H8.part_set (s r : H8) (k : Nat) (h : k < 8) : (s.part r k).set k (s.list.getD k 0 + r.list.getD k 0) = s.part r (k + 1) := by
  apply List.ext_getElem
  · simp [H8.part]
  · intro i h1 h2
    rw [List.getElem_set]
    simp only [H8.part, List.getElem_map, List.getElem_range]
    by_cases e : k = i
    · subst e; simp
    · rw [if_neg e]
      by_cases h3 : i < k
      · rw [if_pos h3, if_pos (by omega)]
      · rw [if_neg h3, if_neg (by omega)]

/-- the eight words of a block, cell for cell -/
theorem Blk.eight {w : World} {g : Nat} {r : H8} (h : Blk w g r.vals) :
    w.cell? ⟨g, 0, none⟩ = some (e32 r.a) ∧ w.cell? ⟨g, 1, none⟩ = some (e32 r.b) ∧ w.cell? ⟨g, 2, none⟩ = some (e32 r.c) ∧ w.cell? ⟨g, 3, none⟩ = some (e32 r.d) ∧
    w.cell? ⟨g, 4, none⟩ = some (e32 r.e) ∧ w.cell? ⟨g, 5, none⟩ = some (e32 r.f) ∧ w.cell? ⟨g, 6, none⟩ = some (e32 r.g) ∧ w.cell? ⟨g, 7, none⟩ = some (e32 r.h) :=
  ⟨h.cell (k := 0) (by simp [H8.vals_eq]), h.cell (k := 1) (by simp [H8.vals_eq]), h.cell (k := 2) (by simp [H8.vals_eq]), h.cell (k := 3) (by simp [H8.vals_eq]), h.cell (k := 4) (by simp [H8.vals_eq]), h.cell (k := 5) (by simp [H8.vals_eq]), h.cell (k := 6) (by simp [H8.vals_eq]), h.cell (k := 7) (by simp [H8.vals_eq])⟩
theorem index28 (l : List UInt32) (k : Nat) (hl : l.length = 64) (hk : k < 64) (w : World) : (Instr.index 96 (arrV (vw l)) (.int .i64 (k : Int))).run Tryd.prog w = .ok (e32 (l.getD k 0)) w :=
  run_index_ints (P := Tryd.prog) (n := 64) (k := .i64) Tryd.underlying96 Tryd.underlying82 (by kernel_rfl) hk (by simp [vw, hl, hk, List.getD]) w
theorem size32 : (Tryd.prog.info? 82).map (·.size) = some 1 := by kernel_rfl
set_option maxHeartbeats 400000 in
theorem block_no (s : H8) (A : Option Addr) (n c : Nat) (w : World) (hn : n ≠ 64) (hm : n ≤ maxLen) :
    Calls Tryd.prog 99 #[h8V s, .slice A n c] w fun e w' => e = .returned (h8V s) ∧ Below w.heap.size w w' := by
  have hne : ((n : Int) != 64) = true := bne_yes (by omega)
  unfold maxLen at hm
  go_enter Tryd.func99, Tryd.ntmps99
  go_wp2_with (first
    | (refine wpList_boxN rfl _ _ rfl s.vals rfl ?_; intro w1 hb1 bw1 hs1)
    | (refine wpList_allocN rfl _ rfl (vw (List.replicate 8 0)) zero23 ?_; intro w2 hb2 bw2 hs2; have hb12 := hb1.on bw2; have bt2 := bt bw1 bw2)
    | (refine wpList_loadA rfl _ _ rfl rfl hb12 Tryd.underlying98 size23 ?_)
    | (refine wpList_storeN rfl _ _ _ rfl rfl (ys := s.vals) rfl hb2 rfl (vw_one _) size23 ?_; intro w3 hb3 hg3))
  exact bodyPost_ret (v := h8V s) (results_arr Tryd.results99 _ hb3 Tryd.underlying98 size23 rfl) rfl ⟨rfl, below_row bt2 hg3 bw1.size bt2.size⟩
set_option maxHeartbeats 400000 in
theorem block_yes (s : H8) (A : Option Addr) (l : List UInt8) (c : Nat) (w : World) (hn : l.length = 64) (hc : 64 ≤ c) (hcm : c ≤ maxLen) (hr : Rd w w.heap.size A (l.map e8)) (hk : Tab w) :
    Calls Tryd.prog 99 #[h8V s, .slice A 64 c] w fun e w' => e = .returned (h8V ((rounds (wl l 64) s 64).add s)) ∧ Below w.heap.size w w' := by
  have Hn := Lib.hid hn
  have hw : words l = wl l 64 := if_pos hn
  have Hw := Lib.hid hw
  clear hn hw
  have Hl := Lib.hid (wl_len l 64)
  go_enter Tryd.func99, Tryd.ntmps99
  go_wp2_with (first
    | (refine wpList_boxN rfl _ _ rfl s.vals rfl ?_; intro w1 hb1 bw1 hs1)
    | (refine wpList_allocN rfl _ rfl (vw (List.replicate 8 0)) zero23 ?_; intro w2 hb2 bw2 hs2; have hb12 := hb1.on bw2; have bt2 := bt bw1 bw2)
    | (refine wpList_loadA rfl _ _ rfl rfl hb12 Tryd.underlying98 size23 ?_)
    | (refine wpList_allocN rfl _ rfl (vw (List.replicate 8 0)) zero23 ?_; intro w3 hb3 bw3 hs3; have hb13 := hb12.on bw3; have hb23 := hb2.on bw3; have bt3 := bt bt2 bw3)
    | (refine wpList_storeN rfl _ _ _ rfl rfl (ys := s.vals) rfl hb3 rfl (vw_one _) size23 ?_; intro w4 hb4 hg4; have bt4 := below_row bt3 hg4 (Nat.le_trans bw1.size bw2.size) bt3.size)
    | fail)
  have hB1 := bw1.size
  have hB2 := bw2.size
  have b0 : Blk w4 w.heap.size s.vals := hb13.grown hg4 (by simp; omega)
  have b1 : Blk w4 w1.heap.size (vw (List.replicate 8 0)) := hb23.grown hg4 (by simp; omega)
  refine (words_any A l 64 c w4 Hn.out.symm hc hcm (hr.on bt4)).mono ?_
  rintro e w5 ⟨rfl, bw5⟩
  rw [Hw.out]
  have c0 := b0.on bw5
  have c1 := b1.on bw5
  have c2 := hb4.on bw5
  have bt5 := bt bt4 bw5
  have ht5 := hk.on bt5
  have lt0 := hs1
  obtain ⟨W, hW⟩ : ∃ W, W = wl l 64 := ⟨_, rfl⟩
  have hWl : W.length = 64 := by rw [hW]; exact wl_len l 64
  rw [← hW]
  have HW := Lib.hid hW
  have HWl := Lib.hid hWl
  obtain ⟨B1, hB1'⟩ : ∃ B, B = w1.heap.size := ⟨_, rfl⟩
  obtain ⟨B2, hB2'⟩ : ∃ B, B = w2.heap.size := ⟨_, rfl⟩
  rw [← hB1'] at c1
  rw [← hB2'] at c2
  rw [← hB1', ← hB2']
  have l01 : w.heap.size < B1 := by omega
  have l12 : B1 < B2 := by omega
  clear hW hWl Hw Hl hB1' hB2' hb1 hb2 hb12 hb3 hb13 hb23 hb4 b0 b1 hg4 bt2 bt3 bt4 bw1 bw2 bw3 bw5 hs1 hs2 hs3 hB1 hB2 lt0
  go_wp2_with fail
  go_loopw [20] (fun i wr => ∃ k : Nat, k ≤ 64 ∧ i = .int .i64 k ∧ Blk wr w.heap.size (rounds W s k).vals ∧ Blk wr B1 (vw (List.replicate 8 0)) ∧ Blk wr B2 s.vals ∧ Below w.heap.size w wr) (fun i _ => 64 - (intOf i).toNat)
  case atStart => exact ⟨0, by omega, rfl, c0, c1, c2, bt5⟩
  case round =>
    obtain ⟨k, hk64, rfl, d0, d1, d2, bt⟩ := hrel
    by_cases hlt : k < 64
    · have hix := index28 W k HWl.out hlt
      obtain ⟨r, hr'⟩ : ∃ r, r = rounds W s k := ⟨_, rfl⟩
      rw [← hr'] at d0
      have Hr := Lib.hid (show rounds W s (k + 1) = round r (kAt k) (W.getD k 0) by rw [rounds, hr'])
      obtain ⟨y, hy⟩ : ∃ y, y = W.getD k 0 := ⟨_, rfl⟩
      rw [← hy] at hix Hr
      have ht := (hk.on bt).2 k hlt
      obtain ⟨z, hz⟩ : ∃ z, z = kAt k := ⟨_, rfl⟩
      rw [← hz] at ht Hr
      have Hz := Lib.hid hz
      clear hr' hy hz
      have hB := d0.lt
      obtain ⟨g0, g1, g2, g3, g4, g5, g6, g7⟩ := Blk.eight d0
      have hf : ∀ j, wr.frozen? ⟨w.heap.size, j, none⟩ = false := d0.free
      have h0 : 3 < w.heap.size := hk.1
      have hz2 := (hk.on bt).1
      go_wp2
      refine region_inb (by kernel_rfl) (by kernel_rfl) ?_
      have inbNe := InB.some
      have inbW := @wrap_small
      have inbU := IntKind.wrap_u8'
      repeat (refine wpQuiet_step (fun K hK => ?_); go_simp; first | (refine hK _ ?_; clear hK K) | (apply Exists.intro; refine ⟨?_, hK _ ?_⟩; (· (intro w' hw'; first | fail | (have hcw := hw'.cell; go_simp; exact rfl))); clear hK K))
      refine wpQuiet_nil ?_
      intro wq hq
      clear inbNe inbW inbU
      have m0 := d0.on hq.below
      have m1 := d1.on hq.below
      have m2 := d2.on hq.below
      have btm := bt.trans (hq.below.mono bt.size)
      have htm := (hk.on btm).2 k hlt
      have hzm := (hk.on btm).1
      rw [← Hz.out] at htm
      have hBm := m0.lt
      obtain ⟨p0, p1, p2, p3, p4, p5, p6, p7⟩ := Blk.eight m0
      have hfm := m0.free
      clear hq g0 g1 g2 g3 g4 g5 g6 g7 hf ht hz2 hB
      go_wp2
      refine region_inb (by kernel_rfl) (by kernel_rfl) ?_
      have inbNe := InB.some
      have inbW := @wrap_small
      have inbU := IntKind.wrap_u8'
      repeat (refine wpQuiet_step (fun K hK => ?_); go_simp; first | (refine hK _ ?_; clear hK K) | (apply Exists.intro; refine ⟨?_, hK _ ?_⟩; (· (intro w' hw'; first | (go_at_call 115; refine (right_any _ _ (by decide) _).mono ?_; rintro e w1 ⟨rfl, rfl⟩; exact ⟨rfl, hw'⟩) | (have hcw := hw'.cell; go_simp; exact rfl))); clear hK K))
      refine wpQuiet_nil ?_
      intro wq hq
      clear inbNe inbW inbU
      have n0 := m0.on hq.below
      have n1 := m1.on hq.below
      have n2 := m2.on hq.below
      have btn := btm.trans (hq.below.mono btm.size)
      have htn := (hk.on btn).2 k hlt
      have hzn := (hk.on btn).1
      rw [← Hz.out] at htn
      have hBn := n0.lt
      obtain ⟨p0, p1, p2, p3, p4, p5, p6, p7⟩ := Blk.eight n0
      have hfn := n0.free
      clear hq
      go_wp2
      refine region_inb (by kernel_rfl) (by kernel_rfl) ?_
      have inbNe := InB.some
      have inbW := @wrap_small
      have inbU := IntKind.wrap_u8'
      repeat (refine wpQuiet_step (fun K hK => ?_); go_simp; first | (refine hK _ ?_; clear hK K) | (apply Exists.intro; refine ⟨?_, hK _ ?_⟩; (· (intro w' hw'; first | (go_at_call 115; refine (right_any _ _ (by decide) _).mono ?_; rintro e w1 ⟨rfl, rfl⟩; exact ⟨rfl, hw'⟩) | (have hcw := hw'.cell; go_simp; exact rfl))); clear hK K))
      refine wpQuiet_nil ?_
      intro wq hq
      clear inbNe inbW inbU
      have o0 := n0.on hq.below
      have o1 := n1.on hq.below
      have o2 := n2.on hq.below
      have bto := btn.trans (hq.below.mono btn.size)
      have hto := (hk.on bto).2 k hlt
      have hzo := (hk.on bto).1
      rw [← Hz.out] at hto
      have hBo := o0.lt
      obtain ⟨p0, p1, p2, p3, p4, p5, p6, p7⟩ := Blk.eight o0
      have hfo := o0.free
      clear hq
      go_wp2
      refine region_inb_tail 2 (by kernel_rfl) (by kernel_rfl) ?_
      simp only [List.take_succ_cons, List.take_zero, List.drop_succ_cons, List.drop_zero]
      have inbNe := InB.some
      have inbW := @wrap_small
      have inbU := IntKind.wrap_u8'
      repeat (refine wpQuiet_step (fun K hK => ?_); go_simp; first | (refine hK _ ?_; clear hK K) | (apply Exists.intro; refine ⟨?_, hK _ ?_⟩; (· (intro w' hw'; first | fail | (have hcw := hw'.cell; go_simp; exact rfl))); clear hK K))
      refine wpQuiet_nil ?_
      intro wq hq
      clear inbNe inbW inbU
      have q0 := o0.on hq.below
      have q1 := o1.on hq.below
      have q2 := o2.on hq.below
      have btq := bto.trans (hq.below.mono bto.size)
      have hBq := q0.lt
      obtain ⟨p0, p1, p2, p3, p4, p5, p6, p7⟩ := Blk.eight q0
      clear hq o0 o1 o2 bto
      refine wpList_copyN rfl _ _ _ _ rfl rfl rfl [e32 r.a, e32 r.b, e32 r.c, e32 r.d, e32 r.e, e32 r.f, e32 r.g] rfl Tryd.underlying124 size32 q0 (by simp [H8.vals_eq]) ?_ ?_ ?_
      · intro j v hv
        rw [Addr.add_lit]
        match j, hv with
        | 0, hv => cases hv; exact p0
        | 1, hv => cases hv; exact p1
        | 2, hv => cases hv; exact p2
        | 3, hv => cases hv; exact p3
        | 4, hv => cases hv; exact p4
        | 5, hv => cases hv; exact p5
        | 6, hv => cases hv; exact p6
        | j + 7, hv => simp at hv
      · intro v hv
        simp only [List.mem_cons, List.not_mem_nil, or_false] at hv
        rcases hv with rfl | rfl | rfl | rfl | rfl | rfl | rfl <;> rfl
      intro wc hbc hgc
      have hbc' : Blk wc w.heap.size (H8.vals ⟨r.a, r.a, r.b, r.c, r.d, r.e, r.f, r.g⟩) := hbc
      have r1 := q1.grown hgc (by simp; omega)
      have r2 := q2.grown hgc (by simp; omega)
      have btc := below_row btq hgc (Nat.le_refl _) btq.size
      clear p0 p1 p2 p3 p4 p5 p6 p7 hbc q0 q1 q2 btq hgc hBq
      obtain ⟨p0, p1, p2, p3, p4, p5, p6, p7⟩ := Blk.eight hbc'
      have hfc := hbc'.free
      go_wp2
      go_roundw
      case rel =>
        refine ⟨k + 1, by omega, by go_num, ?_, r1.other _ (by omega) |>.other _ (by omega), r2.other _ (by omega) |>.other _ (by omega), (btc.setCell (Nat.le_refl _) _).setCell (Nat.le_refl _) _⟩
        rw [Hr.out]
        exact (hbc'.set (k := 0) _).set (k := 4) _
      case measure => simp [intOf]; omega
    · obtain rfl : k = 64 := by omega
      have HW2 := Lib.hid (show (rounds W s 64).add s = (rounds (wl l 64) s 64).add s by rw [HW.out])
      obtain ⟨r, hr'⟩ : ∃ r, r = rounds W s 64 := ⟨_, rfl⟩
      rw [← hr'] at d0 HW2
      clear hr' HW HWl
      go_wp2
      go_loopw [90] (fun i wx => ∃ k : Nat, k ≤ 8 ∧ i = .int .i64 k ∧ Blk wx w.heap.size (vw (r.part s k)) ∧ Blk wx B1 (vw (List.replicate 8 0)) ∧ Blk wx B2 s.vals ∧ Below w.heap.size w wx) (fun i _ => 8 - (intOf i).toNat)
      case atStart => exact ⟨0, by omega, rfl, by rw [H8.part_zero]; exact d0, d1, d2, bt⟩
      case round =>
        obtain ⟨k, hk8, rfl, d0, d1, d2, bt⟩ := hrel
        by_cases hlt : k < 8
        · have g0 := Blk.word d0 (k := k) (by rw [H8.part_len]; exact hlt)
          have g2 := Blk.word d2 (k := k) (by rw [H8.list_len]; exact hlt)
          rw [H8.part_get] at g0
          have Hs := Lib.hid (H8.part_set r s k hlt)
          obtain ⟨x, hx⟩ : ∃ x, x = r.list.getD k 0 := ⟨_, rfl⟩
          obtain ⟨y, hy⟩ : ∃ x, x = s.list.getD k 0 := ⟨_, rfl⟩
          rw [← hx] at g0 Hs
          rw [← hy] at g2 Hs
          clear hx hy
          have hB := d0.lt
          have hBB := d2.lt
          go_wp2
          refine region_inb_tail 8 (by kernel_rfl) (by kernel_rfl) ?_
          simp only [List.take_succ_cons, List.take_zero, List.drop_succ_cons, List.drop_zero]
          have inbNe := InB.some
          have inbW := @wrap_small
          have inbU := IntKind.wrap_u8'
          repeat (refine wpQuiet_step (fun K hK => ?_); go_simp; first | (refine hK _ ?_; clear hK K) | (apply Exists.intro; refine ⟨?_, hK _ ?_⟩; (· (intro w' hw'; first | fail | (have hcw := hw'.cell; go_simp; exact rfl))); clear hK K))
          refine wpQuiet_nil ?_
          intro wq hq
          clear inbNe inbW inbU
          have m0 := d0.on hq.below
          have m1 := d1.on hq.below
          have m2 := d2.on hq.below
          have btm := bt.trans (hq.below.mono bt.size)
          have g0' := (hq.cell _ _ hB).trans g0
          have hf' := m0.free
          clear hq g0 g2
          go_wp2
          go_roundw
          case rel =>
            have hset := m0.set (k := k) (e32 (x + y))
            rw [vw_set, Hs.out] at hset
            refine ⟨_, _, _, _, _, _, _, _, _, _, _, _, _, ⟨k + 1, by omega, by go_num, hset, m1.other _ (by omega), m2.other _ (by omega), btm.setCell (Nat.le_refl _) _⟩, rfl⟩
          case measure => simp [intOf]; omega
        · obtain rfl : k = 8 := by omega
          rw [H8.part_all] at d0
          have hr2 : (r.add s).list.length = 8 := rfl
          go_wp2_with (first
            | (refine wpList_loadA rfl _ _ rfl rfl d0 Tryd.underlying98 size23 ?_)
            | (refine wpList_storeN rfl _ _ _ rfl rfl (ys := (r.add s).vals) rfl d1 rfl (vw_one _) size23 ?_; intro w9 hb9 hg9))
          refine bodyPost_ret (v := h8V (r.add s)) (results_arr Tryd.results99 _ hb9 Tryd.underlying98 size23 rfl) rfl ⟨?_, below_row bt hg9 (by omega) bt.size⟩
          rw [← HW2.out]
theorem block_any (s : H8) (A : Option Addr) (l : List UInt8) (n c : Nat) (w : World) (hn : n = l.length) (hc : n ≤ c) (hcm : c ≤ maxLen) (hr : Rd w w.heap.size A (l.map e8)) (hk : Tab w) :
    Calls Tryd.prog 99 #[h8V s, .slice A n c] w fun e w' => e = .returned (h8V (block s l)) ∧ Below w.heap.size w w' := by
  subst hn
  by_cases h : l.length = 64
  · rw [block, if_pos h, h]
    exact block_yes s A l c w h (by omega) hcm hr hk
  · rw [block, if_neg h]
    exact block_no s A _ c w h (by omega)
end Go.Proofs.YteecbjpnnklbpaaDoor.Sha

/- The library's slices.Grow (of nil) and slices.Concat at bytes. -/
namespace Go.Proofs.YteecbjpnnklbpaaDoor.Cat
open Go.RowKit
set_option linter.unusedVariables false
set_option maxRecDepth 100000
theorem info8 : (Tryd.prog.info? 5).map (fun i => (i.zero, i.size, i.bytes)) = some (some (.int .u8 0), 1, 1) := by kernel_rfl

/-- slices of bytes, one behind the other in a block -/
structure Pc where
  a : Option Addr
  l : List UInt8
  c : Nat
def Pc.val (p : Pc) : Value := .slice p.a p.l.length p.c
/-- they read so -/
def Pcs (w : World) (B : Nat) (ps : List Pc) : Prop := ∀ p ∈ ps, Rd w B p.a (p.l.map e8)
theorem Pcs.on {w w' : World} {ps : List Pc} (h : Pcs w w.heap.size ps) (b : Below w.heap.size w w') : Pcs w' w'.heap.size ps := fun p hp => (h p hp).on b
def cat (ps : List Pc) : List UInt8 := ps.flatMap (·.l)
def lens (ps : List Pc) : Nat := (cat ps).length
theorem cat_snoc (ps : List Pc) (k : Nat) (h : k < ps.length) : cat (ps.take (k + 1)) = cat (ps.take k) ++ ps[k].l := by
  unfold cat; rw [List.take_succ_eq_append_getElem h, List.flatMap_append]; simp
theorem lens_snoc (ps : List Pc) (k : Nat) (h : k < ps.length) : lens (ps.take (k + 1)) = lens (ps.take k) + ps[k].l.length := by
  unfold lens; rw [cat_snoc ps k h, List.length_append]
theorem lens_le (ps : List Pc) (k : Nat) : lens (ps.take k) ≤ lens ps := by
  have h : cat ps = cat (ps.take k) ++ cat (ps.drop k) := by unfold cat; rw [← List.flatMap_append, List.take_append_drop]
  unfold lens; rw [h, List.length_append]; omega

set_option maxHeartbeats 400000 in
theorem grow_any (n : Nat) (m : Int) (hm : m = (n : Int)) (w : World) (hn : n ≤ 1000000000000) :
    Calls Tryd.prog 59 #[.slice none 0 0, .int .i64 m] w fun e w' => ∃ A c, e = .returned (.slice A 0 c) ∧ w'.ownsRow w.heap.size 5 1 (.slice A 0 c) 0 [] ∧ Below w.heap.size w w' := by
  subst hm
  by_cases h : n = 0
  · subst h
    go_enter Tryd.func59, Tryd.ntmps59
    go_wp2
    go_ret
    exact ⟨none, 0, rfl, own_nil _ _ _ _, Below.refl _ _⟩
  · have h0 : 0 < (n : Int) := by omega
    have h5 : Tryd.t5.bytes = 1 := by kernel_rfl
    have hx : ¬ (281474976710656 < (n : Int)) := by omega
    have hy : Builtin.nextslicecap n 0 = n := by unfold Builtin.nextslicecap; rw [if_pos (by omega)]
    have hz : ¬ (281474976710656 < n) := by omega
    go_enter Tryd.func59, Tryd.ntmps59
    go_wp2_with fail
    have hge := grownCap_ge w n 0 5
    have hcm := grownCap_le_maxLen w n 0 5 (by unfold maxLen; omega)
    refine bodyPost_ret (results_tmp rfl _ _ _) rfl ⟨_, _, rfl, ⟨by simp, .inr ⟨w.heap.size, grownCap w n 0 5, _, rfl, Nat.le_refl _, (heap_drew _).symm ▸ heap_alloc_new w _, by omega, hcm, ?_, by simp⟩⟩, (b1alloc _ _).drew⟩
    simp only [Array.size_append, size_zeroCells]
    simp only [grownCap] at hge ⊢
    simp
    omega
/-- the slices' cells lie one behind the other in a block -/
def PcAt (w : World) (g : Nat) (ps : List Pc) : Prop := ∀ k (h : k < ps.length), w.cell? ⟨g, k, none⟩ = some ps[k].val
theorem PcAt.on {w w' : World} {g : Nat} {ps : List Pc} (h : PcAt w g ps) (b : Below w.heap.size w w') (hg : g < w.heap.size) : PcAt w' g ps := fun k hk => (b.cell (p := ⟨g, k, none⟩) hg).trans (h k hk)
set_option maxHeartbeats 400000 in
theorem concat_any (g : Nat) (ps : List Pc) (n c : Nat) (w : World) (hn : n = ps.length) (hg : g < w.heap.size) (hp : PcAt w g ps) (hr : Pcs w w.heap.size ps) (hl : lens ps ≤ 1000000000000) (hpl : ps.length ≤ 1000) :
    Calls Tryd.prog 44 #[.slice (some ⟨g, 0, none⟩) n c] w fun e w' => RetB 5 w (cat ps) e w' := by
  subst hn
  obtain ⟨i0, hi0, hz0, hz1, hz2⟩ := info_parts info8
  have HL := Lib.hid hl
  clear hl
  go_enter Tryd.func44, Tryd.ntmps44
  go_wp2_with fail
  go_loop [3, 11] (fun s i => ∃ k : Nat, k ≤ ps.length ∧ i = .int .i64 k ∧ s = .int .i64 (lens (ps.take k) : Int)) (fun _ i => ps.length - (intOf i).toNat)
  case atStart => exact ⟨0, by omega, rfl, rfl⟩
  case round =>
    obtain ⟨k, hk, rfl, rfl⟩ := hrel
    by_cases hlt : k < ps.length
    · have hc := hp k hlt
      unfold Pc.val at hc
      have hs := lens_snoc ps k hlt
      have hle := lens_le ps (k + 1)
      have hL := HL.out
      obtain ⟨p, hp'⟩ : ∃ p, p = ps[k] := ⟨_, rfl⟩
      rw [← hp'] at hc hs
      obtain ⟨S, hS⟩ : ∃ S, S = lens (ps.take k) := ⟨_, rfl⟩
      rw [← hS] at hs ⊢
      have Hs := Lib.hid hs
      have hb : S + p.l.length ≤ 1000000000000 := by omega
      clear hs hle hL hp' hS
      go_wp2
      go_round
      case rel => exact ⟨k + 1, by omega, by go_num, by rw [Hs.out]; go_num⟩
      case measure => simp [intOf]; omega
    · obtain rfl : k = ps.length := by omega
      have ht := Lib.hid (show lens (ps.take ps.length) = lens ps by rw [List.take_length])
      rw [ht.out]
      have hL := HL.out
      obtain ⟨S, hS⟩ : ∃ S, S = lens ps := ⟨_, rfl⟩
      rw [← hS] at hL ⊢
      have HS := Lib.hid hS
      clear hS
      go_wp2_with (go_at_call 59; refine (grow_any S _ rfl _ hL).mono ?_; rintro e w1 ⟨A1, c1, rfl, hown1, bw1⟩)
      have hpp := hp.on bw1 hg
      have hrr := hr.on bw1
      go_loopw [6, 27] (fun v i wr => ∃ k : Nat, k ≤ ps.length ∧ i = .int .i64 k ∧ wr.ownsRow w.heap.size 5 1 v (lens (ps.take k)) ((cat (ps.take k)).map e8) ∧ Below w.heap.size w wr) (fun _ i _ => ps.length - (intOf i).toNat)
      case atStart => exact ⟨0, by omega, rfl, hown1, bw1⟩
      case round =>
        obtain ⟨k, hk, rfl, hown, bw⟩ := hrel
        by_cases hlt : k < ps.length
        · have hc := hp.on bw hg k hlt
          have hrd := (hr ps[k] (List.getElem_mem hlt)).on bw
          unfold Pc.val at hc
          have hs := lens_snoc ps k hlt
          have hcs := cat_snoc ps k hlt
          have hle := lens_le ps (k + 1)
          have hS := HS.out
          obtain ⟨p, hp'⟩ : ∃ p, p = ps[k] := ⟨_, rfl⟩
          rw [← hp'] at hc hs hcs hrd
          have Hs := Lib.hid hs
          have Hcs := Lib.hid hcs
          have hb : lens (ps.take k) + p.l.length ≤ 1000000000000 := by omega
          clear hs hle hp' hS hcs
          go_wp2_with (at_builtin; refine wpList_append_rd _ rfl _ _ _ rfl w.heap.size 5 i0 _ 1 1 Tryd.underlying37 hi0 hz0 hz1 hz2 rfl (by omega) _ (lens (ps.take k)) _ rfl hown _ p.a p.l.length p.c (p.l.map e8) rfl (by simp) hrd (e8_one _) (by simp only [maxLen]; omega) (by omega) bw.size ?_; intro v1 w3 hown3 hg3 hat3)
          go_roundw
          case rel => exact ⟨k + 1, by omega, by go_num, by rw [Hs.out, Hcs.out, List.map_append]; exact hown3, bw.grown hg3 bw.size (fun g hg => own_block hown hg)⟩
          case measure => simp [intOf]; omega
        · obtain rfl : k = ps.length := by omega
          rw [List.take_length] at hown
          go_wp2
          go_ret
          exact RetB.mk hown rfl bw
end Go.Proofs.YteecbjpnnklbpaaDoor.Cat

/- The library's slices.Chunk at bytes, blocks of 64: its iterator's contract for rows of whole blocks; a caller's side. -/
namespace Go.Proofs.YteecbjpnnklbpaaDoor.Ch
open Go.RowKit Go.Shelf
attribute [local go_sem] Oper.semAt_some
set_option linter.unusedVariables false

theorem wpListIn_loadA {F : Fence} {n : Nat} {P : Program} {w : World} {ops : Array Oper} {rest : List Oper} {o : Oper} {a : Act} {Q : Exit → Act → World → Prop} (hg : o.guard = none) (t : TypeId) (x : Operand) (ho : o.op = .load t x)
    {g : Nat} (hx : a.eval x = .pointer (some ⟨g, 0, none⟩)) {xs : List Value} (hb : Blk w g xs) {k : Nat} {e : TypeId} (hu : P.underlying t = some (.array k e)) (hi : (P.info? t).map (·.size) = some xs.length)
    (h : wpListIn F n P ops Q rest (a.put o.dst (arrV xs)) w) : wpListIn F n P ops Q (o :: rest) a w := by
  obtain ⟨t', hb⟩ := hb
  refine wpListIn_plain hg fun K hK => ?_
  have := run_loadVar_row (P := P) w g t' t _ _ _ hb hu rfl (by simpa using hi)
  unfold Oper.wpIn
  refine ⟨by simp [Oper.about, ho], ?_⟩
  rw [Oper.semAt_plain F _ _ (by rw [ho]; intro c hc'; cases hc')]
  simp [execOp, ho, hx, Instr.loadAt, Instr.sureAddr, this]
  exact hK _ _ h
theorem wpListIn_storeN {F : Fence} {n : Nat} {P : Program} {w : World} {ops : Array Oper} {rest : List Oper} {o : Oper} {a : Act} {Q : Exit → Act → World → Prop} (hgd : o.guard = none) (t : TypeId) (x y : Operand) (ho : o.op = .store t x y)
    {g : Nat} (hx : a.eval x = .pointer (some ⟨g, 0, none⟩)) {xs ys : List Value} (hy : a.eval y = arrV ys) (hb : Blk w g xs) (hl : xs.length = ys.length) (h1 : ∀ v ∈ ys, v.oneCell' = true) (hi : (P.info? t).map (·.size) = some ys.length)
    (h : ∀ w1, Blk w1 g ys → w.grownBy w1 (some g) → wpListIn F n P ops Q rest (a.put o.dst undef) w1) : wpListIn F n P ops Q (o :: rest) a w := by
  have hb0 := hb
  obtain ⟨t', hb⟩ := hb
  refine wpListIn_plain hgd fun K hK => ?_
  have := run_storeVar_row (P := P) w g t' t _ ys.toArray hb (by simpa using hi) (by simpa using hl) (by simpa using h1)
  unfold Oper.wpIn
  refine ⟨by simp [Oper.about, ho], ?_⟩
  rw [Oper.semAt_plain F _ _ (by rw [ho]; intro c hc'; cases hc')]
  unfold arrV at hy
  simp [execOp, ho, hx, hy, Instr.storeAt, Instr.sureAddr, this]
  exact hK _ _ (h _ hb0.setRow (setRow_grown _ _ _))
theorem wpListIn_allocN {F : Fence} {n : Nat} {P : Program} {w : World} {ops : Array Oper} {rest : List Oper} {o : Oper} {a : Act} {Q : Exit → Act → World → Prop} (hg : o.guard = none) (t : TypeId) (ho : o.op = .alloc t) (xs : List Value)
    (hz : ∀ w, (zeroValue t).run P w = .ok (arrV xs) w)
    (h : ∀ w1, Blk w1 w.heap.size xs → Below w.heap.size w w1 → w.heap.size < w1.heap.size → wpListIn F n P ops Q rest (a.put o.dst (.pointer (some ⟨w.heap.size, 0, none⟩))) w1) : wpListIn F n P ops Q (o :: rest) a w := by
  refine wpListIn_plain hg fun K hK => ?_
  unfold Oper.wpIn
  refine ⟨by simp [Oper.about, ho], ?_⟩
  rw [Oper.semAt_plain F _ _ (by rw [ho]; intro c hc'; cases hc')]
  simp [execOp, ho, Instr.alloc, hz, go_sem, arrV]
  exact hK _ _ (h _ (Blk.new w xs t) (b1alloc _ _) (by simp))
theorem wpListIn_append_rd {F : Fence} {n : Nat} {P : Program} (w : World) {ops : Array Oper} {rest : List Oper} {o : Oper} {a : Act} {Q : Exit → Act → World → Prop} (hgd : o.guard = none) (s x : Operand) (t : TypeId)
    (ho : o.op = .call { callee := .builtin .append, args := #[s, x], argTypes := #[t, t] })
    (base : Nat) (e : TypeId) (i : TypeInfo) (z : Value) (size bytes : Nat) (ht : P.underlying t = some (.slice e)) (hi : P.info? e = some i) (hz : i.zero = some z)
    (hsize : i.size = size) (hby : i.bytes = bytes) (hzs : z.cells.size = size) (hsz : 0 < size)
    (v : Value) (k : Nat) (xs : List Value) (hs : a.eval s = v) (hown : w.ownsRow base e size v k xs)
    (B : Nat) (A : Option Addr) (m c : Nat) (news : List Value) (hx : a.eval x = .slice A m c) (hl : news.length = m * size) (hr : Rd w B A news) (h1 : ∀ u ∈ news, u.oneCell' = true)
    (h63 : k + m ≤ maxLen) (hbytes : (k + m) * bytes ≤ 140737488355328) (hbase : base ≤ w.heap.size)
    (h : ∀ v' w', w'.ownsRow base e size v' (k + m) (xs ++ news) → w.grownBy w' v.ownBlock → (v'.ownBlock = v.ownBlock ∨ v'.ownBlock = some w.heap.size) → wpListIn F n P ops Q rest (a.put o.dst v') w') : wpListIn F n P ops Q (o :: rest) a w := by
  obtain ⟨v', w', hrun, h2, h3, h4⟩ := run_append_rd (P := P) w base t o.type e i z size bytes ht hi hz hsize hby hzs hsz v k xs hown B A m c news hl hr h1 h63 hbytes hbase
  refine wpListIn_plain hgd fun K hK => ?_
  unfold Oper.wpIn
  refine ⟨by simp [Oper.about, ho, resolve, Target.leads, Sem.run_pure], ?_⟩
  rw [Oper.semAt_plain F _ _ (by rw [ho]; intro c hc'; cases hc')]
  simp [execOp, ho, resolve, invoke, builtin, hs, hx, hrun, Result.andThen]
  exact hK _ _ (h v' w' h2 h3 h4)
/-- the k-th block of 64 bytes of a row that begins there -/
def part (b off k : Nat) : Value := .slice (some ⟨b, off + 64 * k, none⟩) 64 64
theorem fin_take {m k : Nat} (h : k < m) : (List.finRange m).take (k + 1) = (List.finRange m).take k ++ [⟨k, h⟩] := by
  rw [List.take_succ_eq_append_getElem (by simpa using h)]
  simp
/-- all blocks below n but one lie as they lay -/
def KpX (g n : Nat) (W W' : World) : Prop := W.heap.size ≤ W'.heap.size ∧ ∀ j, j < n → j ≠ g → W'.heap[j]? = W.heap[j]?
theorem KpX.refl (g n : Nat) (W : World) : KpX g n W W := ⟨Nat.le_refl _, fun _ _ _ => rfl⟩
theorem KpX.trans {g n : Nat} {A B C : World} (h : KpX g n A B) (k : KpX g n B C) : KpX g n A C := ⟨Nat.le_trans h.1 k.1, fun j hj hn => (k.2 j hj hn).trans (h.2 j hj hn)⟩
theorem KpX.cell {g n : Nat} {W W' : World} (h : KpX g n W W') {b : Nat} (hb : b < n) (hn : b ≠ g) (o : Nat) : W'.cell? ⟨b, o, none⟩ = W.cell? ⟨b, o, none⟩ := World.cell?_of_block (h.2 b hb hn)
theorem KpX.turn {g n : Nat} (W : World) (l : Nat) (o' : Obj) (hl : n ≤ l) : KpX g n W (W.putObj l o') := ⟨(grownBy_putObj' W l o').size, fun j hj _ => World.putObj_heap_other (by omega)⟩
theorem KpX.of_below {g n : Nat} {W W' : World} (h : Below W.heap.size W W') (hn : n ≤ W.heap.size) : KpX g n W W' := ⟨h.size, fun j hj _ => h.block j (by omega)⟩
theorem KpX.of_row {g n : Nat} {W W' : World} (h : W.grownBy W' (some g)) (hn : n ≤ W.heap.size) : KpX g n W W' := ⟨h.size, fun j hj hj' => h.block j (by omega) (fun e => hj' (by cases e; rfl))⟩
theorem keeps_below {W W' : World} (h : Below W.heap.size W W') : KeepsOthers W W' := KeepsOthers.of_grownBy (below_grown h none) (fun j o e => by cases e)
theorem keeps_row {W W' : World} {g : Nat} {xs : List Value} (h : W.grownBy W' (some g)) (hb : Blk W g xs) : KeepsOthers W W' := KeepsOthers.of_grownBy h (fun j o e ho => by
  cases e
  obtain ⟨t, ht⟩ := hb
  rw [ht] at ho
  cases ho
  rfl)
theorem Rd.keepX {g n : Nat} {W W' : World} {A : Option Addr} {xs : List Value} {b off : Nat} (h : Rd W n (some ⟨b, off, none⟩) xs) (k : KpX g n W W') (hb : b ≠ g) : Rd W' n (some ⟨b, off, none⟩) xs := fun hne => by
  obtain ⟨b', off', e, hlt, hc⟩ := h hne
  cases e
  exact ⟨b, off, rfl, hlt, fun i hi => (k.cell hlt hb _).trans (hc i hi)⟩
set_option maxRecDepth 100000 in
set_option maxHeartbeats 1000000 in
theorem chunk1_in (Kp : World → World → Prop) (n : Nat) (hn : 1 ≤ n) (l Bs Bn b off m cap : Nat) (hreach : 64 * m ≤ 1000000000000) (hcap : 64 * m ≤ cap) (hcm : cap ≤ maxLen) (J Jx : List (Fin m) → World → Prop)
    (hY : ∀ pre x W, J pre W → pre.length < m → YieldAt Fence.wide (n - 1) Tryd.prog l #[part b off x.1] W fun e W' =>
      (e = .returned (.bool true) ∧ J (pre ++ [x]) W' ∧ Kp W W') ∨ (e = .returned (.bool false) ∧ Jx (pre ++ [x]) W'))
    (W : World) (hBs : W.cell? ⟨Bs, 0, none⟩ = some (.slice (some ⟨b, off, none⟩) (64 * m) cap)) (hBn : W.cell? ⟨Bn, 0, none⟩ = some (.int .i64 64)) (hs0 : ∀ W W', Kp W W' → W'.cell? ⟨Bs, 0, none⟩ = W.cell? ⟨Bs, 0, none⟩) (hn0 : ∀ W W', Kp W W' → W'.cell? ⟨Bn, 0, none⟩ = W.cell? ⟨Bn, 0, none⟩) (h0 : J [] W)
    (hJd : ∀ pre (W : World) k, J pre W → J pre (W.drewN k)) (hJxd : ∀ pre (W : World) k, Jx pre W → Jx pre (W.drewN k)) :
    CallsIn Fence.wide n Tryd.prog 113 #[.func (.yield l) #[] #[], .pointer (some ⟨Bs, 0, none⟩), .pointer (some ⟨Bn, 0, none⟩)] W fun e W' => (∃ v, e = .returned v) ∧
      ((∃ ys, ys = List.finRange m ∧ J ys W') ∨ (∃ pre, (∃ k, k ≤ m ∧ pre = (List.finRange m).take k) ∧ Jx pre W')) := by
  refine callsIn_of_wp Tryd.func113 rfl trivial ?_ rfl
  simp only [Tryd.ntmps113, List.size_toArray, List.length_cons, List.length_nil, Nat.reduceAdd, Nat.reduceSub, Array.replicate_succ, Array.replicate_zero, List.push_toArray, List.append_toArray, List.nil_append, List.cons_append]
  unfold maxLen at hcm
  gi_wp2
  gi_loopw [4] (fun i wr => ∃ k j : Nat, k ≤ m ∧ Hid (j = 64 * k) ∧ i = .int .i64 (j : Int) ∧ J ((List.finRange m).take k) wr ∧ wr.cell? ⟨Bs, 0, none⟩ = some (.slice (some ⟨b, off, none⟩) (64 * m) cap) ∧ wr.cell? ⟨Bn, 0, none⟩ = some (.int .i64 64))
    (fun i _ => 64 * m + 1 - (intOf i).toNat)
  case atStart => exact ⟨0, 0, Nat.zero_le _, Lib.hid rfl, rfl, h0, hBs, hBn⟩
  case round =>
    obtain ⟨k, j, hk, hj, rfl, hJs, cs, cn⟩ := hrel
    obtain ⟨M, hM⟩ : ∃ M, M = 64 * m := ⟨_, rfl⟩
    rw [← hM] at cs ⊢ hcap hreach
    have HM := Lib.hid hM
    have hj' := hj.out
    by_cases hlt : k < m
    · have hjM : j + 64 ≤ M := by omega
      clear hM hj'
      gi_wp2
      gi_quiet (fail)
      have hp : part b off k = .slice (some ⟨b, off + j, none⟩) 64 64 := by rw [part, hj.out]
      obtain ⟨fn, tmps, assign, body, hy, hR⟩ := hY ((List.finRange m).take k) ⟨k, hlt⟩ (wr.drewN nq) (hJd _ _ _ hJs) (by simp; omega)
      rw [hp] at hy
      clear hp
      gi_wp2
      refine hR.mono ?_
      rintro e W3 (⟨rfl, hJ3, hk3⟩ | ⟨rfl, hJx3⟩)
      · have cn3 := (hn0 _ _ hk3).trans cn
        have cs3 := (hs0 _ _ hk3).trans cs
        gi_wp2
        go_roundw
        case rel => exact ⟨k + 1, j + 64, by omega, Lib.hid (by rw [hj.out]; omega), by go_num, by rw [fin_take hlt]; exact hJ3, cs3, cn3⟩
        case measure => simp [intOf]; omega
      · gi_wp2
        refine bodyPost_ret (results_none rfl _ _ _) rfl ?_
        exact ⟨⟨_, rfl⟩, .inr ⟨_, ⟨k + 1, by omega, (fin_take hlt).symm⟩, hJx3⟩⟩
    · obtain rfl : k = m := by omega
      obtain rfl : j = M := by omega
      clear hM hj'
      gi_wp2
      go_end0
      rw [List.take_of_length_le (by simp)] at hJs
      exact ⟨⟨_, rfl⟩, .inl ⟨_, rfl, hJs⟩⟩
theorem drew_grown (w : World) (k : Nat) (r : Option Nat) : w.grownBy (w.drewN k) r := ⟨rfl, rfl, rfl, Nat.le_refl _, fun _ _ _ => rfl⟩
theorem chunk_stops (Kp : World → World → Prop) (n : Nat) (hn : 1 ≤ n) (Bs Bn b off m cap : Nat) (hreach : 64 * m ≤ 1000000000000) (hcap : 64 * m ≤ cap) (hcm : cap ≤ maxLen) (w : World) (hs : Bs < w.heap.size) (hnn : Bn < w.heap.size)
    (hs0 : ∀ W W', Kp W W' → W'.cell? ⟨Bs, 0, none⟩ = W.cell? ⟨Bs, 0, none⟩) (hn0 : ∀ W W', Kp W W' → W'.cell? ⟨Bn, 0, none⟩ = W.cell? ⟨Bn, 0, none⟩)
    (hBs : w.cell? ⟨Bs, 0, none⟩ = some (.slice (some ⟨b, off, none⟩) (64 * m) cap)) (hBn : w.cell? ⟨Bn, 0, none⟩ = some (.int .i64 64)) :
    SeqStopsK Fence.wide n Tryd.prog 113 #[.pointer (some ⟨Bs, 0, none⟩), .pointer (some ⟨Bn, 0, none⟩)] (fun x : Fin m => #[part b off x.1]) Kp (fun ys => ys = List.finRange m)
      (fun pre => ∃ k, k ≤ m ∧ pre = (List.finRange m).take k) m w := fun l J Jx W hW hJ hJx hY h0 => by
  have hc1 := (hW.cell (p := ⟨Bs, 0, none⟩) hs).trans hBs
  have hc2 := (hW.cell (p := ⟨Bn, 0, none⟩) hnn).trans hBn
  exact chunk1_in Kp n hn l Bs Bn b off m cap hreach hcap hcm J Jx hY W hc1 hc2 hs0 hn0 h0 (fun pre W k h => hJ pre W _ none h (drew_grown _ _ _) (fun r e => by cases e)) (fun pre W k h => hJx pre W _ none h (drew_grown _ _ _) (fun r e => by cases e))
set_option maxRecDepth 100000 in
set_option maxHeartbeats 400000 in
theorem chunk_any (A : Option Addr) (n c : Nat) (w : World) :
    Calls Tryd.prog 97 #[.slice A n c, .int .i64 64] w fun e w' => e = .returned (.func (.func 113) #[] #[.pointer (some ⟨w.heap.size, 0, none⟩), .pointer (some ⟨w.heap.size + 1, 0, none⟩)]) ∧
      w'.cell? ⟨w.heap.size, 0, none⟩ = some (.slice A n c) ∧ w'.cell? ⟨w.heap.size + 1, 0, none⟩ = some (.int .i64 64) ∧ Below w.heap.size w w' ∧ w.heap.size + 1 < w'.heap.size := by
  go_enter Tryd.func97, Tryd.ntmps97
  go_wp2
  go_ret
  refine ⟨rfl, ?_, ?_, b2alloc _ _ _, ?_⟩
  all_goals simp
end Go.Proofs.YteecbjpnnklbpaaDoor.Ch
