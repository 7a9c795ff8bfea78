/- A sector and its bytes: plain functions; nothing of the program. -/
import Derived.Test.YtkapamolligmkaaNumPlain
import Derived.Test.YtkapamolligmkaaMacPlain
namespace Go.Proofs.Ytkapamolligmkaa.Sec
open Go.Proofs.Ytkapamolligmkaa.Num (putL getN putL_len)
open Go.Proofs.Ytkapamolligmkaa.Mac (padTo)

structure X where
  kind : Int
  life : UInt64
  seq : Int
  gen : UInt64
  body : List UInt8
/-- may it stand at a place? -/
def rightF (p : Int) (x : X) : Int := if x.kind < 1 ∨ 5 < x.kind ∨ p < 0 ∨ 1023 < p ∨ x.seq < 0 ∨ 1073741824 < x.seq then 2 else if 479 < x.body.length then 6 else 0
theorem right_of {p : Int} {x : X} (h : rightF p x = 0) : 1 ≤ x.kind ∧ x.kind ≤ 5 ∧ 0 ≤ p ∧ p ≤ 1023 ∧ 0 ≤ x.seq ∧ x.seq ≤ 1073741824 ∧ x.body.length ≤ 479 := by
  unfold rightF at h
  split at h
  · cases h
  · split at h
    · cases h
    · omega
theorem right_2 {p : Int} {x : X} (h : x.kind < 1 ∨ 5 < x.kind ∨ p < 0 ∨ 1023 < p ∨ x.seq < 0 ∨ 1073741824 < x.seq) : rightF p x = 2 := if_pos h
theorem right_6 {p : Int} {x : X} (h : ¬ (x.kind < 1 ∨ 5 < x.kind ∨ p < 0 ∨ 1023 < p ∨ x.seq < 0 ∨ 1073741824 < x.seq)) (hb : 479 < x.body.length) : rightF p x = 6 := by unfold rightF; rw [if_neg h, if_pos hb]
theorem right_0 {p : Int} {x : X} (h : ¬ (x.kind < 1 ∨ 5 < x.kind ∨ p < 0 ∨ 1023 < p ∨ x.seq < 0 ∨ 1073741824 < x.seq)) (hb : ¬ 479 < x.body.length) : rightF p x = 0 := by unfold rightF; rw [if_neg h, if_neg hb]
def head (p : Int) (x : X) : List UInt8 := putL x.kind.toNat 1 ++ putL p.toNat 2 ++ putL x.life.toNat 8 ++ putL x.seq.toNat 4 ++ putL x.gen.toNat 8 ++ putL x.body.length 2
theorem head_len (p : Int) (x : X) : (head p x).length = 25 := by simp [head, putL_len]
/-- the first 504 bytes -/
def text (p : Int) (x : X) : List UInt8 := padTo (head p x ++ x.body) 504
theorem padTo_len (l : List UInt8) (n : Nat) : (padTo l n).length = n := by unfold padTo; simp; omega
theorem text_len (p : Int) (x : X) : (text p x).length = 504 := padTo_len _ _
def zero512 : List UInt8 := List.replicate 512 0
theorem zero512_len : zero512.length = 512 := List.length_replicate ..
def blankB (b : List UInt8) : Bool := decide (b = zero512)
/-- the bytes from a place on -/
def cut (b : List UInt8) (i n : Nat) : List UInt8 := (b.drop i).take n
def lenB (b : List UInt8) : Nat := getN (cut b 23 2)
def ofB (b : List UInt8) : X := ⟨(getN (cut b 0 1) : Int), UInt64.ofNat (getN (cut b 3 8)), (getN (cut b 11 4) : Int), UInt64.ofNat (getN (cut b 15 8)), cut b 25 (lenB b)⟩
theorem cut_len {b : List UInt8} {i n : Nat} (h : i + n ≤ b.length) : (cut b i n).length = n := by simp [cut]; omega
/-- the sector of 504 bytes -/
def reads (p : Int) (b : List UInt8) : Option X := if lenB b ≤ 479 ∧ rightF p (ofB b) = 0 ∧ text p (ofB b) = b then some (ofB b) else none
def same (x y : X) : Bool := decide (x.kind = y.kind) && decide (x.life = y.life) && decide (x.seq = y.seq) && decide (x.gen = y.gen) && decide (x.body = y.body)
theorem cut_take (b : List UInt8) (i n m : Nat) (h : i + n ≤ m) : cut (b.take m) i n = cut b i n := by
  unfold cut
  rw [List.drop_take, List.take_take, Nat.min_eq_left (by omega)]
theorem ofB_take {b : List UInt8} {m : Nat} (hm : 504 ≤ m) (h : lenB b ≤ 479) : ofB (b.take m) = ofB b := by
  have h2 : lenB (b.take m) = lenB b := by unfold lenB; rw [cut_take _ _ _ _ (by omega)]
  unfold ofB
  rw [h2, cut_take _ _ _ _ (by omega), cut_take _ _ _ _ (by omega), cut_take _ _ _ _ (by omega), cut_take _ _ _ _ (by omega), cut_take _ _ _ _ (by omega)]
theorem lenB_take {b : List UInt8} {m : Nat} (hm : 504 ≤ m) : lenB (b.take m) = lenB b := by unfold lenB; rw [cut_take _ _ _ _ (by omega)]
end Go.Proofs.Ytkapamolligmkaa.Sec
