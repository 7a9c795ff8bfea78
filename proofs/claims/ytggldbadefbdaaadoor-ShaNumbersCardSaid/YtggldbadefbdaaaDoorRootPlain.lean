/- Prime numbers and roots as plain functions of numbers. Nothing of the program. -/
import Derived.Test.YtggldbadefbdaaaDoorShaPlain
namespace Go.Proofs.YtggldbadefbdaaaDoor.Sha
set_option linter.unusedVariables false
/-- nothing from 2 on and below k is in n -/
def isAt (n : Nat) : Nat → Bool
  | 0 => true
  | k + 1 => isAt n k && (decide (k < 2) || !(n % k == 0))
def primeF : Nat → Nat → Nat → Nat
  | 0, _, _ => 0
  | f + 1, n, t => if isAt n n then (if t = 0 then n else primeF f (n + 1) (t - 1)) else primeF f (n + 1) t
def primeN (t : Nat) : Nat := primeF 398 2 t
/-- carries and digits of a wide number by a small one -/
def cAt (a : Nat → Nat) (m : Nat) : Nat → Nat
  | 0 => 0
  | i + 1 => (a i * m + cAt a m i) / 4294967296
def xAt (a : Nat → Nat) (m i : Nat) : Nat := a i * m + cAt a m i
def lo (a : Nat → Nat) (n i : Nat) : Nat := xAt a (n % 65536) i % 4294967296
def sAt (a : Nat → Nat) (n : Nat) : Nat → Nat
  | 0 => 0
  | i + 1 => (xAt a (n / 65536) i % 4294967296 * 65536 + sAt a n i + lo a n i) / 4294967296
def yAt (a : Nat → Nat) (n i : Nat) : Nat := xAt a (n / 65536) i % 4294967296 * 65536 + sAt a n i + lo a n i
def timesN (a : Nat → Nat) (n : Nat) (i : Nat) : Nat := yAt a n i % 4294967296
def fn (l : List Nat) (i : Nat) : Nat := l.getD i 0
def timesL (l : List Nat) (n : Nat) : List Nat := (List.range 5).map (timesN (fn l) n)
def aboveF (a b : List Nat) : Nat → Bool
  | 0 => false
  | i + 1 => if fn a i ≠ fn b i then decide (fn b i < fn a i) else aboveF a b i
def powL (n : Nat) : Nat → List Nat
  | 0 => [1, 0, 0, 0, 0]
  | k + 1 => timesL (powL n k) n
def limitL (n power : Nat) : List Nat := if power = 2 then [0, 0, n, 0, 0] else [0, 0, 0, n, 0]
def rootF (n power : Nat) : Nat → Nat → Nat
  | 0, r => r
  | k + 1, r => rootF n power k (if aboveF (powL (r + 2 ^ k) power) (limitL n power) 5 then r else r + 2 ^ k)
def rootN (n power : Nat) : Nat := rootF n power 36 0 % 4294967296
theorem primes_ok : ∀ t : Fin 64, rootN (primeN t.val) 3 = (kAt t.val).toNat := by decide +kernel
theorem primes_lt : ∀ t : Fin 64, primeN t.val < 1000 := by decide +kernel
theorem first_ok : (List.range 8).map (fun i => rootN (primeN i) 2) = first.list.map (·.toNat) := by decide +kernel
end Go.Proofs.YtggldbadefbdaaaDoor.Sha
