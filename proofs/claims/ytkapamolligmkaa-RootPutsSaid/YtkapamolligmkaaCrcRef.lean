/- The walks of the reference's sums (oublietteref06), and crc.Bytes. -/
import Derived.Test.YtkapamolligmkaaCrc
import Derived.Test.YtkapamolligmkaaNum
namespace Go.Proofs.Ytkapamolligmkaa.Crc
open Go.RowKit
set_option linter.unusedVariables false

theorem rodd (c : UInt32) (h : c.toNat % 2 = 1) : bits .xor .u32 ((c.toNat : Int) / 2) 3988292384 = ((step c).toNat : Int) := by
  have h2 : (c.toNat : Int) / (2 : Int) = ((c >>> 1).toNat : Int) := by rw [half]; omega
  rw [h2, step_odd h]
  exact xor32 (c >>> 1) 3988292384
theorem reven (c : UInt32) (h : c.toNat % 2 = 0) : (c.toNat : Int) / 2 = ((step c).toNat : Int) := by
  have h2 : (c.toNat : Int) / (2 : Int) = ((c >>> 1).toNat : Int) := by rw [half]; omega
  rw [h2, step_even h]





















theorem take_zero_run (c : UInt32) (l : List UInt8) : run c (l.take 0) = c := by simp [run]







































theorem more_zero (l : List UInt8) : more 0 l = run 4294967295 l ^^^ 4294967295 := by unfold more; rw [UInt32.zero_xor]











/-- the sum as eight bytes -/
def sumB (l : List UInt8) : List UInt8 := Num.putL (more 0 l).toNat 8
theorem wide (x : UInt32) : (x.toNat : Int) = ((x.toUInt64).toNat : Int) := by simp
set_option maxHeartbeats 400000 in
theorem bytes_any (A : Option Addr) (l : List UInt8) (n cap : Nat) (w : World) (hn : n = l.length) (hr : Rd w w.heap.size A (l.map e8)) (hl : l.length ≤ 1000000000000) :
    Calls Try.prog 55 #[.slice A n cap] w fun e w' => RetB 5 w (sumB l) e w' := by
  subst hn
  have h0 : (0 : Int) ≤ ((more 0 l).toNat : Int) := by omega
  have h1 : ((more 0 l).toNat : Int) ≤ 4294967295 := by have := (more 0 l).toNat_lt; omega
  have hw := Lib.hid (wide (more 0 l))
  have hv : sumB l = Num.putL (more 0 l).toUInt64.toNat 8 := by rw [sumB]; simp
  rw [hv]; clear hv
  go_enter Try.func55, Try.ntmps55
  go_wp2_with fail
  refine (of_any _ _ _ _ _ rfl hr hl).mono ?_
  rintro e w1 ⟨rfl, hb1⟩
  go_wp2_with fail
  refine (Num.put_any _ _ hw.out 8 _ (by rfl) (by omega) (by omega) _).mono ?_
  rintro e w2 ⟨A2, c2, rfl, hown, hb2⟩
  go_wp2
  go_ret
  exact RetB.after hb1 hown hb2



















end Go.Proofs.Ytkapamolligmkaa.Crc
