/- The walks of the reference's Bytes and First. -/
import Derived.Test.YtdkcdojcglmlbaaUtf1
import Derived.Test.YtdkcdojcglmlbaaStr
import Derived.Deep.RegionHeld3
namespace Go.Proofs.Ytdkcdojcglmlbaa.Utf
open Go.RowKit
set_option linter.unusedVariables false
set_option maxRecDepth 100000
theorem retB_lit0 {E : TypeId} {w : World} {cs : Array Value} {l : List UInt8} {v : Value} (h : cs.toList = l.map e8) (hm : l.length ≤ 1000000) (hv : v = .slice (some ⟨w.heap.size, 0, none⟩) l.length l.length) :
    RetB E w l (.returned v) (w.alloc (.cells cs E)) := by
  subst hv
  have hs : cs.size = l.length := by have := congrArg List.length h; simpa using this
  have := own_lit w E cs w.heap.size l.length (Nat.le_refl _) hs (by unfold maxLen; omega)
  rw [h] at this
  exact ⟨_, _, rfl, this, b1alloc _ _⟩
theorem e8_of {a : Nat} (h : a < 256) {x : Int} (hx : x = (a : Int)) : Value.int .u8 x = e8 (UInt8.ofNat a) := by
  unfold e8
  rw [UInt8.toNat_ofNat', Nat.mod_eq_of_lt (by omega), hx]
theorem cons_eq {α : Type} {a b : α} {l m : List α} (h : a = b) (k : l = m) : a :: l = b :: m := by rw [h, k]
theorem rbytes_any (r : Nat) (m : Int) (hm : m = (r : Int)) (hr : r ≤ 1114111) (w : World) : Calls Try.prog 152 #[.int .i32 m] w (RetB 5 w (enc r)) := by
  subst hm
  obtain ⟨L, hL⟩ : ∃ L, L = enc r := ⟨_, rfl⟩
  rw [← hL]
  rcases (show r < 128 ∨ (128 ≤ r ∧ r < 2048) ∨ (2048 ≤ r ∧ r < 65536) ∨ 65536 ≤ r by omega) with h | ⟨h0, h⟩ | ⟨h0, h⟩ | h0
  · have hI : (r : Int) < 128 := by omega
    have he := Lib.hid (show L = [UInt8.ofNat r] by rw [hL]; unfold enc; rw [if_pos h])
    clear hL
    go_enter Try.func152, Try.ntmps152
    go_wp2
    go_ret
    exact retB_lit0 (by rw [he.out]; exact cons_eq (e8_of (by omega) (by omega)) rfl) (by rw [he.out]; simp) (by rw [he.out]; rfl)
  · have hI : ¬ (r : Int) < 128 := by omega
    have hI2 : (r : Int) < 2048 := by omega
    have he := Lib.hid (show L = [UInt8.ofNat (192 + r / 64), UInt8.ofNat (128 + r % 64)] by rw [hL]; unfold enc; rw [if_neg (by omega), if_pos h])
    clear hL
    go_enter Try.func152, Try.ntmps152
    go_wp2
    go_ret
    exact retB_lit0 (by rw [he.out]; exact cons_eq (e8_of (by omega) (by omega)) (cons_eq (e8_of (by omega) (by omega)) rfl)) (by rw [he.out]; simp) (by rw [he.out]; rfl)
  · have hI : ¬ (r : Int) < 128 := by omega
    have hI2 : ¬ (r : Int) < 2048 := by omega
    have hI3 : (r : Int) < 65536 := by omega
    have he := Lib.hid (show L = [UInt8.ofNat (224 + r / 4096), UInt8.ofNat (128 + r / 64 % 64), UInt8.ofNat (128 + r % 64)] by rw [hL]; unfold enc; rw [if_neg (by omega), if_neg (by omega), if_pos h])
    clear hL
    go_enter Try.func152, Try.ntmps152
    go_wp2
    go_ret
    exact retB_lit0 (by rw [he.out]; exact cons_eq (e8_of (by omega) (by omega)) (cons_eq (e8_of (by omega) (by omega)) (cons_eq (e8_of (by omega) (by omega)) rfl))) (by rw [he.out]; simp) (by rw [he.out]; rfl)
  · have hI : ¬ (r : Int) < 128 := by omega
    have hI2 : ¬ (r : Int) < 2048 := by omega
    have hI3 : ¬ (r : Int) < 65536 := by omega
    have he := Lib.hid (show L = [UInt8.ofNat (240 + r / 262144), UInt8.ofNat (128 + r / 4096 % 64), UInt8.ofNat (128 + r / 64 % 64), UInt8.ofNat (128 + r % 64)] by rw [hL]; unfold enc; rw [if_neg (by omega), if_neg (by omega), if_neg (by omega)])
    clear hL
    go_enter Try.func152, Try.ntmps152
    go_wp2
    go_ret
    exact retB_lit0 (by rw [he.out]; exact cons_eq (e8_of (by omega) (by omega)) (cons_eq (e8_of (by omega) (by omega)) (cons_eq (e8_of (by omega) (by omega)) (cons_eq (e8_of (by omega) (by omega)) rfl)))) (by rw [he.out]; simp) (by rw [he.out]; rfl)
end Go.Proofs.Ytdkcdojcglmlbaa.Utf
