/- Texts of this claim, joined: Utf1, Utf2, Utf3, ScanPlain, Utf4, Part, NamPlain, NodRf. -/
import Derived.Test.YtnfhlnkbkfgihaaDoorNodeReadsA
import Derived.Test.YtnfhlnkbkfgihaaDoorRows
import Derived.Outline
import Derived.Deep.RegionHeld3
import Derived.OwnWalk
import Derived.Laws.RangeAny
/- The walks of the small tests of a rune: is it upper, a letter, small; may it be. -/
namespace Go.Proofs.YtnfhlnkbkfgihaaDoor.Utf
open Go.RowKit
set_option linter.unusedVariables false
set_option maxRecDepth 100000
def upB (r : Int) : Bool := decide (65 ≤ r ∧ r ≤ 90 ∨ 192 ≤ r ∧ r ≤ 222 ∧ r ≠ 215)
def leB (r : Int) : Bool := upB r || decide (97 ≤ r ∧ r ≤ 122 ∨ 223 ≤ r ∧ r ≤ 255 ∧ r ≠ 247)
def smB (r : Int) : Bool := decide (48 ≤ r ∧ r ≤ 57) || (leB r && !upB r)
def riB (r : Int) : Bool := decide (0 ≤ r ∧ r ≤ 1114111 ∧ (r < 55296 ∨ 57343 < r))
theorem ub_yes {r : Int} (h : 65 ≤ r ∧ r ≤ 90 ∨ 192 ≤ r ∧ r ≤ 222 ∧ r ≠ 215) : upB r = true := decide_eq_true h
theorem ub_no {r : Int} (h : ¬ (65 ≤ r ∧ r ≤ 90 ∨ 192 ≤ r ∧ r ≤ 222 ∧ r ≠ 215)) : upB r = false := decide_eq_false h
theorem bool_ret {a b : Bool} (h : b = a) : Ending.returned (.bool a) = .returned (.bool b) := by rw [h]
theorem upper_any (r : Int) (w : World) : Calls Tryd.prog 77 #[.int .i32 r] w fun e w' => e = .returned (.bool (upB r)) ∧ w = w' := by
  rcases (show r < 65 ∨ (65 ≤ r ∧ r ≤ 90) ∨ (65 ≤ r ∧ 90 < r ∧ r < 192) ∨ (65 ≤ r ∧ 90 < r ∧ 192 ≤ r ∧ r ≤ 222 ∧ r = 215) ∨ (65 ≤ r ∧ 90 < r ∧ 192 ≤ r ∧ r ≤ 222 ∧ r ≠ 215) ∨ (65 ≤ r ∧ 90 < r ∧ 192 ≤ r ∧ 222 < r) by omega) with h1 | ⟨h1, h2⟩ | ⟨h1, h2, h3⟩ | ⟨h1, h2, h3, h4, h5⟩ | ⟨h1, h2, h3, h4, h5⟩ | ⟨h1, h2, h3, h4⟩
  case' inr.inr.inr.inl => have h6 := bne_no h5
  case' inr.inr.inr.inr.inl => have h6 := bne_yes h5
  case' inl => have h9 : ¬ (192 : Int) ≤ r := (by omega)
  case' inr.inr.inl => have h9 : ¬ (192 : Int) ≤ r := (by omega)
  all_goals
    have he := Lib.hid (show upB r = _ from (by first | exact ub_yes (by omega) | exact ub_no (by omega)))
    (try clear h5)
    go_enter Tryd.func77, Tryd.ntmps77
    go_wp2
    go_ret
    exact ⟨bool_ret (he.out.trans (by first | rfl | (simp <;> omega))), rfl⟩
theorem rupper_any (r : Int) (w : World) : Calls Tryd.prog 72 #[.int .i32 r] w fun e w' => e = .returned (.bool (upB r)) ∧ w = w' := by
  rcases (show r < 65 ∨ (65 ≤ r ∧ r ≤ 90) ∨ (65 ≤ r ∧ 90 < r ∧ r < 192) ∨ (65 ≤ r ∧ 90 < r ∧ 192 ≤ r ∧ r ≤ 222 ∧ r = 215) ∨ (65 ≤ r ∧ 90 < r ∧ 192 ≤ r ∧ r ≤ 222 ∧ r ≠ 215) ∨ (65 ≤ r ∧ 90 < r ∧ 192 ≤ r ∧ 222 < r) by omega) with h1 | ⟨h1, h2⟩ | ⟨h1, h2, h3⟩ | ⟨h1, h2, h3, h4, h5⟩ | ⟨h1, h2, h3, h4, h5⟩ | ⟨h1, h2, h3, h4⟩
  case' inr.inr.inr.inl => have h6 := bne_no h5
  case' inr.inr.inr.inr.inl => have h6 := bne_yes h5
  case' inl => have h9 : ¬ (192 : Int) ≤ r := (by omega)
  case' inr.inr.inl => have h9 : ¬ (192 : Int) ≤ r := (by omega)
  all_goals
    have he := Lib.hid (show upB r = _ from (by first | exact ub_yes (by omega) | exact ub_no (by omega)))
    (try clear h5)
    go_enter Tryd.func72, Tryd.ntmps72
    go_wp2
    go_ret
    exact ⟨bool_ret (he.out.trans (by first | rfl | (simp <;> omega))), rfl⟩
theorem letter_any (r : Int) (w : World) : Calls Tryd.prog 76 #[.int .i32 r] w fun e w' => e = .returned (.bool (leB r)) ∧ w = w' := by
  have hu := Lib.hid (upper_any r w)
  cases hb : upB r with
  | true =>
    rw [hb] at hu
    have he := Lib.hid (show leB r = true by unfold leB; rw [hb]; rfl)
    go_enter Tryd.func76, Tryd.ntmps76
    go_wp2_with (go_at_call 77; refine (hu.out).mono ?_; rintro e w1 ⟨rfl, rfl⟩)
    go_ret
    exact ⟨bool_ret (he.out.trans (by first | rfl | (simp <;> omega))), rfl⟩
  | false =>
    rw [hb] at hu
    have hl : leB r = decide (97 ≤ r ∧ r ≤ 122 ∨ 223 ≤ r ∧ r ≤ 255 ∧ r ≠ 247) := by unfold leB; rw [hb]; rfl
    rcases (show r < 97 ∨ (97 ≤ r ∧ r ≤ 122) ∨ (97 ≤ r ∧ 122 < r ∧ r < 223) ∨ r = 247 ∨ (97 ≤ r ∧ 122 < r ∧ 223 ≤ r ∧ r ≤ 255 ∧ r ≠ 247) ∨ (97 ≤ r ∧ 122 < r ∧ 223 ≤ r ∧ 255 < r) by omega) with h1 | ⟨h1, h2⟩ | ⟨h1, h2, h3⟩ | h1 | ⟨h1, h2, h3, h4, h5⟩ | ⟨h1, h2, h3, h4⟩
    case' inr.inr.inr.inl =>
      have n8 := (show (r == 247) = true by simp [h1])
      have n9 := bne_no h1
      have n1 : 97 ≤ r := (by omega)
      have n2 : 122 < r := (by omega)
      have n3 : 223 ≤ r := (by omega)
      have n4 : r ≤ 255 := (by omega)
    all_goals (try (have n7 : r ≠ 247 := by omega))
    all_goals (try (have h9 : ¬ (223 : Int) ≤ r := by omega))
    all_goals
      have he := Lib.hid (show leB r = _ from hl.trans (by first | exact decide_eq_true (by omega) | exact decide_eq_false (by omega)))
      (try have n8 := beq_no n7)
      (try have n9 := bne_yes n7)
      clear hl hb
      (try clear h5)
      (try clear n7)
      (try (have n5 := n1; clear h1))
      go_enter Tryd.func76, Tryd.ntmps76
      go_wp2_with (go_at_call 77; refine (hu.out).mono ?_; rintro e w1 ⟨rfl, rfl⟩)
      go_ret
      exact ⟨bool_ret (he.out.trans (by first | rfl | (simp <;> omega))), rfl⟩
theorem rletter_any (r : Int) (w : World) : Calls Tryd.prog 71 #[.int .i32 r] w fun e w' => e = .returned (.bool (leB r)) ∧ w = w' := by
  have hu := Lib.hid (rupper_any r w)
  cases hb : upB r with
  | true =>
    rw [hb] at hu
    have he := Lib.hid (show leB r = true by unfold leB; rw [hb]; rfl)
    go_enter Tryd.func71, Tryd.ntmps71
    go_wp2_with (go_at_call 72; refine (hu.out).mono ?_; rintro e w1 ⟨rfl, rfl⟩)
    go_ret
    exact ⟨bool_ret (he.out.trans (by first | rfl | (simp <;> omega))), rfl⟩
  | false =>
    rw [hb] at hu
    have hl : leB r = decide (97 ≤ r ∧ r ≤ 122 ∨ 223 ≤ r ∧ r ≤ 255 ∧ r ≠ 247) := by unfold leB; rw [hb]; rfl
    rcases (show r < 97 ∨ (97 ≤ r ∧ r ≤ 122) ∨ (97 ≤ r ∧ 122 < r ∧ r < 223) ∨ r = 247 ∨ (97 ≤ r ∧ 122 < r ∧ 223 ≤ r ∧ r ≤ 255 ∧ r ≠ 247) ∨ (97 ≤ r ∧ 122 < r ∧ 223 ≤ r ∧ 255 < r) by omega) with h1 | ⟨h1, h2⟩ | ⟨h1, h2, h3⟩ | h1 | ⟨h1, h2, h3, h4, h5⟩ | ⟨h1, h2, h3, h4⟩
    case' inr.inr.inr.inl =>
      have n8 := (show (r == 247) = true by simp [h1])
      have n9 := bne_no h1
      have n1 : 97 ≤ r := (by omega)
      have n2 : 122 < r := (by omega)
      have n3 : 223 ≤ r := (by omega)
      have n4 : r ≤ 255 := (by omega)
    all_goals (try (have n7 : r ≠ 247 := by omega))
    all_goals (try (have h9 : ¬ (223 : Int) ≤ r := by omega))
    all_goals
      have he := Lib.hid (show leB r = _ from hl.trans (by first | exact decide_eq_true (by omega) | exact decide_eq_false (by omega)))
      (try have n8 := beq_no n7)
      (try have n9 := bne_yes n7)
      clear hl hb
      (try clear h5)
      (try clear n7)
      (try (have n5 := n1; clear h1))
      go_enter Tryd.func71, Tryd.ntmps71
      go_wp2_with (go_at_call 72; refine (hu.out).mono ?_; rintro e w1 ⟨rfl, rfl⟩)
      go_ret
      exact ⟨bool_ret (he.out.trans (by first | rfl | (simp <;> omega))), rfl⟩
theorem small_any (r : Int) (w : World) : Calls Tryd.prog 68 #[.int .i32 r] w fun e w' => e = .returned (.bool (smB r)) ∧ w = w' := by
  have hl := Lib.hid (letter_any r w)
  have hu := Lib.hid (upper_any r w)
  rcases (show r < 48 ∨ (48 ≤ r ∧ r ≤ 57) ∨ (48 ≤ r ∧ 57 < r) by omega) with h1 | ⟨h1, h2⟩ | ⟨h1, h2⟩
  case' inl => have hs : smB r = (leB r && !upB r) := (by unfold smB; rw [decide_eq_false (by omega)]; rfl)
  case' inr.inl =>
    have he := Lib.hid (show smB r = true by unfold smB; rw [decide_eq_true (by omega)]; rfl)
    go_enter Tryd.func68, Tryd.ntmps68
    go_wp2
    go_ret
    exact ⟨bool_ret (he.out.trans (by first | rfl | (simp <;> omega))), rfl⟩
  case' inr.inr => have hs : smB r = (leB r && !upB r) := (by unfold smB; rw [decide_eq_false (by omega)]; rfl)
  all_goals
    cases hb : leB r with
    | false =>
      rw [hb] at hl hs
      have he := Lib.hid (show smB r = false by rw [hs]; rfl)
      clear hs
      go_enter Tryd.func68, Tryd.ntmps68
      go_wp2_with (first | (go_at_call 76; refine (hl.out).mono ?_; rintro e w1 ⟨rfl, rfl⟩) | (go_at_call 77; refine (hu.out).mono ?_; rintro e w1 ⟨rfl, rfl⟩))
      go_ret
      exact ⟨bool_ret (he.out.trans (by first | rfl | (simp <;> omega))), rfl⟩
    | true =>
      rw [hb] at hl hs
      have he := Lib.hid (show smB r = !upB r by rw [hs]; rfl)
      clear hs
      go_enter Tryd.func68, Tryd.ntmps68
      go_wp2_with (first | (go_at_call 76; refine (hl.out).mono ?_; rintro e w1 ⟨rfl, rfl⟩) | (go_at_call 77; refine (hu.out).mono ?_; rintro e w1 ⟨rfl, rfl⟩))
      go_ret
      exact ⟨bool_ret (he.out.trans (by first | rfl | (simp <;> omega))), rfl⟩
theorem rsmall_any (r : Int) (w : World) : Calls Tryd.prog 64 #[.int .i32 r] w fun e w' => e = .returned (.bool (smB r)) ∧ w = w' := by
  have hl := Lib.hid (rletter_any r w)
  have hu := Lib.hid (rupper_any r w)
  rcases (show r < 48 ∨ (48 ≤ r ∧ r ≤ 57) ∨ (48 ≤ r ∧ 57 < r) by omega) with h1 | ⟨h1, h2⟩ | ⟨h1, h2⟩
  case' inl => have hs : smB r = (leB r && !upB r) := (by unfold smB; rw [decide_eq_false (by omega)]; rfl)
  case' inr.inl =>
    have he := Lib.hid (show smB r = true by unfold smB; rw [decide_eq_true (by omega)]; rfl)
    go_enter Tryd.func64, Tryd.ntmps64
    go_wp2
    go_ret
    exact ⟨bool_ret (he.out.trans (by first | rfl | (simp <;> omega))), rfl⟩
  case' inr.inr => have hs : smB r = (leB r && !upB r) := (by unfold smB; rw [decide_eq_false (by omega)]; rfl)
  all_goals
    cases hb : leB r with
    | false =>
      rw [hb] at hl hs
      have he := Lib.hid (show smB r = false by rw [hs]; rfl)
      clear hs
      go_enter Tryd.func64, Tryd.ntmps64
      go_wp2_with (first | (go_at_call 71; refine (hl.out).mono ?_; rintro e w1 ⟨rfl, rfl⟩) | (go_at_call 72; refine (hu.out).mono ?_; rintro e w1 ⟨rfl, rfl⟩))
      go_ret
      exact ⟨bool_ret (he.out.trans (by first | rfl | (simp <;> omega))), rfl⟩
    | true =>
      rw [hb] at hl hs
      have he := Lib.hid (show smB r = !upB r by rw [hs]; rfl)
      clear hs
      go_enter Tryd.func64, Tryd.ntmps64
      go_wp2_with (first | (go_at_call 71; refine (hl.out).mono ?_; rintro e w1 ⟨rfl, rfl⟩) | (go_at_call 72; refine (hu.out).mono ?_; rintro e w1 ⟨rfl, rfl⟩))
      go_ret
      exact ⟨bool_ret (he.out.trans (by first | rfl | (simp <;> omega))), rfl⟩
theorem rright_any (r : Int) (w : World) : Calls Tryd.prog 79 #[.int .i32 r] w fun e w' => e = .returned (.bool (riB r)) ∧ w = w' := by
  rcases (show r < 0 ∨ (0 ≤ r ∧ 1114111 < r) ∨ (0 ≤ r ∧ r ≤ 1114111 ∧ r < 55296) ∨ (0 ≤ r ∧ r ≤ 1114111 ∧ 55296 ≤ r ∧ r ≤ 57343) ∨ (0 ≤ r ∧ r ≤ 1114111 ∧ 55296 ≤ r ∧ 57343 < r) by omega) with h1 | ⟨h1, h2⟩ | ⟨h1, h2, h3⟩ | ⟨h1, h2, h3, h4⟩ | ⟨h1, h2, h3, h4⟩
  all_goals
    have he := Lib.hid (show riB r = _ from (by first | exact decide_eq_true (by omega) | exact decide_eq_false (by omega)))
    go_enter Tryd.func79, Tryd.ntmps79
    go_wp2
    go_ret
    exact ⟨bool_ret (he.out.trans (by first | rfl | (simp <;> omega))), rfl⟩
theorem ri_right (r : Nat) : riB (r : Int) = right r := by
  unfold riB right
  rw [Bool.eq_iff_iff]
  simp only [decide_eq_true_eq]
  omega
end Go.Proofs.YtnfhlnkbkfgihaaDoor.Utf

/- The walks of the reference's Bytes and First. -/
namespace Go.Proofs.YtnfhlnkbkfgihaaDoor.Utf
open Go.RowKit
set_option linter.unusedVariables false
set_option maxRecDepth 100000
theorem retB_lit0 {E : TypeId} {w : World} {cs : Array Value} {l : List UInt8} {v : Value} (h : cs.toList = l.map e8) (hm : l.length ≤ 1000000) (hv : v = .slice (some ⟨w.heap.size, 0, none⟩) l.length l.length) :
    RetB E w l (.returned v) (w.alloc (.cells cs E)) := by
  subst hv
  have hs : cs.size = l.length := by have := congrArg List.length h; simpa using this
  have := own_lit w E cs w.heap.size l.length (Nat.le_refl _) hs (by unfold maxLen; omega)
  rw [h] at this
  exact ⟨_, _, rfl, this, b1alloc _ _⟩
theorem e8_of {a : Nat} (h : a < 256) {x : Int} (hx : x = (a : Int)) : Value.int .u8 x = e8 (UInt8.ofNat a) := by
  unfold e8
  rw [UInt8.toNat_ofNat', Nat.mod_eq_of_lt (by omega), hx]
theorem cons_eq {α : Type} {a b : α} {l m : List α} (h : a = b) (k : l = m) : a :: l = b :: m := by rw [h, k]
theorem rbytes_any (r : Nat) (m : Int) (hm : m = (r : Int)) (hr : r ≤ 1114111) (w : World) : Calls Tryd.prog 80 #[.int .i32 m] w (RetB 5 w (enc r)) := by
  subst hm
  obtain ⟨L, hL⟩ : ∃ L, L = enc r := ⟨_, rfl⟩
  rw [← hL]
  rcases (show r < 128 ∨ (128 ≤ r ∧ r < 2048) ∨ (2048 ≤ r ∧ r < 65536) ∨ 65536 ≤ r by omega) with h | ⟨h0, h⟩ | ⟨h0, h⟩ | h0
  · have hI : (r : Int) < 128 := by omega
    have he := Lib.hid (show L = [UInt8.ofNat r] by rw [hL]; unfold enc; rw [if_pos h])
    clear hL
    go_enter Tryd.func80, Tryd.ntmps80
    go_wp2
    go_ret
    exact retB_lit0 (by rw [he.out]; exact cons_eq (e8_of (by omega) (by omega)) rfl) (by rw [he.out]; simp) (by rw [he.out]; rfl)
  · have hI : ¬ (r : Int) < 128 := by omega
    have hI2 : (r : Int) < 2048 := by omega
    have he := Lib.hid (show L = [UInt8.ofNat (192 + r / 64), UInt8.ofNat (128 + r % 64)] by rw [hL]; unfold enc; rw [if_neg (by omega), if_pos h])
    clear hL
    go_enter Tryd.func80, Tryd.ntmps80
    go_wp2
    go_ret
    exact retB_lit0 (by rw [he.out]; exact cons_eq (e8_of (by omega) (by omega)) (cons_eq (e8_of (by omega) (by omega)) rfl)) (by rw [he.out]; simp) (by rw [he.out]; rfl)
  · have hI : ¬ (r : Int) < 128 := by omega
    have hI2 : ¬ (r : Int) < 2048 := by omega
    have hI3 : (r : Int) < 65536 := by omega
    have he := Lib.hid (show L = [UInt8.ofNat (224 + r / 4096), UInt8.ofNat (128 + r / 64 % 64), UInt8.ofNat (128 + r % 64)] by rw [hL]; unfold enc; rw [if_neg (by omega), if_neg (by omega), if_pos h])
    clear hL
    go_enter Tryd.func80, Tryd.ntmps80
    go_wp2
    go_ret
    exact retB_lit0 (by rw [he.out]; exact cons_eq (e8_of (by omega) (by omega)) (cons_eq (e8_of (by omega) (by omega)) (cons_eq (e8_of (by omega) (by omega)) rfl))) (by rw [he.out]; simp) (by rw [he.out]; rfl)
  · have hI : ¬ (r : Int) < 128 := by omega
    have hI2 : ¬ (r : Int) < 2048 := by omega
    have hI3 : ¬ (r : Int) < 65536 := by omega
    have he := Lib.hid (show L = [UInt8.ofNat (240 + r / 262144), UInt8.ofNat (128 + r / 4096 % 64), UInt8.ofNat (128 + r / 64 % 64), UInt8.ofNat (128 + r % 64)] by rw [hL]; unfold enc; rw [if_neg (by omega), if_neg (by omega), if_neg (by omega)])
    clear hL
    go_enter Tryd.func80, Tryd.ntmps80
    go_wp2
    go_ret
    exact retB_lit0 (by rw [he.out]; exact cons_eq (e8_of (by omega) (by omega)) (cons_eq (e8_of (by omega) (by omega)) (cons_eq (e8_of (by omega) (by omega)) (cons_eq (e8_of (by omega) (by omega)) rfl)))) (by rw [he.out]; simp) (by rw [he.out]; rfl)
end Go.Proofs.YtnfhlnkbkfgihaaDoor.Utf

/- The walk of the reference's First. -/
namespace Go.Proofs.YtnfhlnkbkfgihaaDoor.Utf
open Go.RowKit
set_option linter.unusedVariables false
set_option maxRecDepth 100000
theorem ba_size (l : List UInt8) : (⟨l.toArray⟩ : ByteArray).size = l.length := by simp [ByteArray.size]
theorem run_ix {P : Program} (t : TypeId) (l : List UInt8) (k : Nat) (h : k < l.length) (hu : P.underlying t = some .string) (w : World) : (Instr.index t (.string ⟨l.toArray⟩) (.int .i64 (k : Int))).run P w = .ok (.int .u8 (g l k : Int)) w := by
  have h1 : (Instr.index t (.string ⟨l.toArray⟩) (.int .i64 (k : Int))).run P w = .ok (e8 l[k]) w := by
    rw [run_index_string (P := P) w t ⟨l.toArray⟩ .i64 (k : Int) hu, dif_pos ⟨by omega, by rw [ba_size]; omega⟩]
    rfl
  rw [h1]
  unfold g
  rw [List.getD_eq_getElem?_getD, List.getElem?_eq_getElem h]
  rfl
theorem va_succ (l : List UInt8) (r0 k : Nat) : va l r0 (k + 1) = va l r0 k * 64 + (g l (k + 1) - 128) := rfl
theorem va_le (l : List UInt8) (r0 : Nat) : ∀ (k : Nat), conts l (k + 1) → va l r0 k + 1 ≤ (r0 + 1) * 64 ^ k
  | 0, _ => by show r0 + 1 ≤ _; omega
  | k + 1, h => by
    have h1 := va_le l r0 k (fun j h1 h2 => h j h1 (by omega))
    have h2 := h (k + 1) (by omega) (by omega)
    unfold cont at h2
    rw [va_succ, Nat.pow_succ, ← Nat.mul_assoc]
    omega
theorem conts_succ {l : List UInt8} {k : Nat} (h : conts l k) (h2 : cont l k) : conts l (k + 1) := fun j h1 h3 => by
  rcases Nat.lt_or_ge j k with h4 | h4
  · exact h j h1 h4
  · obtain rfl : j = k := (by omega)
    exact h2
theorem ex_take (l : List UInt8) (n : Nat) : (⟨l.toArray⟩ : ByteArray).extract 0 n = ⟨(l.take n).toArray⟩ := by
  apply ByteArray.ext
  simp
theorem ba_list (l : List UInt8) : (⟨l.toArray⟩ : ByteArray).toList = l := by rw [ByteArray.toList_eq]
theorem undrewB {B : Nat} {w w' : World} (h : Below B w.drew w') : Below B w w' := ⟨h.os, h.tape, h.output, h.size, h.block⟩
theorem w32 {x : Int} (h0 : 0 ≤ x) (h1 : x ≤ 2000000000) : wrap32 x = x := by unfold wrap32; omega
set_option maxHeartbeats 1000000 in
theorem rfirst_1 (l : List UInt8) (w : World) (hl : l.length ≤ 1000000) (h0 : 0 < l.length) (h1 : ¬ 240 ≤ g l 0) (h2 : ¬ 224 ≤ g l 0) (h3 : ¬ 192 ≤ g l 0) :
    Calls Tryd.prog 70 #[.string ⟨l.toArray⟩] w fun e w' => e = .returned (.tuple #[.int .i32 ((first l).1 : Int), .int .i64 ((first l).2 : Int)]) ∧ Below w.heap.size w w' := by
  have hc := g_lt l 0
  have hz : sizeOf1 (g l 0) = 1 := by unfold sizeOf1; rw [if_neg (by omega), if_neg (by omega), if_neg (by omega)]
  have hh : headOf (g l 0) = g l 0 := by unfold headOf; rw [if_neg (by omega), if_neg (by omega), if_neg (by omega)]
  have hf : first l = if l.length < 1 then (0, 0) else if ¬ conts l 1 then (0, 0) else if right (va l (g l 0) (1 - 1)) = true ∧ enc (va l (g l 0) (1 - 1)) = l.take 1 then (va l (g l 0) (1 - 1), 1) else (0, 0) := by
    unfold first
    rw [if_neg (show ¬ l.length = 0 by omega), hz, hh]
  obtain ⟨F, hF⟩ : ∃ F, F = first l := ⟨_, rfl⟩
  rw [← hF] at hf ⊢
  clear hF
  have hsz : (⟨l.toArray⟩ : ByteArray).size = l.length := ba_size l
  have hx : ∀ k, k < l.length → ∀ w, (Instr.index 9 (.string ⟨l.toArray⟩) (.int .i64 (k : Int))).run Tryd.prog w = .ok (.int .u8 (g l k : Int)) w := fun k hk w => run_ix 9 l k hk Tryd.underlying9 w
  obtain ⟨S, hS⟩ : ∃ S : ByteArray, S = ⟨l.toArray⟩ := ⟨_, rfl⟩
  rw [← hS] at hsz hx ⊢
  have hI : ¬ ((l.length : Int) = 0) := by omega
  have hI2 := beq_no hI
  have HS := Lib.hid hS
  have Hx := Lib.hid hx
  have hx0 := fun w => (hx 0 h0 w)
  simp only [Int.cast_ofNat_Int] at hx0
  have hw0 : wrap32 (g l 0 : Int) = (g l 0 : Int) := w32 (by omega) (by omega)
  have hg0 : (g l 0 : Int) ≤ 255 := by omega
  have hn1 : ¬ 240 ≤ (g l 0 : Int) := by omega
  have hn2 : ¬ 224 ≤ (g l 0 : Int) := by omega
  have hn3 : ¬ 192 ≤ (g l 0 : Int) := by omega
  have hgc := g_lt l
  have hs0 : ((g l 0 : Nat) : Int) = (g l 0 : Int) := by omega
  have Hs0 := Lib.hid hs0
  have hwm : ∀ (V k : Nat), V ≤ 100000 → cont l k → wrap32 (V * 64 : Int) = (V * 64 : Int) := fun V k h1 h2 => w32 (by omega) (by omega)
  clear hS hx hz hh hI hs0
  rw [if_neg (show ¬ l.length < 1 by omega)] at hf
  have hlI : ¬ (l.length : Int) < 1 := by omega
  have Hf := Lib.hid hf
  clear hf
  go_enter Tryd.func70, Tryd.ntmps70
  go_wp2_with fail
  go_loopw [6, 7] (fun v i wr => ∃ k : Nat, k + 1 ≤ 1 ∧ i = .int .i64 ((k + 1 : Nat) : Int) ∧ v = .int .i32 ((va l (g l 0) k : Nat) : Int) ∧ Hid (conts l (k + 1)) ∧ wr = w) (fun _ i _ => 1 - (intOf i).toNat)
  case atStart => exact ⟨0, by omega, rfl, by show Value.int .i32 _ = .int .i32 ((g l 0 : Nat) : Int); first | rw [Hs0.out] | rfl, Lib.hid (fun j h1 h2 => by omega), rfl⟩
  case round =>
    obtain ⟨k, hk, rfl, rfl, hcs, rfl⟩ := hrel
    have hvl := va_le l (g l 0) k hcs.out
    obtain ⟨V, hV⟩ : ∃ V, V = va l (g l 0) k := ⟨_, rfl⟩
    rw [← hV] at hvl ⊢
    have HV := Lib.hid hV
    clear hV
    by_cases hlt : k + 1 < 1
    · have hkI : ((k : Int) + 1) < 1 := by omega
      have hkl : k + 1 < l.length := by omega
      have hV1 : (V : Int) ≤ 100000 := by
        have : 64 ^ k ≤ 64 ^ 2 := Nat.pow_le_pow_right (by omega) (by omega)
        have h64 : (g l 0 + 1) * 64 ^ k ≤ 16 * 64 ^ 2 := by have hk0 : k = 0 := (by omega); subst hk0; omega
        omega
      have hxk := Hx.out (k + 1) hkl
      obtain ⟨G, hG⟩ : ∃ G, G = g l (k + 1) := ⟨_, rfl⟩
      have hGc := hgc (k + 1)
      rw [← hG] at hxk hGc
      have HG := Lib.hid hG
      have hGI : (G : Int) ≤ 255 := by omega
      simp only [Int.natCast_add, Int.cast_ofNat_Int] at hxk
      have hwG : wrap32 (G : Int) = (G : Int) := w32 (by omega) (by omega)
      have hwV : wrap32 ((V : Int) * 64) = (V : Int) * 64 := w32 (by omega) (by omega)
      have hwS : wrap32 ((V : Int) * 64 + (G : Int)) = (V : Int) * 64 + (G : Int) := w32 (by omega) (by omega)
      clear hG hvl
      rcases (show G < 128 ∨ (128 ≤ G ∧ 191 < G) ∨ (128 ≤ G ∧ G ≤ 191) by omega) with c1 | ⟨c1, c2⟩ | ⟨c1, c2⟩
      case' inl => have c1I : (G : Int) < 128 := (by omega)
      case' inr.inl =>
        have c1I : ¬ (G : Int) < 128 := (by omega)
        have c2I : (191 : Int) < (G : Int) := (by omega)
      case' inr.inr =>
        have c1I : ¬ (G : Int) < 128 := (by omega)
        have c2I : ¬ (191 : Int) < (G : Int) := (by omega)
      case inr.inr =>
        have hwD : wrap32 ((V : Int) * 64 + (G : Int) - 128) = (V : Int) * 64 + (G : Int) - 128 := w32 (by omega) (by omega)
        have hcn : cont l (k + 1) := by unfold cont; rw [← HG.out]; omega
        have Hcn := Lib.hid (conts_succ hcs.out hcn)
        clear hcn
        go_wp2_with fail
        go_roundw
        case rel => exact ⟨k + 1, by omega, by go_num, by rw [va_succ, ← HV.out, ← HG.out]; exact congrArg _ (by omega), Hcn, (by first | rfl | trivial)⟩
        case measure => simp [intOf]; omega
      all_goals
        have hno : ¬ conts l 1 := fun h => by
          have := h (k + 1) (by omega) (by omega)
          unfold cont at this
          rw [← HG.out] at this
          omega
        have hF0 : F = (0, 0) := by rw [Hf.out, if_pos hno]
        subst hF0
        go_wp2_with fail
        go_ret2
        exact ⟨rfl, Below.refl _ _⟩
    · obtain rfl : k = 0 := by omega
      simp only [show (((0 + 1 : Nat)) : Int) = 1 from rfl]
      have hcI : conts l 1 := hcs.out
      have hf2 := Hf.out
      rw [if_neg (fun h => h hcI)] at hf2
      rw [show (1 : Nat) - 1 = 0 from rfl, ← HV.out] at hf2
      have hri := Lib.hid (show ∀ w, Calls Tryd.prog 79 #[.int .i32 (V : Int)] w fun e w' => e = .returned (.bool (right V)) ∧ w = w' from fun w => by
        have := rright_any (V : Int) w
        rw [ri_right] at this
        exact this)
      by_cases hR : right V = true
      · have hV2 : V ≤ 1114111 := by
          have h := hR
          unfold right at h
          exact (of_decide_eq_true h).1
        have hby := Lib.hid (fun w => rbytes_any V (V : Int) rfl hV2 w)
        rw [hR] at hri
        obtain ⟨X, hX⟩ : ∃ X, X = enc V := ⟨_, rfl⟩
        rw [← hX] at hby hf2
        clear hX
        by_cases hE : X = l.take 1
        · rw [if_pos ⟨hR, hE⟩] at hf2
          subst hf2
          have hex : S.extract 0 1 = ⟨X.toArray⟩ := by rw [hE, HS.out]; exact ex_take l 1
          have hbq : (X == (S.extract 0 1).toList) = true := by rw [hex, ba_list]; simp
          have HR := Lib.hid hR
          clear Hf hE hex hR
          go_wp2_with fail
          refine wp_region_held_drew (S := (fun _ => True)) (by kernel_rfl) (by trivial) (fun hHeld => ?_)
          refine wpAnyH_take (i := 0) (oi := { dst := some 54, op := Op.move (Operand.tmp 6), type := 21, pos := "ref.go:50", after := #[], guard := none }) (v := ?_) rfl (by kernel_rfl) (by kernel_rfl) (by kernel_rfl) (fun _ _ _ h => h) (Or.inl ⟨by rfl, ?_⟩) (by assumption) ?_; rotate_left; · ((intro w hSw; (try dsimp only at hSw); go_simp) <;> with_reducible rfl)
          try simp only [Act.put, List.setIfInBounds_toArray, List.set_cons_zero, List.set_cons_succ]
          refine wpAnyH_ready (rs := [1]) (by kernel_rfl) (by simp) ?_
          refine AllReadyH.cons (o := { dst := some 55, op := Op.call { callee := Callee.value (Operand.func 79), args := #[Operand.tmp 54], argTypes := #[21] }, type := 4, pos := "ref.go:50", after := #[{ on := 0, ground := Ground.data }], guard := none }) rfl (fun K hK => ?_) AllReadyH.nil
          go_simp; (first | (go_at_call 79; refine (hri.out _).mono ?_; rintro e w7 ⟨rfl, rfl⟩) | (go_at_call 80; refine (hby.out _).mono ?_; rintro e w8 ⟨A8, c8, rfl, own8, b8⟩; have hcv := run_conv_rd (P := Tryd.prog) (w := w8) 25 9 5 X.length c8 rfl Tryd.underlying25 Tryd.underlying5 Tryd.underlying9 (Rd.own own8)) | skip); (try (go_wp2_with fail)); refine hK.out _ _ (by first | trivial | ((try dsimp only); trivial)) (fun hHeld => ?_)
          clear hK K
          try simp only [Act.put, List.setIfInBounds_toArray, List.set_cons_zero, List.set_cons_succ]
          refine wpAnyH_take (i := 2) (oi := { dst := some 56, op := Op.unOp UnOp.not 4 (Operand.tmp 55), type := 4, pos := "ref.go:50", after := #[{ on := 1, ground := Ground.data }], guard := none }) (v := ?_) rfl (by kernel_rfl) (by kernel_rfl) (by kernel_rfl) (fun _ _ _ h => h) (Or.inl ⟨by rfl, ?_⟩) (by assumption) ?_; rotate_left; · ((intro w hSw; (try dsimp only at hSw); go_simp) <;> with_reducible rfl)
          try simp only [Act.put, List.setIfInBounds_toArray, List.set_cons_zero, List.set_cons_succ]
          refine wpAnyH_take (i := 3) (oi := { dst := some 57, op := Op.move (Operand.tmp 56), type := 4, pos := "ref.go:50", after := #[{ on := 2, ground := Ground.data }, { on := 1, ground := Ground.chain }], guard := none }) (v := ?_) rfl (by kernel_rfl) (by kernel_rfl) (by kernel_rfl) (fun _ _ _ h => h) (Or.inl ⟨by rfl, ?_⟩) (by assumption) ?_; rotate_left; · ((intro w hSw; (try dsimp only at hSw); go_simp) <;> with_reducible rfl)
          try simp only [Act.put, List.setIfInBounds_toArray, List.set_cons_zero, List.set_cons_succ]
          refine wpAnyH_take (i := 4) (oi := { dst := some 58, op := Op.move (Operand.tmp 6), type := 21, pos := "ref.go:50", after := #[{ on := 3, ground := Ground.guard }], guard := some (3, false) }) (v := ?_) rfl (by kernel_rfl) (by kernel_rfl) (by kernel_rfl) (fun _ _ _ h => h) (Or.inl ⟨by rfl, ?_⟩) (by assumption) ?_; rotate_left; · ((intro w hSw; (try dsimp only at hSw); go_simp) <;> with_reducible rfl)
          try simp only [Act.put, List.setIfInBounds_toArray, List.set_cons_zero, List.set_cons_succ]
          refine wpAnyH_take (i := 7) (oi := { dst := some 61, op := Op.move (Operand.tmp 0), type := 9, pos := "ref.go:50", after := #[{ on := 3, ground := Ground.guard }], guard := some (3, false) }) (v := ?_) rfl (by kernel_rfl) (by kernel_rfl) (by kernel_rfl) (fun _ _ _ h => h) (Or.inl ⟨by rfl, ?_⟩) (by assumption) ?_; rotate_left; · ((intro w hSw; (try dsimp only at hSw); go_simp) <;> with_reducible rfl)
          try simp only [Act.put, List.setIfInBounds_toArray, List.set_cons_zero, List.set_cons_succ]
          refine wpAnyH_take (i := 8) (oi := { dst := some 62, op := Op.move (Operand.tmp 5), type := 3, pos := "ref.go:50", after := #[{ on := 3, ground := Ground.guard }], guard := some (3, false) }) (v := ?_) rfl (by kernel_rfl) (by kernel_rfl) (by kernel_rfl) (fun _ _ _ h => h) (Or.inl ⟨by rfl, ?_⟩) (by assumption) ?_; rotate_left; · ((intro w hSw; (try dsimp only at hSw); go_simp) <;> with_reducible rfl)
          try simp only [Act.put, List.setIfInBounds_toArray, List.set_cons_zero, List.set_cons_succ]
          refine wpAnyH_take (i := 9) (oi := { dst := some 63, op := Op.slice 9 (Operand.tmp 61) none (some (Operand.tmp 62)) none, type := 9, pos := "ref.go:50", after := #[{ on := 7, ground := Ground.data }, { on := 8, ground := Ground.data }, { on := 3, ground := Ground.guard }], guard := some (3, false) }) (v := ?_) rfl (by kernel_rfl) (by kernel_rfl) (by kernel_rfl) (fun _ _ _ h => h) (Or.inl ⟨by rfl, ?_⟩) (by assumption) ?_; rotate_left; · ((intro w hSw; (try dsimp only at hSw); go_simp) <;> with_reducible rfl)
          try simp only [Act.put, List.setIfInBounds_toArray, List.set_cons_zero, List.set_cons_succ]
          refine wpAnyH_ready (rs := [5]) (by kernel_rfl) (by simp) ?_
          refine AllReadyH.cons (o := { dst := some 59, op := Op.call { callee := Callee.value (Operand.func 80), args := #[Operand.tmp 58], argTypes := #[21] }, type := 25, pos := "ref.go:50", after := #[{ on := 4, ground := Ground.data }, { on := 3, ground := Ground.chain }, { on := 3, ground := Ground.guard }], guard := some (3, false) }) rfl (fun K hK => ?_) AllReadyH.nil
          go_simp; (first | (go_at_call 79; refine (hri.out _).mono ?_; rintro e w7 ⟨rfl, rfl⟩) | (go_at_call 80; refine (hby.out _).mono ?_; rintro e w8 ⟨A8, c8, rfl, own8, b8⟩; have hcv := run_conv_rd (P := Tryd.prog) (w := w8) 25 9 5 X.length c8 rfl Tryd.underlying25 Tryd.underlying5 Tryd.underlying9 (Rd.own own8)) | skip); (try (go_wp2_with fail)); refine hK.out _ _ (by first | trivial | ((try dsimp only); trivial)) (fun hHeld => ?_)
          clear hK K
          try simp only [Act.put, List.setIfInBounds_toArray, List.set_cons_zero, List.set_cons_succ]
          refine wpAnyH_ready (rs := [6]) (by kernel_rfl) (by simp) ?_
          refine AllReadyH.cons (o := { dst := some 60, op := Op.convert 25 9 (Operand.tmp 59), type := 9, pos := "ref.go:50", after := #[{ on := 5, ground := Ground.data }, { on := 3, ground := Ground.guard }], guard := some (3, false) }) rfl (fun K hK => ?_) AllReadyH.nil
          go_simp; (first | (go_at_call 79; refine (hri.out _).mono ?_; rintro e w7 ⟨rfl, rfl⟩) | (go_at_call 80; refine (hby.out _).mono ?_; rintro e w8 ⟨A8, c8, rfl, own8, b8⟩; have hcv := run_conv_rd (P := Tryd.prog) (w := w8) 25 9 5 X.length c8 rfl Tryd.underlying25 Tryd.underlying5 Tryd.underlying9 (Rd.own own8)) | skip); (try (go_wp2_with fail)); refine hK.out _ _ (by first | trivial | ((try dsimp only); trivial)) (fun hHeld => ?_)
          clear hK K
          try simp only [Act.put, List.setIfInBounds_toArray, List.set_cons_zero, List.set_cons_succ]
          refine wpAnyH_take (i := 10) (oi := { dst := some 64, op := Op.binOp BinOp.neq 9 (Operand.tmp 60) (Operand.tmp 63) 9, type := 4, pos := "ref.go:50", after := #[{ on := 6, ground := Ground.data }, { on := 9, ground := Ground.data }, { on := 3, ground := Ground.guard }], guard := some (3, false) }) (v := ?_) rfl (by kernel_rfl) (by kernel_rfl) (by kernel_rfl) (fun _ _ _ h => h) (Or.inl ⟨by rfl, ?_⟩) (by assumption) ?_; rotate_left; · ((intro w hSw; (try dsimp only at hSw); go_simp) <;> with_reducible rfl)
          try simp only [Act.put, List.setIfInBounds_toArray, List.set_cons_zero, List.set_cons_succ]
          refine wpAnyH_take (i := 11) (oi := { dst := some 65, op := Op.pick (Operand.tmp 57) (Operand.const (Value.bool true)) (Operand.tmp 64), type := 4, pos := "ref.go:50", after := #[{ on := 3, ground := Ground.data }, { on := 10, ground := Ground.data }], guard := none }) (v := ?_) rfl (by kernel_rfl) (by kernel_rfl) (by kernel_rfl) (fun _ _ _ h => h) (Or.inl ⟨by rfl, ?_⟩) (by assumption) ?_; rotate_left; · ((intro w hSw; (try dsimp only at hSw); go_simp) <;> with_reducible rfl)
          try simp only [Act.put, List.setIfInBounds_toArray, List.set_cons_zero, List.set_cons_succ]
          refine wpAnyH_done (by kernel_rfl) ?_ _
          go_wp2_with fail
          go_ret2
          exact ⟨rfl, undrewB b8⟩
        · rw [if_neg (fun h => hE h.2)] at hf2
          subst hf2
          have hex : S.extract 0 1 = ⟨(l.take 1).toArray⟩ := by rw [HS.out]; exact ex_take l 1
          have hbq : (X == (S.extract 0 1).toList) = false := by
            rw [hex, ba_list, beq_eq_false_iff_ne]
            exact hE
          clear Hf hex hE hR
          go_wp2_with fail
          refine wp_region_held_drew (S := (fun _ => True)) (by kernel_rfl) (by trivial) (fun hHeld => ?_)
          refine wpAnyH_take (i := 0) (oi := { dst := some 54, op := Op.move (Operand.tmp 6), type := 21, pos := "ref.go:50", after := #[], guard := none }) (v := ?_) rfl (by kernel_rfl) (by kernel_rfl) (by kernel_rfl) (fun _ _ _ h => h) (Or.inl ⟨by rfl, ?_⟩) (by assumption) ?_; rotate_left; · ((intro w hSw; (try dsimp only at hSw); go_simp) <;> with_reducible rfl)
          try simp only [Act.put, List.setIfInBounds_toArray, List.set_cons_zero, List.set_cons_succ]
          refine wpAnyH_ready (rs := [1]) (by kernel_rfl) (by simp) ?_
          refine AllReadyH.cons (o := { dst := some 55, op := Op.call { callee := Callee.value (Operand.func 79), args := #[Operand.tmp 54], argTypes := #[21] }, type := 4, pos := "ref.go:50", after := #[{ on := 0, ground := Ground.data }], guard := none }) rfl (fun K hK => ?_) AllReadyH.nil
          go_simp; (first | (go_at_call 79; refine (hri.out _).mono ?_; rintro e w7 ⟨rfl, rfl⟩) | (go_at_call 80; refine (hby.out _).mono ?_; rintro e w8 ⟨A8, c8, rfl, own8, b8⟩; have hcv := run_conv_rd (P := Tryd.prog) (w := w8) 25 9 5 X.length c8 rfl Tryd.underlying25 Tryd.underlying5 Tryd.underlying9 (Rd.own own8)) | skip); (try (go_wp2_with fail)); refine hK.out _ _ (by first | trivial | ((try dsimp only); trivial)) (fun hHeld => ?_)
          clear hK K
          try simp only [Act.put, List.setIfInBounds_toArray, List.set_cons_zero, List.set_cons_succ]
          refine wpAnyH_take (i := 2) (oi := { dst := some 56, op := Op.unOp UnOp.not 4 (Operand.tmp 55), type := 4, pos := "ref.go:50", after := #[{ on := 1, ground := Ground.data }], guard := none }) (v := ?_) rfl (by kernel_rfl) (by kernel_rfl) (by kernel_rfl) (fun _ _ _ h => h) (Or.inl ⟨by rfl, ?_⟩) (by assumption) ?_; rotate_left; · ((intro w hSw; (try dsimp only at hSw); go_simp) <;> with_reducible rfl)
          try simp only [Act.put, List.setIfInBounds_toArray, List.set_cons_zero, List.set_cons_succ]
          refine wpAnyH_take (i := 3) (oi := { dst := some 57, op := Op.move (Operand.tmp 56), type := 4, pos := "ref.go:50", after := #[{ on := 2, ground := Ground.data }, { on := 1, ground := Ground.chain }], guard := none }) (v := ?_) rfl (by kernel_rfl) (by kernel_rfl) (by kernel_rfl) (fun _ _ _ h => h) (Or.inl ⟨by rfl, ?_⟩) (by assumption) ?_; rotate_left; · ((intro w hSw; (try dsimp only at hSw); go_simp) <;> with_reducible rfl)
          try simp only [Act.put, List.setIfInBounds_toArray, List.set_cons_zero, List.set_cons_succ]
          refine wpAnyH_take (i := 4) (oi := { dst := some 58, op := Op.move (Operand.tmp 6), type := 21, pos := "ref.go:50", after := #[{ on := 3, ground := Ground.guard }], guard := some (3, false) }) (v := ?_) rfl (by kernel_rfl) (by kernel_rfl) (by kernel_rfl) (fun _ _ _ h => h) (Or.inl ⟨by rfl, ?_⟩) (by assumption) ?_; rotate_left; · ((intro w hSw; (try dsimp only at hSw); go_simp) <;> with_reducible rfl)
          try simp only [Act.put, List.setIfInBounds_toArray, List.set_cons_zero, List.set_cons_succ]
          refine wpAnyH_take (i := 7) (oi := { dst := some 61, op := Op.move (Operand.tmp 0), type := 9, pos := "ref.go:50", after := #[{ on := 3, ground := Ground.guard }], guard := some (3, false) }) (v := ?_) rfl (by kernel_rfl) (by kernel_rfl) (by kernel_rfl) (fun _ _ _ h => h) (Or.inl ⟨by rfl, ?_⟩) (by assumption) ?_; rotate_left; · ((intro w hSw; (try dsimp only at hSw); go_simp) <;> with_reducible rfl)
          try simp only [Act.put, List.setIfInBounds_toArray, List.set_cons_zero, List.set_cons_succ]
          refine wpAnyH_take (i := 8) (oi := { dst := some 62, op := Op.move (Operand.tmp 5), type := 3, pos := "ref.go:50", after := #[{ on := 3, ground := Ground.guard }], guard := some (3, false) }) (v := ?_) rfl (by kernel_rfl) (by kernel_rfl) (by kernel_rfl) (fun _ _ _ h => h) (Or.inl ⟨by rfl, ?_⟩) (by assumption) ?_; rotate_left; · ((intro w hSw; (try dsimp only at hSw); go_simp) <;> with_reducible rfl)
          try simp only [Act.put, List.setIfInBounds_toArray, List.set_cons_zero, List.set_cons_succ]
          refine wpAnyH_take (i := 9) (oi := { dst := some 63, op := Op.slice 9 (Operand.tmp 61) none (some (Operand.tmp 62)) none, type := 9, pos := "ref.go:50", after := #[{ on := 7, ground := Ground.data }, { on := 8, ground := Ground.data }, { on := 3, ground := Ground.guard }], guard := some (3, false) }) (v := ?_) rfl (by kernel_rfl) (by kernel_rfl) (by kernel_rfl) (fun _ _ _ h => h) (Or.inl ⟨by rfl, ?_⟩) (by assumption) ?_; rotate_left; · ((intro w hSw; (try dsimp only at hSw); go_simp) <;> with_reducible rfl)
          try simp only [Act.put, List.setIfInBounds_toArray, List.set_cons_zero, List.set_cons_succ]
          refine wpAnyH_ready (rs := [5]) (by kernel_rfl) (by simp) ?_
          refine AllReadyH.cons (o := { dst := some 59, op := Op.call { callee := Callee.value (Operand.func 80), args := #[Operand.tmp 58], argTypes := #[21] }, type := 25, pos := "ref.go:50", after := #[{ on := 4, ground := Ground.data }, { on := 3, ground := Ground.chain }, { on := 3, ground := Ground.guard }], guard := some (3, false) }) rfl (fun K hK => ?_) AllReadyH.nil
          go_simp; (first | (go_at_call 79; refine (hri.out _).mono ?_; rintro e w7 ⟨rfl, rfl⟩) | (go_at_call 80; refine (hby.out _).mono ?_; rintro e w8 ⟨A8, c8, rfl, own8, b8⟩; have hcv := run_conv_rd (P := Tryd.prog) (w := w8) 25 9 5 X.length c8 rfl Tryd.underlying25 Tryd.underlying5 Tryd.underlying9 (Rd.own own8)) | skip); (try (go_wp2_with fail)); refine hK.out _ _ (by first | trivial | ((try dsimp only); trivial)) (fun hHeld => ?_)
          clear hK K
          try simp only [Act.put, List.setIfInBounds_toArray, List.set_cons_zero, List.set_cons_succ]
          refine wpAnyH_ready (rs := [6]) (by kernel_rfl) (by simp) ?_
          refine AllReadyH.cons (o := { dst := some 60, op := Op.convert 25 9 (Operand.tmp 59), type := 9, pos := "ref.go:50", after := #[{ on := 5, ground := Ground.data }, { on := 3, ground := Ground.guard }], guard := some (3, false) }) rfl (fun K hK => ?_) AllReadyH.nil
          go_simp; (first | (go_at_call 79; refine (hri.out _).mono ?_; rintro e w7 ⟨rfl, rfl⟩) | (go_at_call 80; refine (hby.out _).mono ?_; rintro e w8 ⟨A8, c8, rfl, own8, b8⟩; have hcv := run_conv_rd (P := Tryd.prog) (w := w8) 25 9 5 X.length c8 rfl Tryd.underlying25 Tryd.underlying5 Tryd.underlying9 (Rd.own own8)) | skip); (try (go_wp2_with fail)); refine hK.out _ _ (by first | trivial | ((try dsimp only); trivial)) (fun hHeld => ?_)
          clear hK K
          try simp only [Act.put, List.setIfInBounds_toArray, List.set_cons_zero, List.set_cons_succ]
          refine wpAnyH_take (i := 10) (oi := { dst := some 64, op := Op.binOp BinOp.neq 9 (Operand.tmp 60) (Operand.tmp 63) 9, type := 4, pos := "ref.go:50", after := #[{ on := 6, ground := Ground.data }, { on := 9, ground := Ground.data }, { on := 3, ground := Ground.guard }], guard := some (3, false) }) (v := ?_) rfl (by kernel_rfl) (by kernel_rfl) (by kernel_rfl) (fun _ _ _ h => h) (Or.inl ⟨by rfl, ?_⟩) (by assumption) ?_; rotate_left; · ((intro w hSw; (try dsimp only at hSw); go_simp) <;> with_reducible rfl)
          try simp only [Act.put, List.setIfInBounds_toArray, List.set_cons_zero, List.set_cons_succ]
          refine wpAnyH_take (i := 11) (oi := { dst := some 65, op := Op.pick (Operand.tmp 57) (Operand.const (Value.bool true)) (Operand.tmp 64), type := 4, pos := "ref.go:50", after := #[{ on := 3, ground := Ground.data }, { on := 10, ground := Ground.data }], guard := none }) (v := ?_) rfl (by kernel_rfl) (by kernel_rfl) (by kernel_rfl) (fun _ _ _ h => h) (Or.inl ⟨by rfl, ?_⟩) (by assumption) ?_; rotate_left; · ((intro w hSw; (try dsimp only at hSw); go_simp) <;> with_reducible rfl)
          try simp only [Act.put, List.setIfInBounds_toArray, List.set_cons_zero, List.set_cons_succ]
          refine wpAnyH_done (by kernel_rfl) ?_ _
          go_wp2_with fail
          go_ret2
          exact ⟨rfl, undrewB b8⟩
      · rw [if_neg (fun h => hR h.1)] at hf2
        subst hf2
        have hR' : right V = false := by simpa using hR
        rw [hR'] at hri
        clear Hf
        go_wp2_with fail
        refine wp_region_held_drew (S := (fun _ => True)) (by kernel_rfl) (by trivial) (fun hHeld => ?_)
        refine wpAnyH_take (i := 0) (oi := { dst := some 54, op := Op.move (Operand.tmp 6), type := 21, pos := "ref.go:50", after := #[], guard := none }) (v := ?_) rfl (by kernel_rfl) (by kernel_rfl) (by kernel_rfl) (fun _ _ _ h => h) (Or.inl ⟨by rfl, ?_⟩) (by assumption) ?_; rotate_left; · ((intro w hSw; (try dsimp only at hSw); go_simp) <;> with_reducible rfl)
        try simp only [Act.put, List.setIfInBounds_toArray, List.set_cons_zero, List.set_cons_succ]
        refine wpAnyH_ready (rs := [1]) (by kernel_rfl) (by simp) ?_
        refine AllReadyH.cons (o := { dst := some 55, op := Op.call { callee := Callee.value (Operand.func 79), args := #[Operand.tmp 54], argTypes := #[21] }, type := 4, pos := "ref.go:50", after := #[{ on := 0, ground := Ground.data }], guard := none }) rfl (fun K hK => ?_) AllReadyH.nil
        go_simp; (first | (go_at_call 79; refine (hri.out _).mono ?_; rintro e w7 ⟨rfl, rfl⟩) | skip); (try (go_wp2_with fail)); refine hK.out _ _ (by first | trivial | ((try dsimp only); trivial)) (fun hHeld => ?_)
        clear hK K
        try simp only [Act.put, List.setIfInBounds_toArray, List.set_cons_zero, List.set_cons_succ]
        refine wpAnyH_take (i := 2) (oi := { dst := some 56, op := Op.unOp UnOp.not 4 (Operand.tmp 55), type := 4, pos := "ref.go:50", after := #[{ on := 1, ground := Ground.data }], guard := none }) (v := ?_) rfl (by kernel_rfl) (by kernel_rfl) (by kernel_rfl) (fun _ _ _ h => h) (Or.inl ⟨by rfl, ?_⟩) (by assumption) ?_; rotate_left; · ((intro w hSw; (try dsimp only at hSw); go_simp) <;> with_reducible rfl)
        try simp only [Act.put, List.setIfInBounds_toArray, List.set_cons_zero, List.set_cons_succ]
        refine wpAnyH_take (i := 3) (oi := { dst := some 57, op := Op.move (Operand.tmp 56), type := 4, pos := "ref.go:50", after := #[{ on := 2, ground := Ground.data }, { on := 1, ground := Ground.chain }], guard := none }) (v := ?_) rfl (by kernel_rfl) (by kernel_rfl) (by kernel_rfl) (fun _ _ _ h => h) (Or.inl ⟨by rfl, ?_⟩) (by assumption) ?_; rotate_left; · ((intro w hSw; (try dsimp only at hSw); go_simp) <;> with_reducible rfl)
        try simp only [Act.put, List.setIfInBounds_toArray, List.set_cons_zero, List.set_cons_succ]
        refine wpAnyH_take (i := 4) (oi := { dst := some 58, op := Op.move (Operand.tmp 6), type := 21, pos := "ref.go:50", after := #[{ on := 3, ground := Ground.guard }], guard := some (3, false) }) (v := undef) rfl (by kernel_rfl) (by kernel_rfl) (by kernel_rfl) (fun _ _ _ h => h) (Or.inr ⟨by rfl, rfl⟩) (by assumption) ?_
        try simp only [Act.put, List.setIfInBounds_toArray, List.set_cons_zero, List.set_cons_succ]
        refine wpAnyH_take (i := 7) (oi := { dst := some 61, op := Op.move (Operand.tmp 0), type := 9, pos := "ref.go:50", after := #[{ on := 3, ground := Ground.guard }], guard := some (3, false) }) (v := undef) rfl (by kernel_rfl) (by kernel_rfl) (by kernel_rfl) (fun _ _ _ h => h) (Or.inr ⟨by rfl, rfl⟩) (by assumption) ?_
        try simp only [Act.put, List.setIfInBounds_toArray, List.set_cons_zero, List.set_cons_succ]
        refine wpAnyH_take (i := 8) (oi := { dst := some 62, op := Op.move (Operand.tmp 5), type := 3, pos := "ref.go:50", after := #[{ on := 3, ground := Ground.guard }], guard := some (3, false) }) (v := undef) rfl (by kernel_rfl) (by kernel_rfl) (by kernel_rfl) (fun _ _ _ h => h) (Or.inr ⟨by rfl, rfl⟩) (by assumption) ?_
        try simp only [Act.put, List.setIfInBounds_toArray, List.set_cons_zero, List.set_cons_succ]
        refine wpAnyH_take (i := 9) (oi := { dst := some 63, op := Op.slice 9 (Operand.tmp 61) none (some (Operand.tmp 62)) none, type := 9, pos := "ref.go:50", after := #[{ on := 7, ground := Ground.data }, { on := 8, ground := Ground.data }, { on := 3, ground := Ground.guard }], guard := some (3, false) }) (v := undef) rfl (by kernel_rfl) (by kernel_rfl) (by kernel_rfl) (fun _ _ _ h => h) (Or.inr ⟨by rfl, rfl⟩) (by assumption) ?_
        try simp only [Act.put, List.setIfInBounds_toArray, List.set_cons_zero, List.set_cons_succ]
        refine wpAnyH_ready (rs := [5]) (by kernel_rfl) (by simp) ?_
        refine AllReadyH.cons (o := { dst := some 59, op := Op.call { callee := Callee.value (Operand.func 80), args := #[Operand.tmp 58], argTypes := #[21] }, type := 25, pos := "ref.go:50", after := #[{ on := 4, ground := Ground.data }, { on := 3, ground := Ground.chain }, { on := 3, ground := Ground.guard }], guard := some (3, false) }) rfl (fun K hK => ?_) AllReadyH.nil
        rw [if_neg]; rotate_left; · exact fun h => Bool.noConfusion (show false = true from h)
        refine hK.out _ _ hHeld (fun hHeld => ?_)
        clear hK K
        try simp only [Act.put, List.setIfInBounds_toArray, List.set_cons_zero, List.set_cons_succ]
        refine wpAnyH_ready (rs := [6]) (by kernel_rfl) (by simp) ?_
        refine AllReadyH.cons (o := { dst := some 60, op := Op.convert 25 9 (Operand.tmp 59), type := 9, pos := "ref.go:50", after := #[{ on := 5, ground := Ground.data }, { on := 3, ground := Ground.guard }], guard := some (3, false) }) rfl (fun K hK => ?_) AllReadyH.nil
        rw [if_neg]; rotate_left; · exact fun h => Bool.noConfusion (show false = true from h)
        refine hK.out _ _ hHeld (fun hHeld => ?_)
        clear hK K
        try simp only [Act.put, List.setIfInBounds_toArray, List.set_cons_zero, List.set_cons_succ]
        refine wpAnyH_take (i := 10) (oi := { dst := some 64, op := Op.binOp BinOp.neq 9 (Operand.tmp 60) (Operand.tmp 63) 9, type := 4, pos := "ref.go:50", after := #[{ on := 6, ground := Ground.data }, { on := 9, ground := Ground.data }, { on := 3, ground := Ground.guard }], guard := some (3, false) }) (v := undef) rfl (by kernel_rfl) (by kernel_rfl) (by kernel_rfl) (fun _ _ _ h => h) (Or.inr ⟨by rfl, rfl⟩) (by assumption) ?_
        try simp only [Act.put, List.setIfInBounds_toArray, List.set_cons_zero, List.set_cons_succ]
        refine wpAnyH_take (i := 11) (oi := { dst := some 65, op := Op.pick (Operand.tmp 57) (Operand.const (Value.bool true)) (Operand.tmp 64), type := 4, pos := "ref.go:50", after := #[{ on := 3, ground := Ground.data }, { on := 10, ground := Ground.data }], guard := none }) (v := ?_) rfl (by kernel_rfl) (by kernel_rfl) (by kernel_rfl) (fun _ _ _ h => h) (Or.inl ⟨by rfl, ?_⟩) (by assumption) ?_; rotate_left; · ((intro w hSw; (try dsimp only at hSw); go_simp) <;> with_reducible rfl)
        try simp only [Act.put, List.setIfInBounds_toArray, List.set_cons_zero, List.set_cons_succ]
        refine wpAnyH_done (by kernel_rfl) ?_ _
        go_wp2_with fail
        go_ret2
        exact ⟨rfl, (Below.refl _ _).drew⟩
set_option maxHeartbeats 1000000 in
theorem rfirst_2 (l : List UInt8) (w : World) (hl : l.length ≤ 1000000) (h0 : 0 < l.length) (h1 : ¬ 240 ≤ g l 0) (h2 : ¬ 224 ≤ g l 0) (h3 : 192 ≤ g l 0) :
    Calls Tryd.prog 70 #[.string ⟨l.toArray⟩] w fun e w' => e = .returned (.tuple #[.int .i32 ((first l).1 : Int), .int .i64 ((first l).2 : Int)]) ∧ Below w.heap.size w w' := by
  have hc := g_lt l 0
  have hz : sizeOf1 (g l 0) = 2 := by unfold sizeOf1; rw [if_neg (by omega), if_neg (by omega), if_pos (by omega)]
  have hh : headOf (g l 0) = g l 0 - 192 := by unfold headOf; rw [if_neg (by omega), if_neg (by omega), if_pos (by omega)]
  have hf : first l = if l.length < 2 then (0, 0) else if ¬ conts l 2 then (0, 0) else if right (va l (g l 0 - 192) (2 - 1)) = true ∧ enc (va l (g l 0 - 192) (2 - 1)) = l.take 2 then (va l (g l 0 - 192) (2 - 1), 2) else (0, 0) := by
    unfold first
    rw [if_neg (show ¬ l.length = 0 by omega), hz, hh]
  obtain ⟨F, hF⟩ : ∃ F, F = first l := ⟨_, rfl⟩
  rw [← hF] at hf ⊢
  clear hF
  have hsz : (⟨l.toArray⟩ : ByteArray).size = l.length := ba_size l
  have hx : ∀ k, k < l.length → ∀ w, (Instr.index 9 (.string ⟨l.toArray⟩) (.int .i64 (k : Int))).run Tryd.prog w = .ok (.int .u8 (g l k : Int)) w := fun k hk w => run_ix 9 l k hk Tryd.underlying9 w
  obtain ⟨S, hS⟩ : ∃ S : ByteArray, S = ⟨l.toArray⟩ := ⟨_, rfl⟩
  rw [← hS] at hsz hx ⊢
  have hI : ¬ ((l.length : Int) = 0) := by omega
  have hI2 := beq_no hI
  have HS := Lib.hid hS
  have Hx := Lib.hid hx
  have hx0 := fun w => (hx 0 h0 w)
  simp only [Int.cast_ofNat_Int] at hx0
  have hw0 : wrap32 (g l 0 : Int) = (g l 0 : Int) := w32 (by omega) (by omega)
  have hg0 : (g l 0 : Int) ≤ 255 := by omega
  have hn1 : ¬ 240 ≤ (g l 0 : Int) := by omega
  have hn2 : ¬ 224 ≤ (g l 0 : Int) := by omega
  have hn3 : 192 ≤ (g l 0 : Int) := by omega
  have hgc := g_lt l
  have hs0 : ((g l 0 - 192 : Nat) : Int) = (g l 0 : Int) - 192 := by omega
  have Hs0 := Lib.hid hs0
  have hwm : ∀ (V k : Nat), V ≤ 100000 → cont l k → wrap32 (V * 64 : Int) = (V * 64 : Int) := fun V k h1 h2 => w32 (by omega) (by omega)
  clear hS hx hz hh hI hs0
  by_cases hlen : l.length < 2
  · rw [if_pos hlen] at hf
    subst hf
    have hlI : (l.length : Int) < 2 := by omega
    go_enter Tryd.func70, Tryd.ntmps70
    go_wp2_with fail
    go_ret2
    exact ⟨rfl, Below.refl _ _⟩
  · rw [if_neg hlen] at hf
    have hlI : ¬ (l.length : Int) < 2 := by omega
    have Hf := Lib.hid hf
    clear hf
    go_enter Tryd.func70, Tryd.ntmps70
    go_wp2_with fail
    go_loopw [6, 7] (fun v i wr => ∃ k : Nat, k + 1 ≤ 2 ∧ i = .int .i64 ((k + 1 : Nat) : Int) ∧ v = .int .i32 ((va l (g l 0 - 192) k : Nat) : Int) ∧ Hid (conts l (k + 1)) ∧ wr = w) (fun _ i _ => 2 - (intOf i).toNat)
    case atStart => exact ⟨0, by omega, rfl, by show Value.int .i32 _ = .int .i32 ((g l 0 - 192 : Nat) : Int); first | rw [Hs0.out] | rfl, Lib.hid (fun j h1 h2 => by omega), rfl⟩
    case round =>
      obtain ⟨k, hk, rfl, rfl, hcs, rfl⟩ := hrel
      have hvl := va_le l (g l 0 - 192) k hcs.out
      obtain ⟨V, hV⟩ : ∃ V, V = va l (g l 0 - 192) k := ⟨_, rfl⟩
      rw [← hV] at hvl ⊢
      have HV := Lib.hid hV
      clear hV
      by_cases hlt : k + 1 < 2
      · have hkI : ((k : Int) + 1) < 2 := by omega
        have hkl : k + 1 < l.length := by omega
        have hV1 : (V : Int) ≤ 100000 := by
          have : 64 ^ k ≤ 64 ^ 2 := Nat.pow_le_pow_right (by omega) (by omega)
          have h64 : (g l 0 - 192 + 1) * 64 ^ k ≤ 16 * 64 ^ 2 := by have hk0 : k = 0 := (by omega); subst hk0; omega
          omega
        have hxk := Hx.out (k + 1) hkl
        obtain ⟨G, hG⟩ : ∃ G, G = g l (k + 1) := ⟨_, rfl⟩
        have hGc := hgc (k + 1)
        rw [← hG] at hxk hGc
        have HG := Lib.hid hG
        have hGI : (G : Int) ≤ 255 := by omega
        simp only [Int.natCast_add, Int.cast_ofNat_Int] at hxk
        have hwG : wrap32 (G : Int) = (G : Int) := w32 (by omega) (by omega)
        have hwV : wrap32 ((V : Int) * 64) = (V : Int) * 64 := w32 (by omega) (by omega)
        have hwS : wrap32 ((V : Int) * 64 + (G : Int)) = (V : Int) * 64 + (G : Int) := w32 (by omega) (by omega)
        clear hG hvl
        rcases (show G < 128 ∨ (128 ≤ G ∧ 191 < G) ∨ (128 ≤ G ∧ G ≤ 191) by omega) with c1 | ⟨c1, c2⟩ | ⟨c1, c2⟩
        case' inl => have c1I : (G : Int) < 128 := (by omega)
        case' inr.inl =>
          have c1I : ¬ (G : Int) < 128 := (by omega)
          have c2I : (191 : Int) < (G : Int) := (by omega)
        case' inr.inr =>
          have c1I : ¬ (G : Int) < 128 := (by omega)
          have c2I : ¬ (191 : Int) < (G : Int) := (by omega)
        case inr.inr =>
          have hwD : wrap32 ((V : Int) * 64 + (G : Int) - 128) = (V : Int) * 64 + (G : Int) - 128 := w32 (by omega) (by omega)
          have hcn : cont l (k + 1) := by unfold cont; rw [← HG.out]; omega
          have Hcn := Lib.hid (conts_succ hcs.out hcn)
          clear hcn
          go_wp2_with fail
          go_roundw
          case rel => exact ⟨k + 1, by omega, by go_num, by rw [va_succ, ← HV.out, ← HG.out]; exact congrArg _ (by omega), Hcn, (by first | rfl | trivial)⟩
          case measure => simp [intOf]; omega
        all_goals
          have hno : ¬ conts l 2 := fun h => by
            have := h (k + 1) (by omega) (by omega)
            unfold cont at this
            rw [← HG.out] at this
            omega
          have hF0 : F = (0, 0) := by rw [Hf.out, if_pos hno]
          subst hF0
          go_wp2_with fail
          go_ret2
          exact ⟨rfl, Below.refl _ _⟩
      · obtain rfl : k = 1 := by omega
        simp only [show (((1 + 1 : Nat)) : Int) = 2 from rfl]
        have hcI : conts l 2 := hcs.out
        have hf2 := Hf.out
        rw [if_neg (fun h => h hcI)] at hf2
        rw [show (2 : Nat) - 1 = 1 from rfl, ← HV.out] at hf2
        have hri := Lib.hid (show ∀ w, Calls Tryd.prog 79 #[.int .i32 (V : Int)] w fun e w' => e = .returned (.bool (right V)) ∧ w = w' from fun w => by
          have := rright_any (V : Int) w
          rw [ri_right] at this
          exact this)
        by_cases hR : right V = true
        · have hV2 : V ≤ 1114111 := by
            have h := hR
            unfold right at h
            exact (of_decide_eq_true h).1
          have hby := Lib.hid (fun w => rbytes_any V (V : Int) rfl hV2 w)
          rw [hR] at hri
          obtain ⟨X, hX⟩ : ∃ X, X = enc V := ⟨_, rfl⟩
          rw [← hX] at hby hf2
          clear hX
          by_cases hE : X = l.take 2
          · rw [if_pos ⟨hR, hE⟩] at hf2
            subst hf2
            have hex : S.extract 0 2 = ⟨X.toArray⟩ := by rw [hE, HS.out]; exact ex_take l 2
            have hbq : (X == (S.extract 0 2).toList) = true := by rw [hex, ba_list]; simp
            have HR := Lib.hid hR
            clear Hf hE hex hR
            go_wp2_with fail
            refine wp_region_held_drew (S := (fun _ => True)) (by kernel_rfl) (by trivial) (fun hHeld => ?_)
            refine wpAnyH_take (i := 0) (oi := { dst := some 54, op := Op.move (Operand.tmp 6), type := 21, pos := "ref.go:50", after := #[], guard := none }) (v := ?_) rfl (by kernel_rfl) (by kernel_rfl) (by kernel_rfl) (fun _ _ _ h => h) (Or.inl ⟨by rfl, ?_⟩) (by assumption) ?_; rotate_left; · ((intro w hSw; (try dsimp only at hSw); go_simp) <;> with_reducible rfl)
            try simp only [Act.put, List.setIfInBounds_toArray, List.set_cons_zero, List.set_cons_succ]
            refine wpAnyH_ready (rs := [1]) (by kernel_rfl) (by simp) ?_
            refine AllReadyH.cons (o := { dst := some 55, op := Op.call { callee := Callee.value (Operand.func 79), args := #[Operand.tmp 54], argTypes := #[21] }, type := 4, pos := "ref.go:50", after := #[{ on := 0, ground := Ground.data }], guard := none }) rfl (fun K hK => ?_) AllReadyH.nil
            go_simp; (first | (go_at_call 79; refine (hri.out _).mono ?_; rintro e w7 ⟨rfl, rfl⟩) | (go_at_call 80; refine (hby.out _).mono ?_; rintro e w8 ⟨A8, c8, rfl, own8, b8⟩; have hcv := run_conv_rd (P := Tryd.prog) (w := w8) 25 9 5 X.length c8 rfl Tryd.underlying25 Tryd.underlying5 Tryd.underlying9 (Rd.own own8)) | skip); (try (go_wp2_with fail)); refine hK.out _ _ (by first | trivial | ((try dsimp only); trivial)) (fun hHeld => ?_)
            clear hK K
            try simp only [Act.put, List.setIfInBounds_toArray, List.set_cons_zero, List.set_cons_succ]
            refine wpAnyH_take (i := 2) (oi := { dst := some 56, op := Op.unOp UnOp.not 4 (Operand.tmp 55), type := 4, pos := "ref.go:50", after := #[{ on := 1, ground := Ground.data }], guard := none }) (v := ?_) rfl (by kernel_rfl) (by kernel_rfl) (by kernel_rfl) (fun _ _ _ h => h) (Or.inl ⟨by rfl, ?_⟩) (by assumption) ?_; rotate_left; · ((intro w hSw; (try dsimp only at hSw); go_simp) <;> with_reducible rfl)
            try simp only [Act.put, List.setIfInBounds_toArray, List.set_cons_zero, List.set_cons_succ]
            refine wpAnyH_take (i := 3) (oi := { dst := some 57, op := Op.move (Operand.tmp 56), type := 4, pos := "ref.go:50", after := #[{ on := 2, ground := Ground.data }, { on := 1, ground := Ground.chain }], guard := none }) (v := ?_) rfl (by kernel_rfl) (by kernel_rfl) (by kernel_rfl) (fun _ _ _ h => h) (Or.inl ⟨by rfl, ?_⟩) (by assumption) ?_; rotate_left; · ((intro w hSw; (try dsimp only at hSw); go_simp) <;> with_reducible rfl)
            try simp only [Act.put, List.setIfInBounds_toArray, List.set_cons_zero, List.set_cons_succ]
            refine wpAnyH_take (i := 4) (oi := { dst := some 58, op := Op.move (Operand.tmp 6), type := 21, pos := "ref.go:50", after := #[{ on := 3, ground := Ground.guard }], guard := some (3, false) }) (v := ?_) rfl (by kernel_rfl) (by kernel_rfl) (by kernel_rfl) (fun _ _ _ h => h) (Or.inl ⟨by rfl, ?_⟩) (by assumption) ?_; rotate_left; · ((intro w hSw; (try dsimp only at hSw); go_simp) <;> with_reducible rfl)
            try simp only [Act.put, List.setIfInBounds_toArray, List.set_cons_zero, List.set_cons_succ]
            refine wpAnyH_take (i := 7) (oi := { dst := some 61, op := Op.move (Operand.tmp 0), type := 9, pos := "ref.go:50", after := #[{ on := 3, ground := Ground.guard }], guard := some (3, false) }) (v := ?_) rfl (by kernel_rfl) (by kernel_rfl) (by kernel_rfl) (fun _ _ _ h => h) (Or.inl ⟨by rfl, ?_⟩) (by assumption) ?_; rotate_left; · ((intro w hSw; (try dsimp only at hSw); go_simp) <;> with_reducible rfl)
            try simp only [Act.put, List.setIfInBounds_toArray, List.set_cons_zero, List.set_cons_succ]
            refine wpAnyH_take (i := 8) (oi := { dst := some 62, op := Op.move (Operand.tmp 5), type := 3, pos := "ref.go:50", after := #[{ on := 3, ground := Ground.guard }], guard := some (3, false) }) (v := ?_) rfl (by kernel_rfl) (by kernel_rfl) (by kernel_rfl) (fun _ _ _ h => h) (Or.inl ⟨by rfl, ?_⟩) (by assumption) ?_; rotate_left; · ((intro w hSw; (try dsimp only at hSw); go_simp) <;> with_reducible rfl)
            try simp only [Act.put, List.setIfInBounds_toArray, List.set_cons_zero, List.set_cons_succ]
            refine wpAnyH_take (i := 9) (oi := { dst := some 63, op := Op.slice 9 (Operand.tmp 61) none (some (Operand.tmp 62)) none, type := 9, pos := "ref.go:50", after := #[{ on := 7, ground := Ground.data }, { on := 8, ground := Ground.data }, { on := 3, ground := Ground.guard }], guard := some (3, false) }) (v := ?_) rfl (by kernel_rfl) (by kernel_rfl) (by kernel_rfl) (fun _ _ _ h => h) (Or.inl ⟨by rfl, ?_⟩) (by assumption) ?_; rotate_left; · ((intro w hSw; (try dsimp only at hSw); go_simp) <;> with_reducible rfl)
            try simp only [Act.put, List.setIfInBounds_toArray, List.set_cons_zero, List.set_cons_succ]
            refine wpAnyH_ready (rs := [5]) (by kernel_rfl) (by simp) ?_
            refine AllReadyH.cons (o := { dst := some 59, op := Op.call { callee := Callee.value (Operand.func 80), args := #[Operand.tmp 58], argTypes := #[21] }, type := 25, pos := "ref.go:50", after := #[{ on := 4, ground := Ground.data }, { on := 3, ground := Ground.chain }, { on := 3, ground := Ground.guard }], guard := some (3, false) }) rfl (fun K hK => ?_) AllReadyH.nil
            go_simp; (first | (go_at_call 79; refine (hri.out _).mono ?_; rintro e w7 ⟨rfl, rfl⟩) | (go_at_call 80; refine (hby.out _).mono ?_; rintro e w8 ⟨A8, c8, rfl, own8, b8⟩; have hcv := run_conv_rd (P := Tryd.prog) (w := w8) 25 9 5 X.length c8 rfl Tryd.underlying25 Tryd.underlying5 Tryd.underlying9 (Rd.own own8)) | skip); (try (go_wp2_with fail)); refine hK.out _ _ (by first | trivial | ((try dsimp only); trivial)) (fun hHeld => ?_)
            clear hK K
            try simp only [Act.put, List.setIfInBounds_toArray, List.set_cons_zero, List.set_cons_succ]
            refine wpAnyH_ready (rs := [6]) (by kernel_rfl) (by simp) ?_
            refine AllReadyH.cons (o := { dst := some 60, op := Op.convert 25 9 (Operand.tmp 59), type := 9, pos := "ref.go:50", after := #[{ on := 5, ground := Ground.data }, { on := 3, ground := Ground.guard }], guard := some (3, false) }) rfl (fun K hK => ?_) AllReadyH.nil
            go_simp; (first | (go_at_call 79; refine (hri.out _).mono ?_; rintro e w7 ⟨rfl, rfl⟩) | (go_at_call 80; refine (hby.out _).mono ?_; rintro e w8 ⟨A8, c8, rfl, own8, b8⟩; have hcv := run_conv_rd (P := Tryd.prog) (w := w8) 25 9 5 X.length c8 rfl Tryd.underlying25 Tryd.underlying5 Tryd.underlying9 (Rd.own own8)) | skip); (try (go_wp2_with fail)); refine hK.out _ _ (by first | trivial | ((try dsimp only); trivial)) (fun hHeld => ?_)
            clear hK K
            try simp only [Act.put, List.setIfInBounds_toArray, List.set_cons_zero, List.set_cons_succ]
            refine wpAnyH_take (i := 10) (oi := { dst := some 64, op := Op.binOp BinOp.neq 9 (Operand.tmp 60) (Operand.tmp 63) 9, type := 4, pos := "ref.go:50", after := #[{ on := 6, ground := Ground.data }, { on := 9, ground := Ground.data }, { on := 3, ground := Ground.guard }], guard := some (3, false) }) (v := ?_) rfl (by kernel_rfl) (by kernel_rfl) (by kernel_rfl) (fun _ _ _ h => h) (Or.inl ⟨by rfl, ?_⟩) (by assumption) ?_; rotate_left; · ((intro w hSw; (try dsimp only at hSw); go_simp) <;> with_reducible rfl)
            try simp only [Act.put, List.setIfInBounds_toArray, List.set_cons_zero, List.set_cons_succ]
            refine wpAnyH_take (i := 11) (oi := { dst := some 65, op := Op.pick (Operand.tmp 57) (Operand.const (Value.bool true)) (Operand.tmp 64), type := 4, pos := "ref.go:50", after := #[{ on := 3, ground := Ground.data }, { on := 10, ground := Ground.data }], guard := none }) (v := ?_) rfl (by kernel_rfl) (by kernel_rfl) (by kernel_rfl) (fun _ _ _ h => h) (Or.inl ⟨by rfl, ?_⟩) (by assumption) ?_; rotate_left; · ((intro w hSw; (try dsimp only at hSw); go_simp) <;> with_reducible rfl)
            try simp only [Act.put, List.setIfInBounds_toArray, List.set_cons_zero, List.set_cons_succ]
            refine wpAnyH_done (by kernel_rfl) ?_ _
            go_wp2_with fail
            go_ret2
            exact ⟨rfl, undrewB b8⟩
          · rw [if_neg (fun h => hE h.2)] at hf2
            subst hf2
            have hex : S.extract 0 2 = ⟨(l.take 2).toArray⟩ := by rw [HS.out]; exact ex_take l 2
            have hbq : (X == (S.extract 0 2).toList) = false := by
              rw [hex, ba_list, beq_eq_false_iff_ne]
              exact hE
            clear Hf hex hE hR
            go_wp2_with fail
            refine wp_region_held_drew (S := (fun _ => True)) (by kernel_rfl) (by trivial) (fun hHeld => ?_)
            refine wpAnyH_take (i := 0) (oi := { dst := some 54, op := Op.move (Operand.tmp 6), type := 21, pos := "ref.go:50", after := #[], guard := none }) (v := ?_) rfl (by kernel_rfl) (by kernel_rfl) (by kernel_rfl) (fun _ _ _ h => h) (Or.inl ⟨by rfl, ?_⟩) (by assumption) ?_; rotate_left; · ((intro w hSw; (try dsimp only at hSw); go_simp) <;> with_reducible rfl)
            try simp only [Act.put, List.setIfInBounds_toArray, List.set_cons_zero, List.set_cons_succ]
            refine wpAnyH_ready (rs := [1]) (by kernel_rfl) (by simp) ?_
            refine AllReadyH.cons (o := { dst := some 55, op := Op.call { callee := Callee.value (Operand.func 79), args := #[Operand.tmp 54], argTypes := #[21] }, type := 4, pos := "ref.go:50", after := #[{ on := 0, ground := Ground.data }], guard := none }) rfl (fun K hK => ?_) AllReadyH.nil
            go_simp; (first | (go_at_call 79; refine (hri.out _).mono ?_; rintro e w7 ⟨rfl, rfl⟩) | (go_at_call 80; refine (hby.out _).mono ?_; rintro e w8 ⟨A8, c8, rfl, own8, b8⟩; have hcv := run_conv_rd (P := Tryd.prog) (w := w8) 25 9 5 X.length c8 rfl Tryd.underlying25 Tryd.underlying5 Tryd.underlying9 (Rd.own own8)) | skip); (try (go_wp2_with fail)); refine hK.out _ _ (by first | trivial | ((try dsimp only); trivial)) (fun hHeld => ?_)
            clear hK K
            try simp only [Act.put, List.setIfInBounds_toArray, List.set_cons_zero, List.set_cons_succ]
            refine wpAnyH_take (i := 2) (oi := { dst := some 56, op := Op.unOp UnOp.not 4 (Operand.tmp 55), type := 4, pos := "ref.go:50", after := #[{ on := 1, ground := Ground.data }], guard := none }) (v := ?_) rfl (by kernel_rfl) (by kernel_rfl) (by kernel_rfl) (fun _ _ _ h => h) (Or.inl ⟨by rfl, ?_⟩) (by assumption) ?_; rotate_left; · ((intro w hSw; (try dsimp only at hSw); go_simp) <;> with_reducible rfl)
            try simp only [Act.put, List.setIfInBounds_toArray, List.set_cons_zero, List.set_cons_succ]
            refine wpAnyH_take (i := 3) (oi := { dst := some 57, op := Op.move (Operand.tmp 56), type := 4, pos := "ref.go:50", after := #[{ on := 2, ground := Ground.data }, { on := 1, ground := Ground.chain }], guard := none }) (v := ?_) rfl (by kernel_rfl) (by kernel_rfl) (by kernel_rfl) (fun _ _ _ h => h) (Or.inl ⟨by rfl, ?_⟩) (by assumption) ?_; rotate_left; · ((intro w hSw; (try dsimp only at hSw); go_simp) <;> with_reducible rfl)
            try simp only [Act.put, List.setIfInBounds_toArray, List.set_cons_zero, List.set_cons_succ]
            refine wpAnyH_take (i := 4) (oi := { dst := some 58, op := Op.move (Operand.tmp 6), type := 21, pos := "ref.go:50", after := #[{ on := 3, ground := Ground.guard }], guard := some (3, false) }) (v := ?_) rfl (by kernel_rfl) (by kernel_rfl) (by kernel_rfl) (fun _ _ _ h => h) (Or.inl ⟨by rfl, ?_⟩) (by assumption) ?_; rotate_left; · ((intro w hSw; (try dsimp only at hSw); go_simp) <;> with_reducible rfl)
            try simp only [Act.put, List.setIfInBounds_toArray, List.set_cons_zero, List.set_cons_succ]
            refine wpAnyH_take (i := 7) (oi := { dst := some 61, op := Op.move (Operand.tmp 0), type := 9, pos := "ref.go:50", after := #[{ on := 3, ground := Ground.guard }], guard := some (3, false) }) (v := ?_) rfl (by kernel_rfl) (by kernel_rfl) (by kernel_rfl) (fun _ _ _ h => h) (Or.inl ⟨by rfl, ?_⟩) (by assumption) ?_; rotate_left; · ((intro w hSw; (try dsimp only at hSw); go_simp) <;> with_reducible rfl)
            try simp only [Act.put, List.setIfInBounds_toArray, List.set_cons_zero, List.set_cons_succ]
            refine wpAnyH_take (i := 8) (oi := { dst := some 62, op := Op.move (Operand.tmp 5), type := 3, pos := "ref.go:50", after := #[{ on := 3, ground := Ground.guard }], guard := some (3, false) }) (v := ?_) rfl (by kernel_rfl) (by kernel_rfl) (by kernel_rfl) (fun _ _ _ h => h) (Or.inl ⟨by rfl, ?_⟩) (by assumption) ?_; rotate_left; · ((intro w hSw; (try dsimp only at hSw); go_simp) <;> with_reducible rfl)
            try simp only [Act.put, List.setIfInBounds_toArray, List.set_cons_zero, List.set_cons_succ]
            refine wpAnyH_take (i := 9) (oi := { dst := some 63, op := Op.slice 9 (Operand.tmp 61) none (some (Operand.tmp 62)) none, type := 9, pos := "ref.go:50", after := #[{ on := 7, ground := Ground.data }, { on := 8, ground := Ground.data }, { on := 3, ground := Ground.guard }], guard := some (3, false) }) (v := ?_) rfl (by kernel_rfl) (by kernel_rfl) (by kernel_rfl) (fun _ _ _ h => h) (Or.inl ⟨by rfl, ?_⟩) (by assumption) ?_; rotate_left; · ((intro w hSw; (try dsimp only at hSw); go_simp) <;> with_reducible rfl)
            try simp only [Act.put, List.setIfInBounds_toArray, List.set_cons_zero, List.set_cons_succ]
            refine wpAnyH_ready (rs := [5]) (by kernel_rfl) (by simp) ?_
            refine AllReadyH.cons (o := { dst := some 59, op := Op.call { callee := Callee.value (Operand.func 80), args := #[Operand.tmp 58], argTypes := #[21] }, type := 25, pos := "ref.go:50", after := #[{ on := 4, ground := Ground.data }, { on := 3, ground := Ground.chain }, { on := 3, ground := Ground.guard }], guard := some (3, false) }) rfl (fun K hK => ?_) AllReadyH.nil
            go_simp; (first | (go_at_call 79; refine (hri.out _).mono ?_; rintro e w7 ⟨rfl, rfl⟩) | (go_at_call 80; refine (hby.out _).mono ?_; rintro e w8 ⟨A8, c8, rfl, own8, b8⟩; have hcv := run_conv_rd (P := Tryd.prog) (w := w8) 25 9 5 X.length c8 rfl Tryd.underlying25 Tryd.underlying5 Tryd.underlying9 (Rd.own own8)) | skip); (try (go_wp2_with fail)); refine hK.out _ _ (by first | trivial | ((try dsimp only); trivial)) (fun hHeld => ?_)
            clear hK K
            try simp only [Act.put, List.setIfInBounds_toArray, List.set_cons_zero, List.set_cons_succ]
            refine wpAnyH_ready (rs := [6]) (by kernel_rfl) (by simp) ?_
            refine AllReadyH.cons (o := { dst := some 60, op := Op.convert 25 9 (Operand.tmp 59), type := 9, pos := "ref.go:50", after := #[{ on := 5, ground := Ground.data }, { on := 3, ground := Ground.guard }], guard := some (3, false) }) rfl (fun K hK => ?_) AllReadyH.nil
            go_simp; (first | (go_at_call 79; refine (hri.out _).mono ?_; rintro e w7 ⟨rfl, rfl⟩) | (go_at_call 80; refine (hby.out _).mono ?_; rintro e w8 ⟨A8, c8, rfl, own8, b8⟩; have hcv := run_conv_rd (P := Tryd.prog) (w := w8) 25 9 5 X.length c8 rfl Tryd.underlying25 Tryd.underlying5 Tryd.underlying9 (Rd.own own8)) | skip); (try (go_wp2_with fail)); refine hK.out _ _ (by first | trivial | ((try dsimp only); trivial)) (fun hHeld => ?_)
            clear hK K
            try simp only [Act.put, List.setIfInBounds_toArray, List.set_cons_zero, List.set_cons_succ]
            refine wpAnyH_take (i := 10) (oi := { dst := some 64, op := Op.binOp BinOp.neq 9 (Operand.tmp 60) (Operand.tmp 63) 9, type := 4, pos := "ref.go:50", after := #[{ on := 6, ground := Ground.data }, { on := 9, ground := Ground.data }, { on := 3, ground := Ground.guard }], guard := some (3, false) }) (v := ?_) rfl (by kernel_rfl) (by kernel_rfl) (by kernel_rfl) (fun _ _ _ h => h) (Or.inl ⟨by rfl, ?_⟩) (by assumption) ?_; rotate_left; · ((intro w hSw; (try dsimp only at hSw); go_simp) <;> with_reducible rfl)
            try simp only [Act.put, List.setIfInBounds_toArray, List.set_cons_zero, List.set_cons_succ]
            refine wpAnyH_take (i := 11) (oi := { dst := some 65, op := Op.pick (Operand.tmp 57) (Operand.const (Value.bool true)) (Operand.tmp 64), type := 4, pos := "ref.go:50", after := #[{ on := 3, ground := Ground.data }, { on := 10, ground := Ground.data }], guard := none }) (v := ?_) rfl (by kernel_rfl) (by kernel_rfl) (by kernel_rfl) (fun _ _ _ h => h) (Or.inl ⟨by rfl, ?_⟩) (by assumption) ?_; rotate_left; · ((intro w hSw; (try dsimp only at hSw); go_simp) <;> with_reducible rfl)
            try simp only [Act.put, List.setIfInBounds_toArray, List.set_cons_zero, List.set_cons_succ]
            refine wpAnyH_done (by kernel_rfl) ?_ _
            go_wp2_with fail
            go_ret2
            exact ⟨rfl, undrewB b8⟩
        · rw [if_neg (fun h => hR h.1)] at hf2
          subst hf2
          have hR' : right V = false := by simpa using hR
          rw [hR'] at hri
          clear Hf
          go_wp2_with fail
          refine wp_region_held_drew (S := (fun _ => True)) (by kernel_rfl) (by trivial) (fun hHeld => ?_)
          refine wpAnyH_take (i := 0) (oi := { dst := some 54, op := Op.move (Operand.tmp 6), type := 21, pos := "ref.go:50", after := #[], guard := none }) (v := ?_) rfl (by kernel_rfl) (by kernel_rfl) (by kernel_rfl) (fun _ _ _ h => h) (Or.inl ⟨by rfl, ?_⟩) (by assumption) ?_; rotate_left; · ((intro w hSw; (try dsimp only at hSw); go_simp) <;> with_reducible rfl)
          try simp only [Act.put, List.setIfInBounds_toArray, List.set_cons_zero, List.set_cons_succ]
          refine wpAnyH_ready (rs := [1]) (by kernel_rfl) (by simp) ?_
          refine AllReadyH.cons (o := { dst := some 55, op := Op.call { callee := Callee.value (Operand.func 79), args := #[Operand.tmp 54], argTypes := #[21] }, type := 4, pos := "ref.go:50", after := #[{ on := 0, ground := Ground.data }], guard := none }) rfl (fun K hK => ?_) AllReadyH.nil
          go_simp; (first | (go_at_call 79; refine (hri.out _).mono ?_; rintro e w7 ⟨rfl, rfl⟩) | skip); (try (go_wp2_with fail)); refine hK.out _ _ (by first | trivial | ((try dsimp only); trivial)) (fun hHeld => ?_)
          clear hK K
          try simp only [Act.put, List.setIfInBounds_toArray, List.set_cons_zero, List.set_cons_succ]
          refine wpAnyH_take (i := 2) (oi := { dst := some 56, op := Op.unOp UnOp.not 4 (Operand.tmp 55), type := 4, pos := "ref.go:50", after := #[{ on := 1, ground := Ground.data }], guard := none }) (v := ?_) rfl (by kernel_rfl) (by kernel_rfl) (by kernel_rfl) (fun _ _ _ h => h) (Or.inl ⟨by rfl, ?_⟩) (by assumption) ?_; rotate_left; · ((intro w hSw; (try dsimp only at hSw); go_simp) <;> with_reducible rfl)
          try simp only [Act.put, List.setIfInBounds_toArray, List.set_cons_zero, List.set_cons_succ]
          refine wpAnyH_take (i := 3) (oi := { dst := some 57, op := Op.move (Operand.tmp 56), type := 4, pos := "ref.go:50", after := #[{ on := 2, ground := Ground.data }, { on := 1, ground := Ground.chain }], guard := none }) (v := ?_) rfl (by kernel_rfl) (by kernel_rfl) (by kernel_rfl) (fun _ _ _ h => h) (Or.inl ⟨by rfl, ?_⟩) (by assumption) ?_; rotate_left; · ((intro w hSw; (try dsimp only at hSw); go_simp) <;> with_reducible rfl)
          try simp only [Act.put, List.setIfInBounds_toArray, List.set_cons_zero, List.set_cons_succ]
          refine wpAnyH_take (i := 4) (oi := { dst := some 58, op := Op.move (Operand.tmp 6), type := 21, pos := "ref.go:50", after := #[{ on := 3, ground := Ground.guard }], guard := some (3, false) }) (v := undef) rfl (by kernel_rfl) (by kernel_rfl) (by kernel_rfl) (fun _ _ _ h => h) (Or.inr ⟨by rfl, rfl⟩) (by assumption) ?_
          try simp only [Act.put, List.setIfInBounds_toArray, List.set_cons_zero, List.set_cons_succ]
          refine wpAnyH_take (i := 7) (oi := { dst := some 61, op := Op.move (Operand.tmp 0), type := 9, pos := "ref.go:50", after := #[{ on := 3, ground := Ground.guard }], guard := some (3, false) }) (v := undef) rfl (by kernel_rfl) (by kernel_rfl) (by kernel_rfl) (fun _ _ _ h => h) (Or.inr ⟨by rfl, rfl⟩) (by assumption) ?_
          try simp only [Act.put, List.setIfInBounds_toArray, List.set_cons_zero, List.set_cons_succ]
          refine wpAnyH_take (i := 8) (oi := { dst := some 62, op := Op.move (Operand.tmp 5), type := 3, pos := "ref.go:50", after := #[{ on := 3, ground := Ground.guard }], guard := some (3, false) }) (v := undef) rfl (by kernel_rfl) (by kernel_rfl) (by kernel_rfl) (fun _ _ _ h => h) (Or.inr ⟨by rfl, rfl⟩) (by assumption) ?_
          try simp only [Act.put, List.setIfInBounds_toArray, List.set_cons_zero, List.set_cons_succ]
          refine wpAnyH_take (i := 9) (oi := { dst := some 63, op := Op.slice 9 (Operand.tmp 61) none (some (Operand.tmp 62)) none, type := 9, pos := "ref.go:50", after := #[{ on := 7, ground := Ground.data }, { on := 8, ground := Ground.data }, { on := 3, ground := Ground.guard }], guard := some (3, false) }) (v := undef) rfl (by kernel_rfl) (by kernel_rfl) (by kernel_rfl) (fun _ _ _ h => h) (Or.inr ⟨by rfl, rfl⟩) (by assumption) ?_
          try simp only [Act.put, List.setIfInBounds_toArray, List.set_cons_zero, List.set_cons_succ]
          refine wpAnyH_ready (rs := [5]) (by kernel_rfl) (by simp) ?_
          refine AllReadyH.cons (o := { dst := some 59, op := Op.call { callee := Callee.value (Operand.func 80), args := #[Operand.tmp 58], argTypes := #[21] }, type := 25, pos := "ref.go:50", after := #[{ on := 4, ground := Ground.data }, { on := 3, ground := Ground.chain }, { on := 3, ground := Ground.guard }], guard := some (3, false) }) rfl (fun K hK => ?_) AllReadyH.nil
          rw [if_neg]; rotate_left; · exact fun h => Bool.noConfusion (show false = true from h)
          refine hK.out _ _ hHeld (fun hHeld => ?_)
          clear hK K
          try simp only [Act.put, List.setIfInBounds_toArray, List.set_cons_zero, List.set_cons_succ]
          refine wpAnyH_ready (rs := [6]) (by kernel_rfl) (by simp) ?_
          refine AllReadyH.cons (o := { dst := some 60, op := Op.convert 25 9 (Operand.tmp 59), type := 9, pos := "ref.go:50", after := #[{ on := 5, ground := Ground.data }, { on := 3, ground := Ground.guard }], guard := some (3, false) }) rfl (fun K hK => ?_) AllReadyH.nil
          rw [if_neg]; rotate_left; · exact fun h => Bool.noConfusion (show false = true from h)
          refine hK.out _ _ hHeld (fun hHeld => ?_)
          clear hK K
          try simp only [Act.put, List.setIfInBounds_toArray, List.set_cons_zero, List.set_cons_succ]
          refine wpAnyH_take (i := 10) (oi := { dst := some 64, op := Op.binOp BinOp.neq 9 (Operand.tmp 60) (Operand.tmp 63) 9, type := 4, pos := "ref.go:50", after := #[{ on := 6, ground := Ground.data }, { on := 9, ground := Ground.data }, { on := 3, ground := Ground.guard }], guard := some (3, false) }) (v := undef) rfl (by kernel_rfl) (by kernel_rfl) (by kernel_rfl) (fun _ _ _ h => h) (Or.inr ⟨by rfl, rfl⟩) (by assumption) ?_
          try simp only [Act.put, List.setIfInBounds_toArray, List.set_cons_zero, List.set_cons_succ]
          refine wpAnyH_take (i := 11) (oi := { dst := some 65, op := Op.pick (Operand.tmp 57) (Operand.const (Value.bool true)) (Operand.tmp 64), type := 4, pos := "ref.go:50", after := #[{ on := 3, ground := Ground.data }, { on := 10, ground := Ground.data }], guard := none }) (v := ?_) rfl (by kernel_rfl) (by kernel_rfl) (by kernel_rfl) (fun _ _ _ h => h) (Or.inl ⟨by rfl, ?_⟩) (by assumption) ?_; rotate_left; · ((intro w hSw; (try dsimp only at hSw); go_simp) <;> with_reducible rfl)
          try simp only [Act.put, List.setIfInBounds_toArray, List.set_cons_zero, List.set_cons_succ]
          refine wpAnyH_done (by kernel_rfl) ?_ _
          go_wp2_with fail
          go_ret2
          exact ⟨rfl, (Below.refl _ _).drew⟩
set_option maxHeartbeats 1000000 in
theorem rfirst_3 (l : List UInt8) (w : World) (hl : l.length ≤ 1000000) (h0 : 0 < l.length) (h1 : ¬ 240 ≤ g l 0) (h2 : 224 ≤ g l 0) :
    Calls Tryd.prog 70 #[.string ⟨l.toArray⟩] w fun e w' => e = .returned (.tuple #[.int .i32 ((first l).1 : Int), .int .i64 ((first l).2 : Int)]) ∧ Below w.heap.size w w' := by
  have hc := g_lt l 0
  have hz : sizeOf1 (g l 0) = 3 := by unfold sizeOf1; rw [if_neg (by omega), if_pos (by omega)]
  have hh : headOf (g l 0) = g l 0 - 224 := by unfold headOf; rw [if_neg (by omega), if_pos (by omega)]
  have hf : first l = if l.length < 3 then (0, 0) else if ¬ conts l 3 then (0, 0) else if right (va l (g l 0 - 224) (3 - 1)) = true ∧ enc (va l (g l 0 - 224) (3 - 1)) = l.take 3 then (va l (g l 0 - 224) (3 - 1), 3) else (0, 0) := by
    unfold first
    rw [if_neg (show ¬ l.length = 0 by omega), hz, hh]
  obtain ⟨F, hF⟩ : ∃ F, F = first l := ⟨_, rfl⟩
  rw [← hF] at hf ⊢
  clear hF
  have hsz : (⟨l.toArray⟩ : ByteArray).size = l.length := ba_size l
  have hx : ∀ k, k < l.length → ∀ w, (Instr.index 9 (.string ⟨l.toArray⟩) (.int .i64 (k : Int))).run Tryd.prog w = .ok (.int .u8 (g l k : Int)) w := fun k hk w => run_ix 9 l k hk Tryd.underlying9 w
  obtain ⟨S, hS⟩ : ∃ S : ByteArray, S = ⟨l.toArray⟩ := ⟨_, rfl⟩
  rw [← hS] at hsz hx ⊢
  have hI : ¬ ((l.length : Int) = 0) := by omega
  have hI2 := beq_no hI
  have HS := Lib.hid hS
  have Hx := Lib.hid hx
  have hx0 := fun w => (hx 0 h0 w)
  simp only [Int.cast_ofNat_Int] at hx0
  have hw0 : wrap32 (g l 0 : Int) = (g l 0 : Int) := w32 (by omega) (by omega)
  have hg0 : (g l 0 : Int) ≤ 255 := by omega
  have hn1 : ¬ 240 ≤ (g l 0 : Int) := by omega
  have hn2 : 224 ≤ (g l 0 : Int) := by omega
  have hgc := g_lt l
  have hs0 : ((g l 0 - 224 : Nat) : Int) = (g l 0 : Int) - 224 := by omega
  have Hs0 := Lib.hid hs0
  have hwm : ∀ (V k : Nat), V ≤ 100000 → cont l k → wrap32 (V * 64 : Int) = (V * 64 : Int) := fun V k h1 h2 => w32 (by omega) (by omega)
  clear hS hx hz hh hI hs0
  by_cases hlen : l.length < 3
  · rw [if_pos hlen] at hf
    subst hf
    have hlI : (l.length : Int) < 3 := by omega
    go_enter Tryd.func70, Tryd.ntmps70
    go_wp2_with fail
    go_ret2
    exact ⟨rfl, Below.refl _ _⟩
  · rw [if_neg hlen] at hf
    have hlI : ¬ (l.length : Int) < 3 := by omega
    have Hf := Lib.hid hf
    clear hf
    go_enter Tryd.func70, Tryd.ntmps70
    go_wp2_with fail
    go_loopw [6, 7] (fun v i wr => ∃ k : Nat, k + 1 ≤ 3 ∧ i = .int .i64 ((k + 1 : Nat) : Int) ∧ v = .int .i32 ((va l (g l 0 - 224) k : Nat) : Int) ∧ Hid (conts l (k + 1)) ∧ wr = w) (fun _ i _ => 3 - (intOf i).toNat)
    case atStart => exact ⟨0, by omega, rfl, by show Value.int .i32 _ = .int .i32 ((g l 0 - 224 : Nat) : Int); first | rw [Hs0.out] | rfl, Lib.hid (fun j h1 h2 => by omega), rfl⟩
    case round =>
      obtain ⟨k, hk, rfl, rfl, hcs, rfl⟩ := hrel
      have hvl := va_le l (g l 0 - 224) k hcs.out
      obtain ⟨V, hV⟩ : ∃ V, V = va l (g l 0 - 224) k := ⟨_, rfl⟩
      rw [← hV] at hvl ⊢
      have HV := Lib.hid hV
      clear hV
      by_cases hlt : k + 1 < 3
      · have hkI : ((k : Int) + 1) < 3 := by omega
        have hkl : k + 1 < l.length := by omega
        have hV1 : (V : Int) ≤ 100000 := by
          have : 64 ^ k ≤ 64 ^ 2 := Nat.pow_le_pow_right (by omega) (by omega)
          have h64 : (g l 0 - 224 + 1) * 64 ^ k ≤ 16 * 64 ^ 2 := by have hx1 : g l 0 - 224 + 1 ≤ 16 := (by omega); exact Nat.mul_le_mul hx1 this
          omega
        have hxk := Hx.out (k + 1) hkl
        obtain ⟨G, hG⟩ : ∃ G, G = g l (k + 1) := ⟨_, rfl⟩
        have hGc := hgc (k + 1)
        rw [← hG] at hxk hGc
        have HG := Lib.hid hG
        have hGI : (G : Int) ≤ 255 := by omega
        simp only [Int.natCast_add, Int.cast_ofNat_Int] at hxk
        have hwG : wrap32 (G : Int) = (G : Int) := w32 (by omega) (by omega)
        have hwV : wrap32 ((V : Int) * 64) = (V : Int) * 64 := w32 (by omega) (by omega)
        have hwS : wrap32 ((V : Int) * 64 + (G : Int)) = (V : Int) * 64 + (G : Int) := w32 (by omega) (by omega)
        clear hG hvl
        rcases (show G < 128 ∨ (128 ≤ G ∧ 191 < G) ∨ (128 ≤ G ∧ G ≤ 191) by omega) with c1 | ⟨c1, c2⟩ | ⟨c1, c2⟩
        case' inl => have c1I : (G : Int) < 128 := (by omega)
        case' inr.inl =>
          have c1I : ¬ (G : Int) < 128 := (by omega)
          have c2I : (191 : Int) < (G : Int) := (by omega)
        case' inr.inr =>
          have c1I : ¬ (G : Int) < 128 := (by omega)
          have c2I : ¬ (191 : Int) < (G : Int) := (by omega)
        case inr.inr =>
          have hwD : wrap32 ((V : Int) * 64 + (G : Int) - 128) = (V : Int) * 64 + (G : Int) - 128 := w32 (by omega) (by omega)
          have hcn : cont l (k + 1) := by unfold cont; rw [← HG.out]; omega
          have Hcn := Lib.hid (conts_succ hcs.out hcn)
          clear hcn
          go_wp2_with fail
          go_roundw
          case rel => exact ⟨k + 1, by omega, by go_num, by rw [va_succ, ← HV.out, ← HG.out]; exact congrArg _ (by omega), Hcn, (by first | rfl | trivial)⟩
          case measure => simp [intOf]; omega
        all_goals
          have hno : ¬ conts l 3 := fun h => by
            have := h (k + 1) (by omega) (by omega)
            unfold cont at this
            rw [← HG.out] at this
            omega
          have hF0 : F = (0, 0) := by rw [Hf.out, if_pos hno]
          subst hF0
          go_wp2_with fail
          go_ret2
          exact ⟨rfl, Below.refl _ _⟩
      · obtain rfl : k = 2 := by omega
        simp only [show (((2 + 1 : Nat)) : Int) = 3 from rfl]
        have hcI : conts l 3 := hcs.out
        have hf2 := Hf.out
        rw [if_neg (fun h => h hcI)] at hf2
        rw [show (3 : Nat) - 1 = 2 from rfl, ← HV.out] at hf2
        have hri := Lib.hid (show ∀ w, Calls Tryd.prog 79 #[.int .i32 (V : Int)] w fun e w' => e = .returned (.bool (right V)) ∧ w = w' from fun w => by
          have := rright_any (V : Int) w
          rw [ri_right] at this
          exact this)
        by_cases hR : right V = true
        · have hV2 : V ≤ 1114111 := by
            have h := hR
            unfold right at h
            exact (of_decide_eq_true h).1
          have hby := Lib.hid (fun w => rbytes_any V (V : Int) rfl hV2 w)
          rw [hR] at hri
          obtain ⟨X, hX⟩ : ∃ X, X = enc V := ⟨_, rfl⟩
          rw [← hX] at hby hf2
          clear hX
          by_cases hE : X = l.take 3
          · rw [if_pos ⟨hR, hE⟩] at hf2
            subst hf2
            have hex : S.extract 0 3 = ⟨X.toArray⟩ := by rw [hE, HS.out]; exact ex_take l 3
            have hbq : (X == (S.extract 0 3).toList) = true := by rw [hex, ba_list]; simp
            have HR := Lib.hid hR
            clear Hf hE hex hR
            go_wp2_with fail
            refine wp_region_held_drew (S := (fun _ => True)) (by kernel_rfl) (by trivial) (fun hHeld => ?_)
            refine wpAnyH_take (i := 0) (oi := { dst := some 54, op := Op.move (Operand.tmp 6), type := 21, pos := "ref.go:50", after := #[], guard := none }) (v := ?_) rfl (by kernel_rfl) (by kernel_rfl) (by kernel_rfl) (fun _ _ _ h => h) (Or.inl ⟨by rfl, ?_⟩) (by assumption) ?_; rotate_left; · ((intro w hSw; (try dsimp only at hSw); go_simp) <;> with_reducible rfl)
            try simp only [Act.put, List.setIfInBounds_toArray, List.set_cons_zero, List.set_cons_succ]
            refine wpAnyH_ready (rs := [1]) (by kernel_rfl) (by simp) ?_
            refine AllReadyH.cons (o := { dst := some 55, op := Op.call { callee := Callee.value (Operand.func 79), args := #[Operand.tmp 54], argTypes := #[21] }, type := 4, pos := "ref.go:50", after := #[{ on := 0, ground := Ground.data }], guard := none }) rfl (fun K hK => ?_) AllReadyH.nil
            go_simp; (first | (go_at_call 79; refine (hri.out _).mono ?_; rintro e w7 ⟨rfl, rfl⟩) | (go_at_call 80; refine (hby.out _).mono ?_; rintro e w8 ⟨A8, c8, rfl, own8, b8⟩; have hcv := run_conv_rd (P := Tryd.prog) (w := w8) 25 9 5 X.length c8 rfl Tryd.underlying25 Tryd.underlying5 Tryd.underlying9 (Rd.own own8)) | skip); (try (go_wp2_with fail)); refine hK.out _ _ (by first | trivial | ((try dsimp only); trivial)) (fun hHeld => ?_)
            clear hK K
            try simp only [Act.put, List.setIfInBounds_toArray, List.set_cons_zero, List.set_cons_succ]
            refine wpAnyH_take (i := 2) (oi := { dst := some 56, op := Op.unOp UnOp.not 4 (Operand.tmp 55), type := 4, pos := "ref.go:50", after := #[{ on := 1, ground := Ground.data }], guard := none }) (v := ?_) rfl (by kernel_rfl) (by kernel_rfl) (by kernel_rfl) (fun _ _ _ h => h) (Or.inl ⟨by rfl, ?_⟩) (by assumption) ?_; rotate_left; · ((intro w hSw; (try dsimp only at hSw); go_simp) <;> with_reducible rfl)
            try simp only [Act.put, List.setIfInBounds_toArray, List.set_cons_zero, List.set_cons_succ]
            refine wpAnyH_take (i := 3) (oi := { dst := some 57, op := Op.move (Operand.tmp 56), type := 4, pos := "ref.go:50", after := #[{ on := 2, ground := Ground.data }, { on := 1, ground := Ground.chain }], guard := none }) (v := ?_) rfl (by kernel_rfl) (by kernel_rfl) (by kernel_rfl) (fun _ _ _ h => h) (Or.inl ⟨by rfl, ?_⟩) (by assumption) ?_; rotate_left; · ((intro w hSw; (try dsimp only at hSw); go_simp) <;> with_reducible rfl)
            try simp only [Act.put, List.setIfInBounds_toArray, List.set_cons_zero, List.set_cons_succ]
            refine wpAnyH_take (i := 4) (oi := { dst := some 58, op := Op.move (Operand.tmp 6), type := 21, pos := "ref.go:50", after := #[{ on := 3, ground := Ground.guard }], guard := some (3, false) }) (v := ?_) rfl (by kernel_rfl) (by kernel_rfl) (by kernel_rfl) (fun _ _ _ h => h) (Or.inl ⟨by rfl, ?_⟩) (by assumption) ?_; rotate_left; · ((intro w hSw; (try dsimp only at hSw); go_simp) <;> with_reducible rfl)
            try simp only [Act.put, List.setIfInBounds_toArray, List.set_cons_zero, List.set_cons_succ]
            refine wpAnyH_take (i := 7) (oi := { dst := some 61, op := Op.move (Operand.tmp 0), type := 9, pos := "ref.go:50", after := #[{ on := 3, ground := Ground.guard }], guard := some (3, false) }) (v := ?_) rfl (by kernel_rfl) (by kernel_rfl) (by kernel_rfl) (fun _ _ _ h => h) (Or.inl ⟨by rfl, ?_⟩) (by assumption) ?_; rotate_left; · ((intro w hSw; (try dsimp only at hSw); go_simp) <;> with_reducible rfl)
            try simp only [Act.put, List.setIfInBounds_toArray, List.set_cons_zero, List.set_cons_succ]
            refine wpAnyH_take (i := 8) (oi := { dst := some 62, op := Op.move (Operand.tmp 5), type := 3, pos := "ref.go:50", after := #[{ on := 3, ground := Ground.guard }], guard := some (3, false) }) (v := ?_) rfl (by kernel_rfl) (by kernel_rfl) (by kernel_rfl) (fun _ _ _ h => h) (Or.inl ⟨by rfl, ?_⟩) (by assumption) ?_; rotate_left; · ((intro w hSw; (try dsimp only at hSw); go_simp) <;> with_reducible rfl)
            try simp only [Act.put, List.setIfInBounds_toArray, List.set_cons_zero, List.set_cons_succ]
            refine wpAnyH_take (i := 9) (oi := { dst := some 63, op := Op.slice 9 (Operand.tmp 61) none (some (Operand.tmp 62)) none, type := 9, pos := "ref.go:50", after := #[{ on := 7, ground := Ground.data }, { on := 8, ground := Ground.data }, { on := 3, ground := Ground.guard }], guard := some (3, false) }) (v := ?_) rfl (by kernel_rfl) (by kernel_rfl) (by kernel_rfl) (fun _ _ _ h => h) (Or.inl ⟨by rfl, ?_⟩) (by assumption) ?_; rotate_left; · ((intro w hSw; (try dsimp only at hSw); go_simp) <;> with_reducible rfl)
            try simp only [Act.put, List.setIfInBounds_toArray, List.set_cons_zero, List.set_cons_succ]
            refine wpAnyH_ready (rs := [5]) (by kernel_rfl) (by simp) ?_
            refine AllReadyH.cons (o := { dst := some 59, op := Op.call { callee := Callee.value (Operand.func 80), args := #[Operand.tmp 58], argTypes := #[21] }, type := 25, pos := "ref.go:50", after := #[{ on := 4, ground := Ground.data }, { on := 3, ground := Ground.chain }, { on := 3, ground := Ground.guard }], guard := some (3, false) }) rfl (fun K hK => ?_) AllReadyH.nil
            go_simp; (first | (go_at_call 79; refine (hri.out _).mono ?_; rintro e w7 ⟨rfl, rfl⟩) | (go_at_call 80; refine (hby.out _).mono ?_; rintro e w8 ⟨A8, c8, rfl, own8, b8⟩; have hcv := run_conv_rd (P := Tryd.prog) (w := w8) 25 9 5 X.length c8 rfl Tryd.underlying25 Tryd.underlying5 Tryd.underlying9 (Rd.own own8)) | skip); (try (go_wp2_with fail)); refine hK.out _ _ (by first | trivial | ((try dsimp only); trivial)) (fun hHeld => ?_)
            clear hK K
            try simp only [Act.put, List.setIfInBounds_toArray, List.set_cons_zero, List.set_cons_succ]
            refine wpAnyH_ready (rs := [6]) (by kernel_rfl) (by simp) ?_
            refine AllReadyH.cons (o := { dst := some 60, op := Op.convert 25 9 (Operand.tmp 59), type := 9, pos := "ref.go:50", after := #[{ on := 5, ground := Ground.data }, { on := 3, ground := Ground.guard }], guard := some (3, false) }) rfl (fun K hK => ?_) AllReadyH.nil
            go_simp; (first | (go_at_call 79; refine (hri.out _).mono ?_; rintro e w7 ⟨rfl, rfl⟩) | (go_at_call 80; refine (hby.out _).mono ?_; rintro e w8 ⟨A8, c8, rfl, own8, b8⟩; have hcv := run_conv_rd (P := Tryd.prog) (w := w8) 25 9 5 X.length c8 rfl Tryd.underlying25 Tryd.underlying5 Tryd.underlying9 (Rd.own own8)) | skip); (try (go_wp2_with fail)); refine hK.out _ _ (by first | trivial | ((try dsimp only); trivial)) (fun hHeld => ?_)
            clear hK K
            try simp only [Act.put, List.setIfInBounds_toArray, List.set_cons_zero, List.set_cons_succ]
            refine wpAnyH_take (i := 10) (oi := { dst := some 64, op := Op.binOp BinOp.neq 9 (Operand.tmp 60) (Operand.tmp 63) 9, type := 4, pos := "ref.go:50", after := #[{ on := 6, ground := Ground.data }, { on := 9, ground := Ground.data }, { on := 3, ground := Ground.guard }], guard := some (3, false) }) (v := ?_) rfl (by kernel_rfl) (by kernel_rfl) (by kernel_rfl) (fun _ _ _ h => h) (Or.inl ⟨by rfl, ?_⟩) (by assumption) ?_; rotate_left; · ((intro w hSw; (try dsimp only at hSw); go_simp) <;> with_reducible rfl)
            try simp only [Act.put, List.setIfInBounds_toArray, List.set_cons_zero, List.set_cons_succ]
            refine wpAnyH_take (i := 11) (oi := { dst := some 65, op := Op.pick (Operand.tmp 57) (Operand.const (Value.bool true)) (Operand.tmp 64), type := 4, pos := "ref.go:50", after := #[{ on := 3, ground := Ground.data }, { on := 10, ground := Ground.data }], guard := none }) (v := ?_) rfl (by kernel_rfl) (by kernel_rfl) (by kernel_rfl) (fun _ _ _ h => h) (Or.inl ⟨by rfl, ?_⟩) (by assumption) ?_; rotate_left; · ((intro w hSw; (try dsimp only at hSw); go_simp) <;> with_reducible rfl)
            try simp only [Act.put, List.setIfInBounds_toArray, List.set_cons_zero, List.set_cons_succ]
            refine wpAnyH_done (by kernel_rfl) ?_ _
            go_wp2_with fail
            go_ret2
            exact ⟨rfl, undrewB b8⟩
          · rw [if_neg (fun h => hE h.2)] at hf2
            subst hf2
            have hex : S.extract 0 3 = ⟨(l.take 3).toArray⟩ := by rw [HS.out]; exact ex_take l 3
            have hbq : (X == (S.extract 0 3).toList) = false := by
              rw [hex, ba_list, beq_eq_false_iff_ne]
              exact hE
            clear Hf hex hE hR
            go_wp2_with fail
            refine wp_region_held_drew (S := (fun _ => True)) (by kernel_rfl) (by trivial) (fun hHeld => ?_)
            refine wpAnyH_take (i := 0) (oi := { dst := some 54, op := Op.move (Operand.tmp 6), type := 21, pos := "ref.go:50", after := #[], guard := none }) (v := ?_) rfl (by kernel_rfl) (by kernel_rfl) (by kernel_rfl) (fun _ _ _ h => h) (Or.inl ⟨by rfl, ?_⟩) (by assumption) ?_; rotate_left; · ((intro w hSw; (try dsimp only at hSw); go_simp) <;> with_reducible rfl)
            try simp only [Act.put, List.setIfInBounds_toArray, List.set_cons_zero, List.set_cons_succ]
            refine wpAnyH_ready (rs := [1]) (by kernel_rfl) (by simp) ?_
            refine AllReadyH.cons (o := { dst := some 55, op := Op.call { callee := Callee.value (Operand.func 79), args := #[Operand.tmp 54], argTypes := #[21] }, type := 4, pos := "ref.go:50", after := #[{ on := 0, ground := Ground.data }], guard := none }) rfl (fun K hK => ?_) AllReadyH.nil
            go_simp; (first | (go_at_call 79; refine (hri.out _).mono ?_; rintro e w7 ⟨rfl, rfl⟩) | (go_at_call 80; refine (hby.out _).mono ?_; rintro e w8 ⟨A8, c8, rfl, own8, b8⟩; have hcv := run_conv_rd (P := Tryd.prog) (w := w8) 25 9 5 X.length c8 rfl Tryd.underlying25 Tryd.underlying5 Tryd.underlying9 (Rd.own own8)) | skip); (try (go_wp2_with fail)); refine hK.out _ _ (by first | trivial | ((try dsimp only); trivial)) (fun hHeld => ?_)
            clear hK K
            try simp only [Act.put, List.setIfInBounds_toArray, List.set_cons_zero, List.set_cons_succ]
            refine wpAnyH_take (i := 2) (oi := { dst := some 56, op := Op.unOp UnOp.not 4 (Operand.tmp 55), type := 4, pos := "ref.go:50", after := #[{ on := 1, ground := Ground.data }], guard := none }) (v := ?_) rfl (by kernel_rfl) (by kernel_rfl) (by kernel_rfl) (fun _ _ _ h => h) (Or.inl ⟨by rfl, ?_⟩) (by assumption) ?_; rotate_left; · ((intro w hSw; (try dsimp only at hSw); go_simp) <;> with_reducible rfl)
            try simp only [Act.put, List.setIfInBounds_toArray, List.set_cons_zero, List.set_cons_succ]
            refine wpAnyH_take (i := 3) (oi := { dst := some 57, op := Op.move (Operand.tmp 56), type := 4, pos := "ref.go:50", after := #[{ on := 2, ground := Ground.data }, { on := 1, ground := Ground.chain }], guard := none }) (v := ?_) rfl (by kernel_rfl) (by kernel_rfl) (by kernel_rfl) (fun _ _ _ h => h) (Or.inl ⟨by rfl, ?_⟩) (by assumption) ?_; rotate_left; · ((intro w hSw; (try dsimp only at hSw); go_simp) <;> with_reducible rfl)
            try simp only [Act.put, List.setIfInBounds_toArray, List.set_cons_zero, List.set_cons_succ]
            refine wpAnyH_take (i := 4) (oi := { dst := some 58, op := Op.move (Operand.tmp 6), type := 21, pos := "ref.go:50", after := #[{ on := 3, ground := Ground.guard }], guard := some (3, false) }) (v := ?_) rfl (by kernel_rfl) (by kernel_rfl) (by kernel_rfl) (fun _ _ _ h => h) (Or.inl ⟨by rfl, ?_⟩) (by assumption) ?_; rotate_left; · ((intro w hSw; (try dsimp only at hSw); go_simp) <;> with_reducible rfl)
            try simp only [Act.put, List.setIfInBounds_toArray, List.set_cons_zero, List.set_cons_succ]
            refine wpAnyH_take (i := 7) (oi := { dst := some 61, op := Op.move (Operand.tmp 0), type := 9, pos := "ref.go:50", after := #[{ on := 3, ground := Ground.guard }], guard := some (3, false) }) (v := ?_) rfl (by kernel_rfl) (by kernel_rfl) (by kernel_rfl) (fun _ _ _ h => h) (Or.inl ⟨by rfl, ?_⟩) (by assumption) ?_; rotate_left; · ((intro w hSw; (try dsimp only at hSw); go_simp) <;> with_reducible rfl)
            try simp only [Act.put, List.setIfInBounds_toArray, List.set_cons_zero, List.set_cons_succ]
            refine wpAnyH_take (i := 8) (oi := { dst := some 62, op := Op.move (Operand.tmp 5), type := 3, pos := "ref.go:50", after := #[{ on := 3, ground := Ground.guard }], guard := some (3, false) }) (v := ?_) rfl (by kernel_rfl) (by kernel_rfl) (by kernel_rfl) (fun _ _ _ h => h) (Or.inl ⟨by rfl, ?_⟩) (by assumption) ?_; rotate_left; · ((intro w hSw; (try dsimp only at hSw); go_simp) <;> with_reducible rfl)
            try simp only [Act.put, List.setIfInBounds_toArray, List.set_cons_zero, List.set_cons_succ]
            refine wpAnyH_take (i := 9) (oi := { dst := some 63, op := Op.slice 9 (Operand.tmp 61) none (some (Operand.tmp 62)) none, type := 9, pos := "ref.go:50", after := #[{ on := 7, ground := Ground.data }, { on := 8, ground := Ground.data }, { on := 3, ground := Ground.guard }], guard := some (3, false) }) (v := ?_) rfl (by kernel_rfl) (by kernel_rfl) (by kernel_rfl) (fun _ _ _ h => h) (Or.inl ⟨by rfl, ?_⟩) (by assumption) ?_; rotate_left; · ((intro w hSw; (try dsimp only at hSw); go_simp) <;> with_reducible rfl)
            try simp only [Act.put, List.setIfInBounds_toArray, List.set_cons_zero, List.set_cons_succ]
            refine wpAnyH_ready (rs := [5]) (by kernel_rfl) (by simp) ?_
            refine AllReadyH.cons (o := { dst := some 59, op := Op.call { callee := Callee.value (Operand.func 80), args := #[Operand.tmp 58], argTypes := #[21] }, type := 25, pos := "ref.go:50", after := #[{ on := 4, ground := Ground.data }, { on := 3, ground := Ground.chain }, { on := 3, ground := Ground.guard }], guard := some (3, false) }) rfl (fun K hK => ?_) AllReadyH.nil
            go_simp; (first | (go_at_call 79; refine (hri.out _).mono ?_; rintro e w7 ⟨rfl, rfl⟩) | (go_at_call 80; refine (hby.out _).mono ?_; rintro e w8 ⟨A8, c8, rfl, own8, b8⟩; have hcv := run_conv_rd (P := Tryd.prog) (w := w8) 25 9 5 X.length c8 rfl Tryd.underlying25 Tryd.underlying5 Tryd.underlying9 (Rd.own own8)) | skip); (try (go_wp2_with fail)); refine hK.out _ _ (by first | trivial | ((try dsimp only); trivial)) (fun hHeld => ?_)
            clear hK K
            try simp only [Act.put, List.setIfInBounds_toArray, List.set_cons_zero, List.set_cons_succ]
            refine wpAnyH_ready (rs := [6]) (by kernel_rfl) (by simp) ?_
            refine AllReadyH.cons (o := { dst := some 60, op := Op.convert 25 9 (Operand.tmp 59), type := 9, pos := "ref.go:50", after := #[{ on := 5, ground := Ground.data }, { on := 3, ground := Ground.guard }], guard := some (3, false) }) rfl (fun K hK => ?_) AllReadyH.nil
            go_simp; (first | (go_at_call 79; refine (hri.out _).mono ?_; rintro e w7 ⟨rfl, rfl⟩) | (go_at_call 80; refine (hby.out _).mono ?_; rintro e w8 ⟨A8, c8, rfl, own8, b8⟩; have hcv := run_conv_rd (P := Tryd.prog) (w := w8) 25 9 5 X.length c8 rfl Tryd.underlying25 Tryd.underlying5 Tryd.underlying9 (Rd.own own8)) | skip); (try (go_wp2_with fail)); refine hK.out _ _ (by first | trivial | ((try dsimp only); trivial)) (fun hHeld => ?_)
            clear hK K
            try simp only [Act.put, List.setIfInBounds_toArray, List.set_cons_zero, List.set_cons_succ]
            refine wpAnyH_take (i := 10) (oi := { dst := some 64, op := Op.binOp BinOp.neq 9 (Operand.tmp 60) (Operand.tmp 63) 9, type := 4, pos := "ref.go:50", after := #[{ on := 6, ground := Ground.data }, { on := 9, ground := Ground.data }, { on := 3, ground := Ground.guard }], guard := some (3, false) }) (v := ?_) rfl (by kernel_rfl) (by kernel_rfl) (by kernel_rfl) (fun _ _ _ h => h) (Or.inl ⟨by rfl, ?_⟩) (by assumption) ?_; rotate_left; · ((intro w hSw; (try dsimp only at hSw); go_simp) <;> with_reducible rfl)
            try simp only [Act.put, List.setIfInBounds_toArray, List.set_cons_zero, List.set_cons_succ]
            refine wpAnyH_take (i := 11) (oi := { dst := some 65, op := Op.pick (Operand.tmp 57) (Operand.const (Value.bool true)) (Operand.tmp 64), type := 4, pos := "ref.go:50", after := #[{ on := 3, ground := Ground.data }, { on := 10, ground := Ground.data }], guard := none }) (v := ?_) rfl (by kernel_rfl) (by kernel_rfl) (by kernel_rfl) (fun _ _ _ h => h) (Or.inl ⟨by rfl, ?_⟩) (by assumption) ?_; rotate_left; · ((intro w hSw; (try dsimp only at hSw); go_simp) <;> with_reducible rfl)
            try simp only [Act.put, List.setIfInBounds_toArray, List.set_cons_zero, List.set_cons_succ]
            refine wpAnyH_done (by kernel_rfl) ?_ _
            go_wp2_with fail
            go_ret2
            exact ⟨rfl, undrewB b8⟩
        · rw [if_neg (fun h => hR h.1)] at hf2
          subst hf2
          have hR' : right V = false := by simpa using hR
          rw [hR'] at hri
          clear Hf
          go_wp2_with fail
          refine wp_region_held_drew (S := (fun _ => True)) (by kernel_rfl) (by trivial) (fun hHeld => ?_)
          refine wpAnyH_take (i := 0) (oi := { dst := some 54, op := Op.move (Operand.tmp 6), type := 21, pos := "ref.go:50", after := #[], guard := none }) (v := ?_) rfl (by kernel_rfl) (by kernel_rfl) (by kernel_rfl) (fun _ _ _ h => h) (Or.inl ⟨by rfl, ?_⟩) (by assumption) ?_; rotate_left; · ((intro w hSw; (try dsimp only at hSw); go_simp) <;> with_reducible rfl)
          try simp only [Act.put, List.setIfInBounds_toArray, List.set_cons_zero, List.set_cons_succ]
          refine wpAnyH_ready (rs := [1]) (by kernel_rfl) (by simp) ?_
          refine AllReadyH.cons (o := { dst := some 55, op := Op.call { callee := Callee.value (Operand.func 79), args := #[Operand.tmp 54], argTypes := #[21] }, type := 4, pos := "ref.go:50", after := #[{ on := 0, ground := Ground.data }], guard := none }) rfl (fun K hK => ?_) AllReadyH.nil
          go_simp; (first | (go_at_call 79; refine (hri.out _).mono ?_; rintro e w7 ⟨rfl, rfl⟩) | skip); (try (go_wp2_with fail)); refine hK.out _ _ (by first | trivial | ((try dsimp only); trivial)) (fun hHeld => ?_)
          clear hK K
          try simp only [Act.put, List.setIfInBounds_toArray, List.set_cons_zero, List.set_cons_succ]
          refine wpAnyH_take (i := 2) (oi := { dst := some 56, op := Op.unOp UnOp.not 4 (Operand.tmp 55), type := 4, pos := "ref.go:50", after := #[{ on := 1, ground := Ground.data }], guard := none }) (v := ?_) rfl (by kernel_rfl) (by kernel_rfl) (by kernel_rfl) (fun _ _ _ h => h) (Or.inl ⟨by rfl, ?_⟩) (by assumption) ?_; rotate_left; · ((intro w hSw; (try dsimp only at hSw); go_simp) <;> with_reducible rfl)
          try simp only [Act.put, List.setIfInBounds_toArray, List.set_cons_zero, List.set_cons_succ]
          refine wpAnyH_take (i := 3) (oi := { dst := some 57, op := Op.move (Operand.tmp 56), type := 4, pos := "ref.go:50", after := #[{ on := 2, ground := Ground.data }, { on := 1, ground := Ground.chain }], guard := none }) (v := ?_) rfl (by kernel_rfl) (by kernel_rfl) (by kernel_rfl) (fun _ _ _ h => h) (Or.inl ⟨by rfl, ?_⟩) (by assumption) ?_; rotate_left; · ((intro w hSw; (try dsimp only at hSw); go_simp) <;> with_reducible rfl)
          try simp only [Act.put, List.setIfInBounds_toArray, List.set_cons_zero, List.set_cons_succ]
          refine wpAnyH_take (i := 4) (oi := { dst := some 58, op := Op.move (Operand.tmp 6), type := 21, pos := "ref.go:50", after := #[{ on := 3, ground := Ground.guard }], guard := some (3, false) }) (v := undef) rfl (by kernel_rfl) (by kernel_rfl) (by kernel_rfl) (fun _ _ _ h => h) (Or.inr ⟨by rfl, rfl⟩) (by assumption) ?_
          try simp only [Act.put, List.setIfInBounds_toArray, List.set_cons_zero, List.set_cons_succ]
          refine wpAnyH_take (i := 7) (oi := { dst := some 61, op := Op.move (Operand.tmp 0), type := 9, pos := "ref.go:50", after := #[{ on := 3, ground := Ground.guard }], guard := some (3, false) }) (v := undef) rfl (by kernel_rfl) (by kernel_rfl) (by kernel_rfl) (fun _ _ _ h => h) (Or.inr ⟨by rfl, rfl⟩) (by assumption) ?_
          try simp only [Act.put, List.setIfInBounds_toArray, List.set_cons_zero, List.set_cons_succ]
          refine wpAnyH_take (i := 8) (oi := { dst := some 62, op := Op.move (Operand.tmp 5), type := 3, pos := "ref.go:50", after := #[{ on := 3, ground := Ground.guard }], guard := some (3, false) }) (v := undef) rfl (by kernel_rfl) (by kernel_rfl) (by kernel_rfl) (fun _ _ _ h => h) (Or.inr ⟨by rfl, rfl⟩) (by assumption) ?_
          try simp only [Act.put, List.setIfInBounds_toArray, List.set_cons_zero, List.set_cons_succ]
          refine wpAnyH_take (i := 9) (oi := { dst := some 63, op := Op.slice 9 (Operand.tmp 61) none (some (Operand.tmp 62)) none, type := 9, pos := "ref.go:50", after := #[{ on := 7, ground := Ground.data }, { on := 8, ground := Ground.data }, { on := 3, ground := Ground.guard }], guard := some (3, false) }) (v := undef) rfl (by kernel_rfl) (by kernel_rfl) (by kernel_rfl) (fun _ _ _ h => h) (Or.inr ⟨by rfl, rfl⟩) (by assumption) ?_
          try simp only [Act.put, List.setIfInBounds_toArray, List.set_cons_zero, List.set_cons_succ]
          refine wpAnyH_ready (rs := [5]) (by kernel_rfl) (by simp) ?_
          refine AllReadyH.cons (o := { dst := some 59, op := Op.call { callee := Callee.value (Operand.func 80), args := #[Operand.tmp 58], argTypes := #[21] }, type := 25, pos := "ref.go:50", after := #[{ on := 4, ground := Ground.data }, { on := 3, ground := Ground.chain }, { on := 3, ground := Ground.guard }], guard := some (3, false) }) rfl (fun K hK => ?_) AllReadyH.nil
          rw [if_neg]; rotate_left; · exact fun h => Bool.noConfusion (show false = true from h)
          refine hK.out _ _ hHeld (fun hHeld => ?_)
          clear hK K
          try simp only [Act.put, List.setIfInBounds_toArray, List.set_cons_zero, List.set_cons_succ]
          refine wpAnyH_ready (rs := [6]) (by kernel_rfl) (by simp) ?_
          refine AllReadyH.cons (o := { dst := some 60, op := Op.convert 25 9 (Operand.tmp 59), type := 9, pos := "ref.go:50", after := #[{ on := 5, ground := Ground.data }, { on := 3, ground := Ground.guard }], guard := some (3, false) }) rfl (fun K hK => ?_) AllReadyH.nil
          rw [if_neg]; rotate_left; · exact fun h => Bool.noConfusion (show false = true from h)
          refine hK.out _ _ hHeld (fun hHeld => ?_)
          clear hK K
          try simp only [Act.put, List.setIfInBounds_toArray, List.set_cons_zero, List.set_cons_succ]
          refine wpAnyH_take (i := 10) (oi := { dst := some 64, op := Op.binOp BinOp.neq 9 (Operand.tmp 60) (Operand.tmp 63) 9, type := 4, pos := "ref.go:50", after := #[{ on := 6, ground := Ground.data }, { on := 9, ground := Ground.data }, { on := 3, ground := Ground.guard }], guard := some (3, false) }) (v := undef) rfl (by kernel_rfl) (by kernel_rfl) (by kernel_rfl) (fun _ _ _ h => h) (Or.inr ⟨by rfl, rfl⟩) (by assumption) ?_
          try simp only [Act.put, List.setIfInBounds_toArray, List.set_cons_zero, List.set_cons_succ]
          refine wpAnyH_take (i := 11) (oi := { dst := some 65, op := Op.pick (Operand.tmp 57) (Operand.const (Value.bool true)) (Operand.tmp 64), type := 4, pos := "ref.go:50", after := #[{ on := 3, ground := Ground.data }, { on := 10, ground := Ground.data }], guard := none }) (v := ?_) rfl (by kernel_rfl) (by kernel_rfl) (by kernel_rfl) (fun _ _ _ h => h) (Or.inl ⟨by rfl, ?_⟩) (by assumption) ?_; rotate_left; · ((intro w hSw; (try dsimp only at hSw); go_simp) <;> with_reducible rfl)
          try simp only [Act.put, List.setIfInBounds_toArray, List.set_cons_zero, List.set_cons_succ]
          refine wpAnyH_done (by kernel_rfl) ?_ _
          go_wp2_with fail
          go_ret2
          exact ⟨rfl, (Below.refl _ _).drew⟩
set_option maxHeartbeats 1000000 in
theorem rfirst_4 (l : List UInt8) (w : World) (hl : l.length ≤ 1000000) (h0 : 0 < l.length) (h1 : 240 ≤ g l 0) :
    Calls Tryd.prog 70 #[.string ⟨l.toArray⟩] w fun e w' => e = .returned (.tuple #[.int .i32 ((first l).1 : Int), .int .i64 ((first l).2 : Int)]) ∧ Below w.heap.size w w' := by
  have hc := g_lt l 0
  have hz : sizeOf1 (g l 0) = 4 := by unfold sizeOf1; rw [if_pos (by omega)]
  have hh : headOf (g l 0) = g l 0 - 240 := by unfold headOf; rw [if_pos (by omega)]
  have hf : first l = if l.length < 4 then (0, 0) else if ¬ conts l 4 then (0, 0) else if right (va l (g l 0 - 240) (4 - 1)) = true ∧ enc (va l (g l 0 - 240) (4 - 1)) = l.take 4 then (va l (g l 0 - 240) (4 - 1), 4) else (0, 0) := by
    unfold first
    rw [if_neg (show ¬ l.length = 0 by omega), hz, hh]
  obtain ⟨F, hF⟩ : ∃ F, F = first l := ⟨_, rfl⟩
  rw [← hF] at hf ⊢
  clear hF
  have hsz : (⟨l.toArray⟩ : ByteArray).size = l.length := ba_size l
  have hx : ∀ k, k < l.length → ∀ w, (Instr.index 9 (.string ⟨l.toArray⟩) (.int .i64 (k : Int))).run Tryd.prog w = .ok (.int .u8 (g l k : Int)) w := fun k hk w => run_ix 9 l k hk Tryd.underlying9 w
  obtain ⟨S, hS⟩ : ∃ S : ByteArray, S = ⟨l.toArray⟩ := ⟨_, rfl⟩
  rw [← hS] at hsz hx ⊢
  have hI : ¬ ((l.length : Int) = 0) := by omega
  have hI2 := beq_no hI
  have HS := Lib.hid hS
  have Hx := Lib.hid hx
  have hx0 := fun w => (hx 0 h0 w)
  simp only [Int.cast_ofNat_Int] at hx0
  have hw0 : wrap32 (g l 0 : Int) = (g l 0 : Int) := w32 (by omega) (by omega)
  have hg0 : (g l 0 : Int) ≤ 255 := by omega
  have hn1 : 240 ≤ (g l 0 : Int) := by omega
  have hgc := g_lt l
  have hs0 : ((g l 0 - 240 : Nat) : Int) = (g l 0 : Int) - 240 := by omega
  have Hs0 := Lib.hid hs0
  have hwm : ∀ (V k : Nat), V ≤ 100000 → cont l k → wrap32 (V * 64 : Int) = (V * 64 : Int) := fun V k h1 h2 => w32 (by omega) (by omega)
  clear hS hx hz hh hI hs0
  by_cases hlen : l.length < 4
  · rw [if_pos hlen] at hf
    subst hf
    have hlI : (l.length : Int) < 4 := by omega
    go_enter Tryd.func70, Tryd.ntmps70
    go_wp2_with fail
    go_ret2
    exact ⟨rfl, Below.refl _ _⟩
  · rw [if_neg hlen] at hf
    have hlI : ¬ (l.length : Int) < 4 := by omega
    have Hf := Lib.hid hf
    clear hf
    go_enter Tryd.func70, Tryd.ntmps70
    go_wp2_with fail
    go_loopw [6, 7] (fun v i wr => ∃ k : Nat, k + 1 ≤ 4 ∧ i = .int .i64 ((k + 1 : Nat) : Int) ∧ v = .int .i32 ((va l (g l 0 - 240) k : Nat) : Int) ∧ Hid (conts l (k + 1)) ∧ wr = w) (fun _ i _ => 4 - (intOf i).toNat)
    case atStart => exact ⟨0, by omega, rfl, by show Value.int .i32 _ = .int .i32 ((g l 0 - 240 : Nat) : Int); first | rw [Hs0.out] | rfl, Lib.hid (fun j h1 h2 => by omega), rfl⟩
    case round =>
      obtain ⟨k, hk, rfl, rfl, hcs, rfl⟩ := hrel
      have hvl := va_le l (g l 0 - 240) k hcs.out
      obtain ⟨V, hV⟩ : ∃ V, V = va l (g l 0 - 240) k := ⟨_, rfl⟩
      rw [← hV] at hvl ⊢
      have HV := Lib.hid hV
      clear hV
      by_cases hlt : k + 1 < 4
      · have hkI : ((k : Int) + 1) < 4 := by omega
        have hkl : k + 1 < l.length := by omega
        have hV1 : (V : Int) ≤ 100000 := by
          have : 64 ^ k ≤ 64 ^ 2 := Nat.pow_le_pow_right (by omega) (by omega)
          have h64 : (g l 0 - 240 + 1) * 64 ^ k ≤ 16 * 64 ^ 2 := by have hx1 : g l 0 - 240 + 1 ≤ 16 := (by omega); exact Nat.mul_le_mul hx1 this
          omega
        have hxk := Hx.out (k + 1) hkl
        obtain ⟨G, hG⟩ : ∃ G, G = g l (k + 1) := ⟨_, rfl⟩
        have hGc := hgc (k + 1)
        rw [← hG] at hxk hGc
        have HG := Lib.hid hG
        have hGI : (G : Int) ≤ 255 := by omega
        simp only [Int.natCast_add, Int.cast_ofNat_Int] at hxk
        have hwG : wrap32 (G : Int) = (G : Int) := w32 (by omega) (by omega)
        have hwV : wrap32 ((V : Int) * 64) = (V : Int) * 64 := w32 (by omega) (by omega)
        have hwS : wrap32 ((V : Int) * 64 + (G : Int)) = (V : Int) * 64 + (G : Int) := w32 (by omega) (by omega)
        clear hG hvl
        rcases (show G < 128 ∨ (128 ≤ G ∧ 191 < G) ∨ (128 ≤ G ∧ G ≤ 191) by omega) with c1 | ⟨c1, c2⟩ | ⟨c1, c2⟩
        case' inl => have c1I : (G : Int) < 128 := (by omega)
        case' inr.inl =>
          have c1I : ¬ (G : Int) < 128 := (by omega)
          have c2I : (191 : Int) < (G : Int) := (by omega)
        case' inr.inr =>
          have c1I : ¬ (G : Int) < 128 := (by omega)
          have c2I : ¬ (191 : Int) < (G : Int) := (by omega)
        case inr.inr =>
          have hwD : wrap32 ((V : Int) * 64 + (G : Int) - 128) = (V : Int) * 64 + (G : Int) - 128 := w32 (by omega) (by omega)
          have hcn : cont l (k + 1) := by unfold cont; rw [← HG.out]; omega
          have Hcn := Lib.hid (conts_succ hcs.out hcn)
          clear hcn
          go_wp2_with fail
          go_roundw
          case rel => exact ⟨k + 1, by omega, by go_num, by rw [va_succ, ← HV.out, ← HG.out]; exact congrArg _ (by omega), Hcn, (by first | rfl | trivial)⟩
          case measure => simp [intOf]; omega
        all_goals
          have hno : ¬ conts l 4 := fun h => by
            have := h (k + 1) (by omega) (by omega)
            unfold cont at this
            rw [← HG.out] at this
            omega
          have hF0 : F = (0, 0) := by rw [Hf.out, if_pos hno]
          subst hF0
          go_wp2_with fail
          go_ret2
          exact ⟨rfl, Below.refl _ _⟩
      · obtain rfl : k = 3 := by omega
        simp only [show (((3 + 1 : Nat)) : Int) = 4 from rfl]
        have hcI : conts l 4 := hcs.out
        have hf2 := Hf.out
        rw [if_neg (fun h => h hcI)] at hf2
        rw [show (4 : Nat) - 1 = 3 from rfl, ← HV.out] at hf2
        have hri := Lib.hid (show ∀ w, Calls Tryd.prog 79 #[.int .i32 (V : Int)] w fun e w' => e = .returned (.bool (right V)) ∧ w = w' from fun w => by
          have := rright_any (V : Int) w
          rw [ri_right] at this
          exact this)
        by_cases hR : right V = true
        · have hV2 : V ≤ 1114111 := by
            have h := hR
            unfold right at h
            exact (of_decide_eq_true h).1
          have hby := Lib.hid (fun w => rbytes_any V (V : Int) rfl hV2 w)
          rw [hR] at hri
          obtain ⟨X, hX⟩ : ∃ X, X = enc V := ⟨_, rfl⟩
          rw [← hX] at hby hf2
          clear hX
          by_cases hE : X = l.take 4
          · rw [if_pos ⟨hR, hE⟩] at hf2
            subst hf2
            have hex : S.extract 0 4 = ⟨X.toArray⟩ := by rw [hE, HS.out]; exact ex_take l 4
            have hbq : (X == (S.extract 0 4).toList) = true := by rw [hex, ba_list]; simp
            have HR := Lib.hid hR
            clear Hf hE hex hR
            go_wp2_with fail
            refine wp_region_held_drew (S := (fun _ => True)) (by kernel_rfl) (by trivial) (fun hHeld => ?_)
            refine wpAnyH_take (i := 0) (oi := { dst := some 54, op := Op.move (Operand.tmp 6), type := 21, pos := "ref.go:50", after := #[], guard := none }) (v := ?_) rfl (by kernel_rfl) (by kernel_rfl) (by kernel_rfl) (fun _ _ _ h => h) (Or.inl ⟨by rfl, ?_⟩) (by assumption) ?_; rotate_left; · ((intro w hSw; (try dsimp only at hSw); go_simp) <;> with_reducible rfl)
            try simp only [Act.put, List.setIfInBounds_toArray, List.set_cons_zero, List.set_cons_succ]
            refine wpAnyH_ready (rs := [1]) (by kernel_rfl) (by simp) ?_
            refine AllReadyH.cons (o := { dst := some 55, op := Op.call { callee := Callee.value (Operand.func 79), args := #[Operand.tmp 54], argTypes := #[21] }, type := 4, pos := "ref.go:50", after := #[{ on := 0, ground := Ground.data }], guard := none }) rfl (fun K hK => ?_) AllReadyH.nil
            go_simp; (first | (go_at_call 79; refine (hri.out _).mono ?_; rintro e w7 ⟨rfl, rfl⟩) | (go_at_call 80; refine (hby.out _).mono ?_; rintro e w8 ⟨A8, c8, rfl, own8, b8⟩; have hcv := run_conv_rd (P := Tryd.prog) (w := w8) 25 9 5 X.length c8 rfl Tryd.underlying25 Tryd.underlying5 Tryd.underlying9 (Rd.own own8)) | skip); (try (go_wp2_with fail)); refine hK.out _ _ (by first | trivial | ((try dsimp only); trivial)) (fun hHeld => ?_)
            clear hK K
            try simp only [Act.put, List.setIfInBounds_toArray, List.set_cons_zero, List.set_cons_succ]
            refine wpAnyH_take (i := 2) (oi := { dst := some 56, op := Op.unOp UnOp.not 4 (Operand.tmp 55), type := 4, pos := "ref.go:50", after := #[{ on := 1, ground := Ground.data }], guard := none }) (v := ?_) rfl (by kernel_rfl) (by kernel_rfl) (by kernel_rfl) (fun _ _ _ h => h) (Or.inl ⟨by rfl, ?_⟩) (by assumption) ?_; rotate_left; · ((intro w hSw; (try dsimp only at hSw); go_simp) <;> with_reducible rfl)
            try simp only [Act.put, List.setIfInBounds_toArray, List.set_cons_zero, List.set_cons_succ]
            refine wpAnyH_take (i := 3) (oi := { dst := some 57, op := Op.move (Operand.tmp 56), type := 4, pos := "ref.go:50", after := #[{ on := 2, ground := Ground.data }, { on := 1, ground := Ground.chain }], guard := none }) (v := ?_) rfl (by kernel_rfl) (by kernel_rfl) (by kernel_rfl) (fun _ _ _ h => h) (Or.inl ⟨by rfl, ?_⟩) (by assumption) ?_; rotate_left; · ((intro w hSw; (try dsimp only at hSw); go_simp) <;> with_reducible rfl)
            try simp only [Act.put, List.setIfInBounds_toArray, List.set_cons_zero, List.set_cons_succ]
            refine wpAnyH_take (i := 4) (oi := { dst := some 58, op := Op.move (Operand.tmp 6), type := 21, pos := "ref.go:50", after := #[{ on := 3, ground := Ground.guard }], guard := some (3, false) }) (v := ?_) rfl (by kernel_rfl) (by kernel_rfl) (by kernel_rfl) (fun _ _ _ h => h) (Or.inl ⟨by rfl, ?_⟩) (by assumption) ?_; rotate_left; · ((intro w hSw; (try dsimp only at hSw); go_simp) <;> with_reducible rfl)
            try simp only [Act.put, List.setIfInBounds_toArray, List.set_cons_zero, List.set_cons_succ]
            refine wpAnyH_take (i := 7) (oi := { dst := some 61, op := Op.move (Operand.tmp 0), type := 9, pos := "ref.go:50", after := #[{ on := 3, ground := Ground.guard }], guard := some (3, false) }) (v := ?_) rfl (by kernel_rfl) (by kernel_rfl) (by kernel_rfl) (fun _ _ _ h => h) (Or.inl ⟨by rfl, ?_⟩) (by assumption) ?_; rotate_left; · ((intro w hSw; (try dsimp only at hSw); go_simp) <;> with_reducible rfl)
            try simp only [Act.put, List.setIfInBounds_toArray, List.set_cons_zero, List.set_cons_succ]
            refine wpAnyH_take (i := 8) (oi := { dst := some 62, op := Op.move (Operand.tmp 5), type := 3, pos := "ref.go:50", after := #[{ on := 3, ground := Ground.guard }], guard := some (3, false) }) (v := ?_) rfl (by kernel_rfl) (by kernel_rfl) (by kernel_rfl) (fun _ _ _ h => h) (Or.inl ⟨by rfl, ?_⟩) (by assumption) ?_; rotate_left; · ((intro w hSw; (try dsimp only at hSw); go_simp) <;> with_reducible rfl)
            try simp only [Act.put, List.setIfInBounds_toArray, List.set_cons_zero, List.set_cons_succ]
            refine wpAnyH_take (i := 9) (oi := { dst := some 63, op := Op.slice 9 (Operand.tmp 61) none (some (Operand.tmp 62)) none, type := 9, pos := "ref.go:50", after := #[{ on := 7, ground := Ground.data }, { on := 8, ground := Ground.data }, { on := 3, ground := Ground.guard }], guard := some (3, false) }) (v := ?_) rfl (by kernel_rfl) (by kernel_rfl) (by kernel_rfl) (fun _ _ _ h => h) (Or.inl ⟨by rfl, ?_⟩) (by assumption) ?_; rotate_left; · ((intro w hSw; (try dsimp only at hSw); go_simp) <;> with_reducible rfl)
            try simp only [Act.put, List.setIfInBounds_toArray, List.set_cons_zero, List.set_cons_succ]
            refine wpAnyH_ready (rs := [5]) (by kernel_rfl) (by simp) ?_
            refine AllReadyH.cons (o := { dst := some 59, op := Op.call { callee := Callee.value (Operand.func 80), args := #[Operand.tmp 58], argTypes := #[21] }, type := 25, pos := "ref.go:50", after := #[{ on := 4, ground := Ground.data }, { on := 3, ground := Ground.chain }, { on := 3, ground := Ground.guard }], guard := some (3, false) }) rfl (fun K hK => ?_) AllReadyH.nil
            go_simp; (first | (go_at_call 79; refine (hri.out _).mono ?_; rintro e w7 ⟨rfl, rfl⟩) | (go_at_call 80; refine (hby.out _).mono ?_; rintro e w8 ⟨A8, c8, rfl, own8, b8⟩; have hcv := run_conv_rd (P := Tryd.prog) (w := w8) 25 9 5 X.length c8 rfl Tryd.underlying25 Tryd.underlying5 Tryd.underlying9 (Rd.own own8)) | skip); (try (go_wp2_with fail)); refine hK.out _ _ (by first | trivial | ((try dsimp only); trivial)) (fun hHeld => ?_)
            clear hK K
            try simp only [Act.put, List.setIfInBounds_toArray, List.set_cons_zero, List.set_cons_succ]
            refine wpAnyH_ready (rs := [6]) (by kernel_rfl) (by simp) ?_
            refine AllReadyH.cons (o := { dst := some 60, op := Op.convert 25 9 (Operand.tmp 59), type := 9, pos := "ref.go:50", after := #[{ on := 5, ground := Ground.data }, { on := 3, ground := Ground.guard }], guard := some (3, false) }) rfl (fun K hK => ?_) AllReadyH.nil
            go_simp; (first | (go_at_call 79; refine (hri.out _).mono ?_; rintro e w7 ⟨rfl, rfl⟩) | (go_at_call 80; refine (hby.out _).mono ?_; rintro e w8 ⟨A8, c8, rfl, own8, b8⟩; have hcv := run_conv_rd (P := Tryd.prog) (w := w8) 25 9 5 X.length c8 rfl Tryd.underlying25 Tryd.underlying5 Tryd.underlying9 (Rd.own own8)) | skip); (try (go_wp2_with fail)); refine hK.out _ _ (by first | trivial | ((try dsimp only); trivial)) (fun hHeld => ?_)
            clear hK K
            try simp only [Act.put, List.setIfInBounds_toArray, List.set_cons_zero, List.set_cons_succ]
            refine wpAnyH_take (i := 10) (oi := { dst := some 64, op := Op.binOp BinOp.neq 9 (Operand.tmp 60) (Operand.tmp 63) 9, type := 4, pos := "ref.go:50", after := #[{ on := 6, ground := Ground.data }, { on := 9, ground := Ground.data }, { on := 3, ground := Ground.guard }], guard := some (3, false) }) (v := ?_) rfl (by kernel_rfl) (by kernel_rfl) (by kernel_rfl) (fun _ _ _ h => h) (Or.inl ⟨by rfl, ?_⟩) (by assumption) ?_; rotate_left; · ((intro w hSw; (try dsimp only at hSw); go_simp) <;> with_reducible rfl)
            try simp only [Act.put, List.setIfInBounds_toArray, List.set_cons_zero, List.set_cons_succ]
            refine wpAnyH_take (i := 11) (oi := { dst := some 65, op := Op.pick (Operand.tmp 57) (Operand.const (Value.bool true)) (Operand.tmp 64), type := 4, pos := "ref.go:50", after := #[{ on := 3, ground := Ground.data }, { on := 10, ground := Ground.data }], guard := none }) (v := ?_) rfl (by kernel_rfl) (by kernel_rfl) (by kernel_rfl) (fun _ _ _ h => h) (Or.inl ⟨by rfl, ?_⟩) (by assumption) ?_; rotate_left; · ((intro w hSw; (try dsimp only at hSw); go_simp) <;> with_reducible rfl)
            try simp only [Act.put, List.setIfInBounds_toArray, List.set_cons_zero, List.set_cons_succ]
            refine wpAnyH_done (by kernel_rfl) ?_ _
            go_wp2_with fail
            go_ret2
            exact ⟨rfl, undrewB b8⟩
          · rw [if_neg (fun h => hE h.2)] at hf2
            subst hf2
            have hex : S.extract 0 4 = ⟨(l.take 4).toArray⟩ := by rw [HS.out]; exact ex_take l 4
            have hbq : (X == (S.extract 0 4).toList) = false := by
              rw [hex, ba_list, beq_eq_false_iff_ne]
              exact hE
            clear Hf hex hE hR
            go_wp2_with fail
            refine wp_region_held_drew (S := (fun _ => True)) (by kernel_rfl) (by trivial) (fun hHeld => ?_)
            refine wpAnyH_take (i := 0) (oi := { dst := some 54, op := Op.move (Operand.tmp 6), type := 21, pos := "ref.go:50", after := #[], guard := none }) (v := ?_) rfl (by kernel_rfl) (by kernel_rfl) (by kernel_rfl) (fun _ _ _ h => h) (Or.inl ⟨by rfl, ?_⟩) (by assumption) ?_; rotate_left; · ((intro w hSw; (try dsimp only at hSw); go_simp) <;> with_reducible rfl)
            try simp only [Act.put, List.setIfInBounds_toArray, List.set_cons_zero, List.set_cons_succ]
            refine wpAnyH_ready (rs := [1]) (by kernel_rfl) (by simp) ?_
            refine AllReadyH.cons (o := { dst := some 55, op := Op.call { callee := Callee.value (Operand.func 79), args := #[Operand.tmp 54], argTypes := #[21] }, type := 4, pos := "ref.go:50", after := #[{ on := 0, ground := Ground.data }], guard := none }) rfl (fun K hK => ?_) AllReadyH.nil
            go_simp; (first | (go_at_call 79; refine (hri.out _).mono ?_; rintro e w7 ⟨rfl, rfl⟩) | (go_at_call 80; refine (hby.out _).mono ?_; rintro e w8 ⟨A8, c8, rfl, own8, b8⟩; have hcv := run_conv_rd (P := Tryd.prog) (w := w8) 25 9 5 X.length c8 rfl Tryd.underlying25 Tryd.underlying5 Tryd.underlying9 (Rd.own own8)) | skip); (try (go_wp2_with fail)); refine hK.out _ _ (by first | trivial | ((try dsimp only); trivial)) (fun hHeld => ?_)
            clear hK K
            try simp only [Act.put, List.setIfInBounds_toArray, List.set_cons_zero, List.set_cons_succ]
            refine wpAnyH_take (i := 2) (oi := { dst := some 56, op := Op.unOp UnOp.not 4 (Operand.tmp 55), type := 4, pos := "ref.go:50", after := #[{ on := 1, ground := Ground.data }], guard := none }) (v := ?_) rfl (by kernel_rfl) (by kernel_rfl) (by kernel_rfl) (fun _ _ _ h => h) (Or.inl ⟨by rfl, ?_⟩) (by assumption) ?_; rotate_left; · ((intro w hSw; (try dsimp only at hSw); go_simp) <;> with_reducible rfl)
            try simp only [Act.put, List.setIfInBounds_toArray, List.set_cons_zero, List.set_cons_succ]
            refine wpAnyH_take (i := 3) (oi := { dst := some 57, op := Op.move (Operand.tmp 56), type := 4, pos := "ref.go:50", after := #[{ on := 2, ground := Ground.data }, { on := 1, ground := Ground.chain }], guard := none }) (v := ?_) rfl (by kernel_rfl) (by kernel_rfl) (by kernel_rfl) (fun _ _ _ h => h) (Or.inl ⟨by rfl, ?_⟩) (by assumption) ?_; rotate_left; · ((intro w hSw; (try dsimp only at hSw); go_simp) <;> with_reducible rfl)
            try simp only [Act.put, List.setIfInBounds_toArray, List.set_cons_zero, List.set_cons_succ]
            refine wpAnyH_take (i := 4) (oi := { dst := some 58, op := Op.move (Operand.tmp 6), type := 21, pos := "ref.go:50", after := #[{ on := 3, ground := Ground.guard }], guard := some (3, false) }) (v := ?_) rfl (by kernel_rfl) (by kernel_rfl) (by kernel_rfl) (fun _ _ _ h => h) (Or.inl ⟨by rfl, ?_⟩) (by assumption) ?_; rotate_left; · ((intro w hSw; (try dsimp only at hSw); go_simp) <;> with_reducible rfl)
            try simp only [Act.put, List.setIfInBounds_toArray, List.set_cons_zero, List.set_cons_succ]
            refine wpAnyH_take (i := 7) (oi := { dst := some 61, op := Op.move (Operand.tmp 0), type := 9, pos := "ref.go:50", after := #[{ on := 3, ground := Ground.guard }], guard := some (3, false) }) (v := ?_) rfl (by kernel_rfl) (by kernel_rfl) (by kernel_rfl) (fun _ _ _ h => h) (Or.inl ⟨by rfl, ?_⟩) (by assumption) ?_; rotate_left; · ((intro w hSw; (try dsimp only at hSw); go_simp) <;> with_reducible rfl)
            try simp only [Act.put, List.setIfInBounds_toArray, List.set_cons_zero, List.set_cons_succ]
            refine wpAnyH_take (i := 8) (oi := { dst := some 62, op := Op.move (Operand.tmp 5), type := 3, pos := "ref.go:50", after := #[{ on := 3, ground := Ground.guard }], guard := some (3, false) }) (v := ?_) rfl (by kernel_rfl) (by kernel_rfl) (by kernel_rfl) (fun _ _ _ h => h) (Or.inl ⟨by rfl, ?_⟩) (by assumption) ?_; rotate_left; · ((intro w hSw; (try dsimp only at hSw); go_simp) <;> with_reducible rfl)
            try simp only [Act.put, List.setIfInBounds_toArray, List.set_cons_zero, List.set_cons_succ]
            refine wpAnyH_take (i := 9) (oi := { dst := some 63, op := Op.slice 9 (Operand.tmp 61) none (some (Operand.tmp 62)) none, type := 9, pos := "ref.go:50", after := #[{ on := 7, ground := Ground.data }, { on := 8, ground := Ground.data }, { on := 3, ground := Ground.guard }], guard := some (3, false) }) (v := ?_) rfl (by kernel_rfl) (by kernel_rfl) (by kernel_rfl) (fun _ _ _ h => h) (Or.inl ⟨by rfl, ?_⟩) (by assumption) ?_; rotate_left; · ((intro w hSw; (try dsimp only at hSw); go_simp) <;> with_reducible rfl)
            try simp only [Act.put, List.setIfInBounds_toArray, List.set_cons_zero, List.set_cons_succ]
            refine wpAnyH_ready (rs := [5]) (by kernel_rfl) (by simp) ?_
            refine AllReadyH.cons (o := { dst := some 59, op := Op.call { callee := Callee.value (Operand.func 80), args := #[Operand.tmp 58], argTypes := #[21] }, type := 25, pos := "ref.go:50", after := #[{ on := 4, ground := Ground.data }, { on := 3, ground := Ground.chain }, { on := 3, ground := Ground.guard }], guard := some (3, false) }) rfl (fun K hK => ?_) AllReadyH.nil
            go_simp; (first | (go_at_call 79; refine (hri.out _).mono ?_; rintro e w7 ⟨rfl, rfl⟩) | (go_at_call 80; refine (hby.out _).mono ?_; rintro e w8 ⟨A8, c8, rfl, own8, b8⟩; have hcv := run_conv_rd (P := Tryd.prog) (w := w8) 25 9 5 X.length c8 rfl Tryd.underlying25 Tryd.underlying5 Tryd.underlying9 (Rd.own own8)) | skip); (try (go_wp2_with fail)); refine hK.out _ _ (by first | trivial | ((try dsimp only); trivial)) (fun hHeld => ?_)
            clear hK K
            try simp only [Act.put, List.setIfInBounds_toArray, List.set_cons_zero, List.set_cons_succ]
            refine wpAnyH_ready (rs := [6]) (by kernel_rfl) (by simp) ?_
            refine AllReadyH.cons (o := { dst := some 60, op := Op.convert 25 9 (Operand.tmp 59), type := 9, pos := "ref.go:50", after := #[{ on := 5, ground := Ground.data }, { on := 3, ground := Ground.guard }], guard := some (3, false) }) rfl (fun K hK => ?_) AllReadyH.nil
            go_simp; (first | (go_at_call 79; refine (hri.out _).mono ?_; rintro e w7 ⟨rfl, rfl⟩) | (go_at_call 80; refine (hby.out _).mono ?_; rintro e w8 ⟨A8, c8, rfl, own8, b8⟩; have hcv := run_conv_rd (P := Tryd.prog) (w := w8) 25 9 5 X.length c8 rfl Tryd.underlying25 Tryd.underlying5 Tryd.underlying9 (Rd.own own8)) | skip); (try (go_wp2_with fail)); refine hK.out _ _ (by first | trivial | ((try dsimp only); trivial)) (fun hHeld => ?_)
            clear hK K
            try simp only [Act.put, List.setIfInBounds_toArray, List.set_cons_zero, List.set_cons_succ]
            refine wpAnyH_take (i := 10) (oi := { dst := some 64, op := Op.binOp BinOp.neq 9 (Operand.tmp 60) (Operand.tmp 63) 9, type := 4, pos := "ref.go:50", after := #[{ on := 6, ground := Ground.data }, { on := 9, ground := Ground.data }, { on := 3, ground := Ground.guard }], guard := some (3, false) }) (v := ?_) rfl (by kernel_rfl) (by kernel_rfl) (by kernel_rfl) (fun _ _ _ h => h) (Or.inl ⟨by rfl, ?_⟩) (by assumption) ?_; rotate_left; · ((intro w hSw; (try dsimp only at hSw); go_simp) <;> with_reducible rfl)
            try simp only [Act.put, List.setIfInBounds_toArray, List.set_cons_zero, List.set_cons_succ]
            refine wpAnyH_take (i := 11) (oi := { dst := some 65, op := Op.pick (Operand.tmp 57) (Operand.const (Value.bool true)) (Operand.tmp 64), type := 4, pos := "ref.go:50", after := #[{ on := 3, ground := Ground.data }, { on := 10, ground := Ground.data }], guard := none }) (v := ?_) rfl (by kernel_rfl) (by kernel_rfl) (by kernel_rfl) (fun _ _ _ h => h) (Or.inl ⟨by rfl, ?_⟩) (by assumption) ?_; rotate_left; · ((intro w hSw; (try dsimp only at hSw); go_simp) <;> with_reducible rfl)
            try simp only [Act.put, List.setIfInBounds_toArray, List.set_cons_zero, List.set_cons_succ]
            refine wpAnyH_done (by kernel_rfl) ?_ _
            go_wp2_with fail
            go_ret2
            exact ⟨rfl, undrewB b8⟩
        · rw [if_neg (fun h => hR h.1)] at hf2
          subst hf2
          have hR' : right V = false := by simpa using hR
          rw [hR'] at hri
          clear Hf
          go_wp2_with fail
          refine wp_region_held_drew (S := (fun _ => True)) (by kernel_rfl) (by trivial) (fun hHeld => ?_)
          refine wpAnyH_take (i := 0) (oi := { dst := some 54, op := Op.move (Operand.tmp 6), type := 21, pos := "ref.go:50", after := #[], guard := none }) (v := ?_) rfl (by kernel_rfl) (by kernel_rfl) (by kernel_rfl) (fun _ _ _ h => h) (Or.inl ⟨by rfl, ?_⟩) (by assumption) ?_; rotate_left; · ((intro w hSw; (try dsimp only at hSw); go_simp) <;> with_reducible rfl)
          try simp only [Act.put, List.setIfInBounds_toArray, List.set_cons_zero, List.set_cons_succ]
          refine wpAnyH_ready (rs := [1]) (by kernel_rfl) (by simp) ?_
          refine AllReadyH.cons (o := { dst := some 55, op := Op.call { callee := Callee.value (Operand.func 79), args := #[Operand.tmp 54], argTypes := #[21] }, type := 4, pos := "ref.go:50", after := #[{ on := 0, ground := Ground.data }], guard := none }) rfl (fun K hK => ?_) AllReadyH.nil
          go_simp; (first | (go_at_call 79; refine (hri.out _).mono ?_; rintro e w7 ⟨rfl, rfl⟩) | skip); (try (go_wp2_with fail)); refine hK.out _ _ (by first | trivial | ((try dsimp only); trivial)) (fun hHeld => ?_)
          clear hK K
          try simp only [Act.put, List.setIfInBounds_toArray, List.set_cons_zero, List.set_cons_succ]
          refine wpAnyH_take (i := 2) (oi := { dst := some 56, op := Op.unOp UnOp.not 4 (Operand.tmp 55), type := 4, pos := "ref.go:50", after := #[{ on := 1, ground := Ground.data }], guard := none }) (v := ?_) rfl (by kernel_rfl) (by kernel_rfl) (by kernel_rfl) (fun _ _ _ h => h) (Or.inl ⟨by rfl, ?_⟩) (by assumption) ?_; rotate_left; · ((intro w hSw; (try dsimp only at hSw); go_simp) <;> with_reducible rfl)
          try simp only [Act.put, List.setIfInBounds_toArray, List.set_cons_zero, List.set_cons_succ]
          refine wpAnyH_take (i := 3) (oi := { dst := some 57, op := Op.move (Operand.tmp 56), type := 4, pos := "ref.go:50", after := #[{ on := 2, ground := Ground.data }, { on := 1, ground := Ground.chain }], guard := none }) (v := ?_) rfl (by kernel_rfl) (by kernel_rfl) (by kernel_rfl) (fun _ _ _ h => h) (Or.inl ⟨by rfl, ?_⟩) (by assumption) ?_; rotate_left; · ((intro w hSw; (try dsimp only at hSw); go_simp) <;> with_reducible rfl)
          try simp only [Act.put, List.setIfInBounds_toArray, List.set_cons_zero, List.set_cons_succ]
          refine wpAnyH_take (i := 4) (oi := { dst := some 58, op := Op.move (Operand.tmp 6), type := 21, pos := "ref.go:50", after := #[{ on := 3, ground := Ground.guard }], guard := some (3, false) }) (v := undef) rfl (by kernel_rfl) (by kernel_rfl) (by kernel_rfl) (fun _ _ _ h => h) (Or.inr ⟨by rfl, rfl⟩) (by assumption) ?_
          try simp only [Act.put, List.setIfInBounds_toArray, List.set_cons_zero, List.set_cons_succ]
          refine wpAnyH_take (i := 7) (oi := { dst := some 61, op := Op.move (Operand.tmp 0), type := 9, pos := "ref.go:50", after := #[{ on := 3, ground := Ground.guard }], guard := some (3, false) }) (v := undef) rfl (by kernel_rfl) (by kernel_rfl) (by kernel_rfl) (fun _ _ _ h => h) (Or.inr ⟨by rfl, rfl⟩) (by assumption) ?_
          try simp only [Act.put, List.setIfInBounds_toArray, List.set_cons_zero, List.set_cons_succ]
          refine wpAnyH_take (i := 8) (oi := { dst := some 62, op := Op.move (Operand.tmp 5), type := 3, pos := "ref.go:50", after := #[{ on := 3, ground := Ground.guard }], guard := some (3, false) }) (v := undef) rfl (by kernel_rfl) (by kernel_rfl) (by kernel_rfl) (fun _ _ _ h => h) (Or.inr ⟨by rfl, rfl⟩) (by assumption) ?_
          try simp only [Act.put, List.setIfInBounds_toArray, List.set_cons_zero, List.set_cons_succ]
          refine wpAnyH_take (i := 9) (oi := { dst := some 63, op := Op.slice 9 (Operand.tmp 61) none (some (Operand.tmp 62)) none, type := 9, pos := "ref.go:50", after := #[{ on := 7, ground := Ground.data }, { on := 8, ground := Ground.data }, { on := 3, ground := Ground.guard }], guard := some (3, false) }) (v := undef) rfl (by kernel_rfl) (by kernel_rfl) (by kernel_rfl) (fun _ _ _ h => h) (Or.inr ⟨by rfl, rfl⟩) (by assumption) ?_
          try simp only [Act.put, List.setIfInBounds_toArray, List.set_cons_zero, List.set_cons_succ]
          refine wpAnyH_ready (rs := [5]) (by kernel_rfl) (by simp) ?_
          refine AllReadyH.cons (o := { dst := some 59, op := Op.call { callee := Callee.value (Operand.func 80), args := #[Operand.tmp 58], argTypes := #[21] }, type := 25, pos := "ref.go:50", after := #[{ on := 4, ground := Ground.data }, { on := 3, ground := Ground.chain }, { on := 3, ground := Ground.guard }], guard := some (3, false) }) rfl (fun K hK => ?_) AllReadyH.nil
          rw [if_neg]; rotate_left; · exact fun h => Bool.noConfusion (show false = true from h)
          refine hK.out _ _ hHeld (fun hHeld => ?_)
          clear hK K
          try simp only [Act.put, List.setIfInBounds_toArray, List.set_cons_zero, List.set_cons_succ]
          refine wpAnyH_ready (rs := [6]) (by kernel_rfl) (by simp) ?_
          refine AllReadyH.cons (o := { dst := some 60, op := Op.convert 25 9 (Operand.tmp 59), type := 9, pos := "ref.go:50", after := #[{ on := 5, ground := Ground.data }, { on := 3, ground := Ground.guard }], guard := some (3, false) }) rfl (fun K hK => ?_) AllReadyH.nil
          rw [if_neg]; rotate_left; · exact fun h => Bool.noConfusion (show false = true from h)
          refine hK.out _ _ hHeld (fun hHeld => ?_)
          clear hK K
          try simp only [Act.put, List.setIfInBounds_toArray, List.set_cons_zero, List.set_cons_succ]
          refine wpAnyH_take (i := 10) (oi := { dst := some 64, op := Op.binOp BinOp.neq 9 (Operand.tmp 60) (Operand.tmp 63) 9, type := 4, pos := "ref.go:50", after := #[{ on := 6, ground := Ground.data }, { on := 9, ground := Ground.data }, { on := 3, ground := Ground.guard }], guard := some (3, false) }) (v := undef) rfl (by kernel_rfl) (by kernel_rfl) (by kernel_rfl) (fun _ _ _ h => h) (Or.inr ⟨by rfl, rfl⟩) (by assumption) ?_
          try simp only [Act.put, List.setIfInBounds_toArray, List.set_cons_zero, List.set_cons_succ]
          refine wpAnyH_take (i := 11) (oi := { dst := some 65, op := Op.pick (Operand.tmp 57) (Operand.const (Value.bool true)) (Operand.tmp 64), type := 4, pos := "ref.go:50", after := #[{ on := 3, ground := Ground.data }, { on := 10, ground := Ground.data }], guard := none }) (v := ?_) rfl (by kernel_rfl) (by kernel_rfl) (by kernel_rfl) (fun _ _ _ h => h) (Or.inl ⟨by rfl, ?_⟩) (by assumption) ?_; rotate_left; · ((intro w hSw; (try dsimp only at hSw); go_simp) <;> with_reducible rfl)
          try simp only [Act.put, List.setIfInBounds_toArray, List.set_cons_zero, List.set_cons_succ]
          refine wpAnyH_done (by kernel_rfl) ?_ _
          go_wp2_with fail
          go_ret2
          exact ⟨rfl, (Below.refl _ _).drew⟩
end Go.Proofs.YtnfhlnkbkfgihaaDoor.Utf

/- A text as runes, the plain law: what is read rune by rune, and where it ends. -/
namespace Go.Proofs.YtnfhlnkbkfgihaaDoor.Utf
set_option linter.unusedVariables false
theorem first_nil : first [] = (0, 0) := rfl
theorem first_size (l : List UInt8) (h : (first l).2 ≠ 0) : 1 ≤ (first l).2 ∧ (first l).2 ≤ 4 ∧ (first l).2 ≤ l.length := by
  have hs : 1 ≤ sizeOf1 (g l 0) ∧ sizeOf1 (g l 0) ≤ 4 := by unfold sizeOf1; split <;> (try split) <;> (try split) <;> omega
  revert h
  unfold first
  split
  · intro h; exact absurd rfl h
  · split
    · intro h; exact absurd rfl h
    · split
      · intro h; exact absurd rfl h
      · split
        · intro h; simp only; omega
        · intro h; exact absurd rfl h
theorem first_none (l : List UInt8) (h : (first l).2 = 0) : first l = (0, 0) := by
  have hs : 1 ≤ sizeOf1 (g l 0) := by unfold sizeOf1; split <;> (try split) <;> (try split) <;> omega
  revert h
  unfold first
  split
  · intro h; rfl
  · split
    · intro h; rfl
    · split
      · intro h; rfl
      · split
        · intro h; simp only at h; omega
        · intro h; rfl
theorem first_right (l : List UInt8) (h : (first l).2 ≠ 0) : right (first l).1 = true ∧ enc (first l).1 = l.take (first l).2 := by
  revert h
  unfold first
  split
  · intro h; exact absurd rfl h
  · split
    · intro h; exact absurd rfl h
    · split
      · intro h; exact absurd rfl h
      · split
        · rename_i h; intro _; exact h
        · intro h; exact absurd rfl h
/-- the runes of a text, up to its end or to where it has none; and how many bytes they have -/
def scan (l : List UInt8) : List Nat × Nat :=
  if h : (first l).2 = 0 then ([], 0)
  else ((first l).1 :: (scan (l.drop (first l).2)).1, (first l).2 + (scan (l.drop (first l).2)).2)
termination_by l.length
decreasing_by
  all_goals
    have := first_size l h
    rw [List.length_drop]; omega
theorem scan_no (l : List UInt8) (h : (first l).2 = 0) : scan l = ([], 0) := by rw [scan, dif_pos h]
theorem scan_yes (l : List UInt8) (h : (first l).2 ≠ 0) : scan l = ((first l).1 :: (scan (l.drop (first l).2)).1, (first l).2 + (scan (l.drop (first l).2)).2) := by rw [scan, dif_neg h]
theorem scan_nil : scan [] = ([], 0) := scan_no [] rfl
theorem scan_le : ∀ (n : Nat) (l : List UInt8), l.length ≤ n → (scan l).2 ≤ l.length ∧ (scan l).1.length ≤ l.length ∧ ∀ r ∈ (scan l).1, r ≤ 1114111
  | 0, l, h => by
    obtain rfl : l = [] := List.eq_nil_of_length_eq_zero (by omega)
    rw [scan_nil]; simp
  | n + 1, l, h => by
    by_cases hf : (first l).2 = 0
    · rw [scan_no l hf]; simp
    · have hs := first_size l hf
      have hr := (first_right l hf).1
      obtain ⟨h1, h2, h3⟩ := scan_le n (l.drop (first l).2) (by rw [List.length_drop]; omega)
      rw [List.length_drop] at h1 h2
      rw [scan_yes l hf]
      refine ⟨by simp only; omega, by simp only [List.length_cons]; omega, fun r hm => ?_⟩
      rcases List.mem_cons.1 hm with rfl | hm
      · unfold right at hr; exact (of_decide_eq_true hr).1
      · exact h3 r hm
/-- is a text right throughout? -/
def wholeB (l : List UInt8) : Bool := decide ((scan l).2 = l.length)
/-- behind k bytes that were read -/
theorem scan_step {l : List UInt8} {rs : List Nat} {k : Nat} (hk : k ≤ l.length) (h : scan l = (rs ++ (scan (l.drop k)).1, k + (scan (l.drop k)).2)) (hf : (first (l.drop k)).2 ≠ 0) :
    scan l = ((rs ++ [(first (l.drop k)).1]) ++ (scan (l.drop (k + (first (l.drop k)).2))).1, (k + (first (l.drop k)).2) + (scan (l.drop (k + (first (l.drop k)).2))).2) ∧ k + (first (l.drop k)).2 ≤ l.length := by
  have hs := first_size _ hf
  rw [List.length_drop] at hs
  rw [h, scan_yes _ hf, List.drop_drop]
  refine ⟨by simp only [List.append_assoc, List.singleton_append, Nat.add_assoc], by omega⟩
theorem dec_none {l : List UInt8} (hne : l ≠ []) : (first l).2 = 0 ↔ dec l = (65533, 1) := by
  have h := first_eq l hne
  constructor
  · intro h0
    by_cases hd : dec l = (65533, 1)
    · exact hd
    · rw [if_neg hd] at h
      rw [h] at h0
      exfalso
      revert h0
      unfold dec
      split
      · simp
      · split
        · split <;> simp
        · split
          · split <;> simp
          · split
            · split <;> simp
            · simp
  · intro hd
    rw [h, if_pos hd]
theorem dec_some {l : List UInt8} (hne : l ≠ []) (h : (first l).2 ≠ 0) : dec l = first l := by
  have h2 := first_eq l hne
  rw [if_neg (fun e => h ((dec_none hne).2 e))] at h2
  exact h2.symm
end Go.Proofs.YtnfhlnkbkfgihaaDoor.Utf

/- The walk of the reference's Runes. -/
namespace Go.Proofs.YtnfhlnkbkfgihaaDoor.Utf
open Go.RowKit
set_option linter.unusedVariables false
set_option maxRecDepth 100000
abbrev e32 (r : Nat) : Value := .int .i32 (r : Int)
theorem rfirst_any (l : List UInt8) (w : World) (hl : l.length ≤ 1000000) :
    Calls Tryd.prog 70 #[.string ⟨l.toArray⟩] w fun e w' => e = .returned (.tuple #[.int .i32 ((first l).1 : Int), .int .i64 ((first l).2 : Int)]) ∧ Below w.heap.size w w' := by
  by_cases h0 : 0 < l.length
  · rcases (show (¬ 240 ≤ g l 0 ∧ ¬ 224 ≤ g l 0 ∧ ¬ 192 ≤ g l 0) ∨ (¬ 240 ≤ g l 0 ∧ ¬ 224 ≤ g l 0 ∧ 192 ≤ g l 0) ∨ (¬ 240 ≤ g l 0 ∧ 224 ≤ g l 0) ∨ 240 ≤ g l 0 by omega) with ⟨h1, h2, h3⟩ | ⟨h1, h2, h3⟩ | ⟨h1, h2⟩ | h1
    · exact rfirst_1 l w hl h0 h1 h2 h3
    · exact rfirst_2 l w hl h0 h1 h2 h3
    · exact rfirst_3 l w hl h0 h1 h2
    · exact rfirst_4 l w hl h0 h1
  · have hn : l = [] := List.eq_nil_of_length_eq_zero (by omega)
    subst hn
    have hsz : (⟨([] : List UInt8).toArray⟩ : ByteArray).size = 0 := rfl
    obtain ⟨S, hS⟩ : ∃ S : ByteArray, S = ⟨([] : List UInt8).toArray⟩ := ⟨_, rfl⟩
    rw [← hS] at hsz ⊢
    clear hS
    go_enter Tryd.func70, Tryd.ntmps70
    go_wp2_with fail
    go_ret2
    exact ⟨rfl, Below.refl _ _⟩
/-- what Runes tells: the runes, where there is none, the fault -/
def runesR (s : List UInt8) : List Nat × Nat × Int := if (scan s).2 = s.length then ((scan s).1, 0, 0) else ([], (scan s).2, 4)
theorem info32 : (Tryd.prog.info? 21).map (fun i => (i.zero, i.size, i.bytes)) = some (some (.int .i32 0), 1, 4) := by kernel_rfl
theorem ex_drop (l : List UInt8) (k : Nat) : (⟨l.toArray⟩ : ByteArray).extract k l.length = ⟨(l.drop k).toArray⟩ := by
  apply ByteArray.ext
  simp
  exact List.take_of_length_le (by simp)
set_option maxHeartbeats 1000000 in
theorem rrunes_any (s : List UInt8) (w : World) (hl : s.length ≤ 1000000) :
    Calls Tryd.prog 63 #[.string ⟨s.toArray⟩] w fun e w' => ∃ v, e = .returned (.tuple #[v, .int .i64 ((runesR s).2.1 : Int), .int .i64 (runesR s).2.2]) ∧ w'.ownsRow w.heap.size 21 1 v (runesR s).1.length ((runesR s).1.map e32) ∧ Below w.heap.size w w' := by
  obtain ⟨i0, hi0, hz0, hz1, hz2⟩ := info_parts info32
  have hsz : (⟨s.toArray⟩ : ByteArray).size = s.length := ba_size s
  have hsl : ∀ k : Nat, k ≤ s.length → ∀ w, (Instr.slice 9 (.string ⟨s.toArray⟩) (some (.int .i64 (k : Int))) none none).run Tryd.prog w = .ok (.string ⟨(s.drop k).toArray⟩) w := fun k hk w => by
    rw [run_slice_string_from_if (P := Tryd.prog) w 9 ⟨s.toArray⟩ .i64 (k : Int) Tryd.underlying9, if_pos ⟨by omega, by rw [ba_size]; omega⟩, ba_size, Int.toNat_natCast, ex_drop]
  have hfst := Lib.hid (fun k w => rfirst_any (s.drop k) w (by rw [List.length_drop]; omega))
  have hstep := Lib.hid (fun rs k (hk : k ≤ s.length) (h : scan s = (rs ++ (scan (s.drop k)).1, k + (scan (s.drop k)).2)) hf => scan_step hk h hf)
  obtain ⟨S, hS⟩ : ∃ S : ByteArray, S = ⟨s.toArray⟩ := ⟨_, rfl⟩
  rw [← hS] at hsz hsl ⊢
  have Hsl := Lib.hid hsl
  clear hS hsl
  go_enter Tryd.func63, Tryd.ntmps63
  go_wp2_with fail
  go_loopw [5, 6] (fun v i wr => ∃ (k : Nat) (rs : List Nat), k ≤ s.length ∧ rs.length ≤ k ∧ i = .int .i64 (k : Int) ∧ wr.ownsRow w.heap.size 21 1 v rs.length (rs.map e32) ∧ Hid (scan s = (rs ++ (scan (s.drop k)).1, k + (scan (s.drop k)).2)) ∧ Below w.heap.size w wr) (fun _ i _ => s.length - (intOf i).toNat)
  case atStart => exact ⟨0, [], by omega, by simp, rfl, own_nil _ _ _ _, Lib.hid (by simp), Below.refl _ _⟩
  case round =>
    obtain ⟨k, rs, hk, hrk, rfl, hown, hsc, bel⟩ := hrel
    by_cases hlt : k < s.length
    · have hsk := Hsl.out k hk
      have hfk := hfst.out k
      have hst := Lib.hid (hstep.out rs k hk hsc.out)
      have hno := Lib.hid (show (first (s.drop k)).2 = 0 → runesR s = ([], k, 4) from fun h => by
        have h2 := hsc.out
        rw [scan_no _ h] at h2
        unfold runesR
        rw [h2, if_neg (by simp only; omega)]
        simp)
      have hsz4 := fun h => first_size (s.drop k) h
      obtain ⟨F, hF⟩ : ∃ F, F = first (s.drop k) := ⟨_, rfl⟩
      rw [← hF] at hfk hst hno hsz4
      have hfk := Lib.hid hfk
      have hr1 := Lib.hid (show F.2 ≠ 0 → F.1 ≤ 1114111 from fun h => by
        have := (first_right (s.drop k) (by rw [← hF]; exact h)).1
        rw [← hF] at this
        unfold right at this
        exact (of_decide_eq_true this).1)
      clear hF
      obtain ⟨r, sz⟩ := F
      simp only at hst hno hsz4 hr1 hfk
      by_cases hz : sz = 0
      · subst hz
        have hru := Lib.hid (hno.out rfl)
        clear hno hst hsz4 hr1
        go_wp2_with (go_at_call 70; refine (hfk.out _).mono ?_; rintro e w2 ⟨rfl, b2⟩)
        go_ret3
        rw [hru.out]
        exact ⟨_, rfl, own_nil _ _ _ _, bt bel b2⟩
      · have h4 := hsz4 hz
        rw [List.length_drop] at h4
        obtain ⟨hst1, hst2⟩ := hst.out hz
        have Hst1 := Lib.hid hst1
        have hrb := hr1.out hz
        have hzI : ((sz : Int) == 0) = false := beq_no (by omega)
        have hw1 : wrap64 ((k : Int) + (sz : Int)) = (k : Int) + (sz : Int) := by unfold wrap64; omega
        clear hno hst hsz4 hr1 hst1 hz
        go_wp2_with (first
          | (go_at_call 70; refine (hfk.out _).mono ?_; rintro e w2 ⟨rfl, b2⟩; have own2 := own_on hown b2; have bw2 := bt bel b2)
          | (at_builtin; refine wpList_append_rd _ rfl _ _ _ rfl w.heap.size 21 i0 _ 1 4 Tryd.underlying93 hi0 hz0 hz1 hz2 rfl (by omega) _ rs.length _ rfl (own2.alloc _) _ _ 1 1 [e32 r] rfl rfl (Rd.lit w2 _ _ _ (w2.heap.size + 1) rfl (by omega)) (by intro u hu; simp at hu; subst hu; rfl) (by simp only [maxLen]; omega) (by omega) (le_alloc bw2.size _) ?_; intro v1 w3 hown3 hg3 hat3))
        go_roundw
        case rel => exact ⟨k + sz, rs ++ [r], hst2, by rw [List.length_append, List.length_singleton]; omega, by go_num, by rw [List.length_append, List.length_singleton, List.map_append]; exact hown3, Hst1, (bw2.alloc bw2.size _).grown hg3 (le_alloc bw2.size _) (fun g hg => own_block own2 hg)⟩
        case measure => simp [intOf]; omega
    · obtain rfl : k = s.length := by omega
      have hru := Lib.hid (show runesR s = (rs, 0, 0) by
        have h2 := hsc.out
        rw [List.drop_length, scan_nil] at h2
        unfold runesR
        rw [h2]
        simp)
      go_wp2_with fail
      go_ret3
      rw [hru.out]
      exact ⟨_, rfl, hown, bel⟩
end Go.Proofs.YtnfhlnkbkfgihaaDoor.Utf

/- Parts of names: the program's and the reference's. -/
namespace Go.Proofs.YtnfhlnkbkfgihaaDoor.Utf
open Go.RowKit
set_option linter.unusedVariables false
set_option maxRecDepth 100000
/-- is a text part of a name, of which n runes were seen? -/
def partN (l : List UInt8) (n : Nat) : Bool := decide ((scan l).2 = l.length ∧ (∀ r ∈ (scan l).1, smB (r : Int) = true) ∧ 1 ≤ n + (scan l).1.length ∧ n + (scan l).1.length ≤ 8)
def part (l : List UInt8) : Bool := partN l 0
theorem partN_nil (n : Nat) : partN [] n = decide (1 ≤ n ∧ n ≤ 8) := by
  unfold partN; rw [scan_nil]; simp
theorem partN_bad (l : List UInt8) (n : Nat) (hne : l ≠ []) (h : smB ((dec l).1 : Int) = false) : partN l n = false := by
  refine decide_eq_false ?_
  rintro ⟨h1, h2, _⟩
  by_cases hf : (first l).2 = 0
  · rw [scan_no l hf] at h1
    exact hne (List.eq_nil_of_length_eq_zero h1.symm)
  · rw [scan_yes l hf] at h2
    have := h2 (first l).1 (List.mem_cons_self ..)
    rw [← dec_some hne hf, h] at this
    exact Bool.noConfusion this
theorem sm_err : smB (65533 : Int) = false := by decide
theorem partN_good (l : List UInt8) (n : Nat) (hne : l ≠ []) (h : smB ((dec l).1 : Int) = true) : partN l n = partN (l.drop (dec l).2) (n + 1) ∧ 1 ≤ (dec l).2 ∧ (dec l).2 ≤ l.length := by
  have hf : (first l).2 ≠ 0 := fun h0 => by
    rw [(dec_none hne).1 h0] at h
    exact Bool.noConfusion (sm_err.symm.trans h)
  have hd := dec_some hne hf
  have hs := first_size l hf
  rw [hd] at h ⊢
  refine ⟨?_, hs.1, hs.2.2⟩
  unfold partN
  rw [scan_yes l hf]
  refine decide_eq_decide.2 ⟨fun ⟨h1, h2, h3, h4⟩ => ⟨?_, fun r hr => h2 r (List.mem_cons_of_mem _ hr), ?_, ?_⟩, fun ⟨h1, h2, h3, h4⟩ => ⟨?_, fun r hr => ?_, ?_, ?_⟩⟩
  · simp only at h1; rw [List.length_drop]; omega
  · simp only [List.length_cons] at h3; omega
  · simp only [List.length_cons] at h4; omega
  · rw [List.length_drop] at h1; simp only; omega
  · rcases List.mem_cons.1 hr with rfl | hr
    · exact h
    · exact h2 r hr
  · simp only [List.length_cons]; omega
  · simp only [List.length_cons]; omega
set_option maxHeartbeats 1000000 in
theorem part_any (s : List UInt8) (w : World) (hl : s.length ≤ 1000000) : Calls Tryd.prog 60 #[.string ⟨s.toArray⟩] w fun e w' => e = .returned (.bool (part s)) ∧ Below w.heap.size w w' := by
  have hsz : (⟨s.toArray⟩ : ByteArray).size = s.length := ba_size s
  have hde := Lib.hid (fun pos => decode_eq s pos)
  have hnxt := Lib.hid (fun pos (h : pos < s.length) (ty : TypeId) => run_next_any (P := Tryd.prog) w ⟨s.toArray⟩ pos ty (by rw [ba_size]; exact h))
  have hend := Lib.hid (fun pos (h : ¬ pos < s.length) (ty : TypeId) => run_next_end (P := Tryd.prog) w ⟨s.toArray⟩ pos ty (by rw [ba_size]; exact h))
  obtain ⟨S, hS⟩ : ∃ S : ByteArray, S = ⟨s.toArray⟩ := ⟨_, rfl⟩
  rw [← hS] at hsz hnxt hend hde ⊢
  clear hS
  go_enter Tryd.func60, Tryd.ntmps60
  go_wp2_with fail
  go_loopw [3] (fun n w' => ∃ (pos k : Nat), w' = w.iter S pos ∧ n = .int .i64 (k : Int) ∧ Hid (part s = partN (s.drop pos) k) ∧ pos ≤ s.length ∧ k ≤ pos) (fun _ w' => s.length - w'.iterPos w.heap.size)
  case atStart => exact ⟨0, 0, rfl, rfl, Lib.hid (by rw [List.drop_zero]; rfl), by omega, by omega⟩
  case round =>
    obtain ⟨pos, k, rfl, rfl, hp, hle, hk⟩ := hrel
    by_cases hlt : pos < s.length
    · have hnx := hnxt.out pos hlt
      rw [hde.out pos] at hnx
      have hne : s.drop pos ≠ [] := fun e => by have := congrArg List.length e; rw [List.length_drop] at this; simp at this; omega
      have hbad := Lib.hid (partN_bad (s.drop pos) k hne)
      have hgood := Lib.hid (partN_good (s.drop pos) k hne)
      obtain ⟨D, hD⟩ : ∃ D, D = dec (s.drop pos) := ⟨_, rfl⟩
      rw [← hD] at hnx hbad hgood
      clear hD hne
      obtain ⟨r, wd⟩ := D
      simp only at hnx hbad hgood
      have hsm := Lib.hid (fun w => small_any (r : Int) w)
      cases hb : smB (r : Int) with
      | false =>
        have he := Lib.hid (show part s = false from hp.out.trans (hbad.out hb))
        rw [hb] at hsm
        clear hb hbad hgood
        go_wp2_with (go_at_call 68; refine (hsm.out _).mono ?_; rintro e w2 ⟨rfl, rfl⟩)
        go_ret
        exact ⟨bool_ret he.out, below_lit _ _⟩
      | true =>
        obtain ⟨he, h1, h2⟩ := hgood.out hb
        have he := Lib.hid (hp.out.trans he)
        rw [List.drop_drop] at he
        rw [List.length_drop] at h2
        rw [hb] at hsm
        clear hb hbad hgood
        have hw1 : wrap64 ((k : Int) + 1) = (k : Int) + 1 := by unfold wrap64; omega
        go_wp2_with (go_at_call 68; refine (hsm.out _).mono ?_; rintro e w2 ⟨rfl, rfl⟩)
        go_roundw
        case rel => exact ⟨pos + wd, k + 1, rfl, by go_num, he, by omega, by omega⟩
        case measure => simp; omega
    · obtain rfl : pos = s.length := by omega
      have hnx := hend.out s.length (by omega)
      have he := hp.out
      rw [List.drop_length, partN_nil] at he
      rcases (show k < 1 ∨ (1 ≤ k ∧ 8 < k) ∨ (1 ≤ k ∧ k ≤ 8) by omega) with c1 | ⟨c1, c2⟩ | ⟨c1, c2⟩
      all_goals (first | (have he2 := Lib.hid (he.trans (decide_eq_false (by omega)))) | (have he2 := Lib.hid (he.trans (decide_eq_true (by omega)))))
      all_goals (first | (have c1I : (1 : Int) ≤ (k : Int) := (by omega)) | (have c1I : ¬ (1 : Int) ≤ (k : Int) := (by omega)))
      all_goals (first | (have c2I : (k : Int) ≤ 8 := (by omega)) | (have c2I : ¬ (k : Int) ≤ 8 := (by omega)))
      all_goals
        clear he
        go_wp2_with fail
        go_ret
        exact ⟨bool_ret (he2.out.trans (by first | rfl | (simp <;> omega))), below_lit _ _⟩
set_option maxHeartbeats 1000000 in
theorem rpart_any (s : List UInt8) (w : World) (hl : s.length ≤ 1000000) : Calls Tryd.prog 50 #[.string ⟨s.toArray⟩] w fun e w' => e = .returned (.bool (part s)) ∧ Below w.heap.size w w' := by
  have hru := rrunes_any s w hl
  have hpt : part s = decide ((scan s).2 = s.length ∧ (∀ r ∈ (scan s).1, smB (r : Int) = true) ∧ 1 ≤ 0 + (scan s).1.length ∧ 0 + (scan s).1.length ≤ 8) := rfl
  by_cases hok : (scan s).2 = s.length
  · have hrr : runesR s = ((scan s).1, 0, 0) := if_pos hok
    rw [hrr] at hru
    obtain ⟨rs, hrs⟩ : ∃ rs, rs = (scan s).1 := ⟨_, rfl⟩
    rw [← hrs] at hru hpt
    have hpt2 : part s = decide ((∀ r ∈ rs, smB (r : Int) = true) ∧ 1 ≤ rs.length ∧ rs.length ≤ 8) := hpt.trans (decide_eq_decide.2 ⟨fun ⟨_, h2, h3, h4⟩ => ⟨h2, by omega, by omega⟩, fun ⟨h2, h3, h4⟩ => ⟨hok, h2, by omega, by omega⟩⟩)
    have Hru := Lib.hid hru
    clear hrs hpt hok hrr hru
    rcases (show rs.length < 1 ∨ (1 ≤ rs.length ∧ 8 < rs.length) ∨ (1 ≤ rs.length ∧ rs.length ≤ 8) by omega) with c1 | ⟨c1, c2⟩ | ⟨c1, c2⟩
    · have he := Lib.hid (hpt2.trans (decide_eq_false (by omega)))
      have c1I : (rs.length : Int) < 1 := by omega
      clear hpt2
      go_enter Tryd.func50, Tryd.ntmps50
      go_wp2_with (go_at_call 63; refine (Hru.out).mono ?_; rintro e w2 ⟨v2, rfl, own2, b2⟩; obtain ⟨A2, c2, rfl⟩ := own_form own2)
      go_ret
      exact ⟨bool_ret he.out, b2⟩
    · have he := Lib.hid (hpt2.trans (decide_eq_false (by omega)))
      have c1I : ¬ (rs.length : Int) < 1 := by omega
      have c2I : (8 : Int) < (rs.length : Int) := by omega
      clear hpt2
      go_enter Tryd.func50, Tryd.ntmps50
      go_wp2_with (go_at_call 63; refine (Hru.out).mono ?_; rintro e w2 ⟨v2, rfl, own2, b2⟩; obtain ⟨A2, c2, rfl⟩ := own_form own2)
      go_ret
      exact ⟨bool_ret he.out, b2⟩
    · have hpt3 : part s = decide (∀ r ∈ rs, smB (r : Int) = true) := hpt2.trans (decide_eq_decide.2 ⟨fun h => h.1, fun h => ⟨h, c1, c2⟩⟩)
      have Hpt := Lib.hid hpt3
      have c1I : ¬ (rs.length : Int) < 1 := by omega
      have c2I : ¬ (8 : Int) < (rs.length : Int) := by omega
      clear hpt2 hpt3
      go_enter Tryd.func50, Tryd.ntmps50
      go_wp2_with (go_at_call 63; refine (Hru.out).mono ?_; rintro e w2 ⟨v2, rfl, own2, b2⟩; obtain ⟨A2, c2, rfl⟩ := own_form own2)
      have hR2 := Rd.own own2
      clear own2
      go_wp2_with fail
      go_loopw [6] (fun i wr => ∃ k : Nat, k ≤ rs.length ∧ i = .int .i64 (k : Int) ∧ Hid (∀ j (hj : j < k) (h : k ≤ rs.length), smB ((rs[j]'(by omega) : Nat) : Int) = true) ∧ wr = w2) (fun i _ => rs.length - (intOf i).toNat)
      case atStart => exact ⟨0, by omega, rfl, Lib.hid (fun j hj => absurd hj (by omega)), rfl⟩
      case round =>
        obtain ⟨k, hk, rfl, hgood, rfl⟩ := hrel
        by_cases hlt : k < rs.length
        · obtain ⟨b, off, rfl, hb, hcell⟩ := hR2.get (k := k) (by simpa using hlt)
          have hsm := Lib.hid (fun w => rsmall_any ((rs[k] : Nat) : Int) w)
          rw [List.getElem_map] at hcell
          obtain ⟨r, hr⟩ : ∃ r, r = rs[k] := ⟨_, rfl⟩
          rw [← hr] at hsm
          have hcell2 : wr.cell? ⟨b, off + k, none⟩ = some (.int .i32 (r : Int)) := by rw [hcell, hr]
          have Hr := Lib.hid hr
          clear hr hcell
          have hkI : (k : Int) < (rs.length : Int) := by omega
          cases hsb : smB (r : Int) with
          | false =>
            have he := Lib.hid (show part s = false from Hpt.out.trans (decide_eq_false (fun h => by
              have := h rs[k] (List.getElem_mem hlt)
              rw [← Hr.out, hsb] at this
              exact Bool.noConfusion this)))
            rw [hsb] at hsm
            clear hsb
            go_wp2_with (go_at_call 64; refine (hsm.out _).mono ?_; rintro e w3 ⟨rfl, rfl⟩)
            go_ret
            exact ⟨bool_ret he.out, b2⟩
          | true =>
            have hg2 := Lib.hid (show ∀ j (hj : j < k + 1) (h : k + 1 ≤ rs.length), smB ((rs[j]'(by omega) : Nat) : Int) = true from fun j hj h => by
              rcases Nat.lt_or_ge j k with h2 | h2
              · exact hgood.out j h2 (by omega)
              · obtain rfl : j = k := (by omega)
                rw [← Hr.out]; exact hsb)
            rw [hsb] at hsm
            clear hsb
            go_wp2_with (go_at_call 64; refine (hsm.out _).mono ?_; rintro e w3 ⟨rfl, rfl⟩)
            go_roundw
            case rel => exact ⟨k + 1, by omega, by go_num, hg2, (by first | rfl | trivial)⟩
            case measure => simp [intOf]; omega
        · obtain rfl : k = rs.length := by omega
          have he := Lib.hid (show part s = true from Hpt.out.trans (decide_eq_true (fun r hr => by
            obtain ⟨j, hj, rfl⟩ := List.getElem_of_mem hr
            exact hgood.out j hj (by omega))))
          go_wp2_with fail
          go_ret
          exact ⟨bool_ret he.out, b2⟩
  · have hrr : runesR s = ([], (scan s).2, 4) := if_neg hok
    rw [hrr] at hru
    have he := Lib.hid (hpt.trans (decide_eq_false (fun h => hok h.1)))
    have Hru := Lib.hid hru
    clear hrr hru hpt
    go_enter Tryd.func50, Tryd.ntmps50
    go_wp2_with (go_at_call 63; refine (Hru.out).mono ?_; rintro e w2 ⟨v2, rfl, own2, b2⟩; obtain ⟨A2, c2, rfl⟩ := own_form own2)
    go_ret
    exact ⟨bool_ret he.out, b2⟩
end Go.Proofs.YtnfhlnkbkfgihaaDoor.Utf

/- Names of groups and secrets: plain: their parts, between points. No statement is proved here. -/
namespace Go.Proofs.YtnfhlnkbkfgihaaDoor.Nam
open Go.RowKit
open Go.Proofs.YtnfhlnkbkfgihaaDoor.Utf (g first scan scan_yes scan_no scan_nil scan_le first_size first_right first_none sizeOf1 headOf conts cont va enc enc_len width partN smB upB leB)
set_option linter.unusedVariables false
/-- what is read at the beginning does not hang on what comes behind -/
theorem g_app (a b : List UInt8) (k : Nat) (h : k < a.length) : g (a ++ b) k = g a k := by
  unfold g
  rw [List.getD_eq_getElem?_getD, List.getD_eq_getElem?_getD, List.getElem?_append_left h]
theorem va_app (a b : List UInt8) (r0 : Nat) : ∀ k, k < a.length → va (a ++ b) r0 k = va a r0 k
  | 0, _ => rfl
  | k + 1, h => by unfold va; rw [va_app a b r0 k (by omega), g_app a b (k + 1) h]
theorem size1 (c : Nat) : 1 ≤ sizeOf1 c ∧ sizeOf1 c ≤ 4 := by unfold sizeOf1; split <;> (try split) <;> (try split) <;> omega
theorem conts_app (a b : List UInt8) (n : Nat) (h : n ≤ a.length) : conts (a ++ b) n ↔ conts a n := by
  unfold conts cont
  constructor
  · intro hh j h1 h2
    have := hh j h1 h2
    rw [g_app a b j (by omega)] at this
    exact this
  · intro hh j h1 h2
    rw [g_app a b j (by omega)]
    exact hh j h1 h2
theorem first_app {a : List UInt8} (b : List UInt8) (h : (first a).2 ≠ 0) : first (a ++ b) = first a := by
  have hs := first_size a h
  have h1 : ¬ a.length = 0 := by omega
  have hg : g (a ++ b) 0 = g a 0 := g_app a b 0 (by omega)
  have h2 : ¬ a.length < sizeOf1 (g a 0) := fun hc => h (by unfold first; rw [if_neg h1, if_pos hc])
  have hz := size1 (g a 0)
  unfold first
  rw [hg, if_neg (by rw [List.length_append]; omega), if_neg h1, if_neg (by rw [List.length_append]; omega), if_neg h2]
  have hc := conts_app a b (sizeOf1 (g a 0)) (by omega)
  have hv : va (a ++ b) (headOf (g a 0)) (sizeOf1 (g a 0) - 1) = va a (headOf (g a 0)) (sizeOf1 (g a 0) - 1) := va_app a b _ _ (by omega)
  have ht : (a ++ b).take (sizeOf1 (g a 0)) = a.take (sizeOf1 (g a 0)) := List.take_append_of_le_length (by omega)
  rw [hv, ht]
  by_cases hcc : conts a (sizeOf1 (g a 0))
  · rw [if_neg (show ¬ ¬ conts (a ++ b) (sizeOf1 (g a 0)) from fun hn => hn (hc.2 hcc)), if_neg (show ¬ ¬ conts a (sizeOf1 (g a 0)) from fun hn => hn hcc)]
  · rw [if_pos (show ¬ conts (a ++ b) (sizeOf1 (g a 0)) from fun hn => hcc (hc.1 hn)), if_pos hcc]
theorem scan_app (b : List UInt8) : ∀ (n : Nat) (a : List UInt8), a.length ≤ n → (scan a).2 = a.length → scan (a ++ b) = ((scan a).1 ++ (scan b).1, a.length + (scan b).2)
  | 0, a, h, _ => by
    obtain rfl : a = [] := List.eq_nil_of_length_eq_zero (by omega)
    rw [scan_nil]; simp
  | n + 1, a, h, hw => by
    by_cases hf : (first a).2 = 0
    · rw [scan_no a hf] at hw
      obtain rfl : a = [] := List.eq_nil_of_length_eq_zero hw.symm
      rw [scan_nil]; simp
    · have hs := first_size a hf
      have e := first_app b hf
      rw [scan_yes a hf] at hw
      simp only at hw
      have hd : (a ++ b).drop (first a).2 = a.drop (first a).2 ++ b := List.drop_append_of_le_length (by omega)
      rw [scan_yes (a ++ b) (by rw [e]; exact hf), e, hd, scan_app b n (a.drop (first a).2) (by rw [List.length_drop]; omega) (by rw [List.length_drop]; omega), scan_yes a hf]
      simp only [List.cons_append, List.length_drop]
      congr 1
      omega
/-- texts between points -/
def pieces : List UInt8 → List (List UInt8)
  | [] => [[]]
  | c :: r => if c = 46 then [] :: pieces r else match pieces r with
    | [] => [[c]]
    | p :: ps => (c :: p) :: ps
theorem pieces_cons (c : UInt8) (r : List UInt8) : pieces (c :: r) = if c = 46 then [] :: pieces r else match pieces r with
    | [] => [[c]]
    | p :: ps => (c :: p) :: ps := rfl
theorem pieces_ne : ∀ l : List UInt8, pieces l ≠ []
  | [] => by simp [pieces]
  | c :: r => by
    rw [pieces_cons]
    split
    · simp
    · split <;> simp
/-- without a point: one piece -/
theorem pieces_one : ∀ l : List UInt8, (∀ c ∈ l, c ≠ 46) → pieces l = [l]
  | [], _ => rfl
  | c :: r, h => by
    rw [pieces_cons, if_neg (h c (by simp)), pieces_one r (fun d hd => h d (by simp [hd]))]
/-- up to the first point, and what is behind it -/
theorem pieces_cut : ∀ (a r : List UInt8), (∀ c ∈ a, c ≠ 46) → pieces (a ++ 46 :: r) = a :: pieces r
  | [], r, _ => by show pieces (46 :: r) = _; rw [pieces_cons, if_pos rfl]
  | c :: a, r, h => by
    show pieces (c :: (a ++ 46 :: r)) = _
    rw [pieces_cons, if_neg (h c (by simp)), pieces_cut a r (fun d hd => h d (by simp [hd]))]
/-- the document's way: byte by byte -/
theorem pieces_snoc : ∀ (l : List UInt8) (c : UInt8) (ps : List (List UInt8)) (p : List UInt8), pieces l = ps ++ [p] → pieces (l ++ [c]) = if c = 46 then ps ++ [p] ++ [[]] else ps ++ [p ++ [c]]
  | [], c, ps, p, h => by
    have h1 : ps = [] ∧ p = [] := by
      cases ps with
      | nil => simp [pieces] at h; exact ⟨rfl, h⟩
      | cons q qs =>
        have := congrArg List.length h
        simp [pieces] at this
    obtain ⟨rfl, rfl⟩ := h1
    show pieces [c] = _
    by_cases hc : c = 46
    · subst hc; rw [if_pos rfl]; rfl
    · rw [if_neg hc, pieces_one [c] (fun d hd => by rw [List.mem_singleton] at hd; rw [hd]; exact hc)]; rfl
  | d :: l, c, ps, p, h => by
    show pieces (d :: (l ++ [c])) = _
    rw [pieces_cons] at h ⊢
    by_cases hd : d = 46
    · rw [if_pos hd] at h ⊢
      cases ps with
      | nil =>
        injection h with _ h2
        exact absurd h2 (pieces_ne l)
      | cons q qs =>
        injection h with h1 h2
        subst h1
        rw [pieces_snoc l c qs p h2]
        by_cases hc : c = 46
        · rw [if_pos hc, if_pos hc]; rfl
        · rw [if_neg hc, if_neg hc]; rfl
    · rw [if_neg hd] at h ⊢
      cases hp : pieces l with
      | nil => exact absurd hp (pieces_ne l)
      | cons q qs =>
        rw [hp] at h
        simp only at h
        cases qs with
        | nil =>
          have h1 : ps = [] ∧ p = d :: q := by
            cases ps with
            | nil => simpa using h.symm
            | cons x xs =>
              have := congrArg List.length h
              simp at this
          obtain ⟨rfl, rfl⟩ := h1
          rw [pieces_snoc l c [] q hp]
          by_cases hc : c = 46
          · rw [if_pos hc, if_pos hc]; rfl
          · rw [if_neg hc, if_neg hc]; rfl
        | cons q2 qs2 =>
          obtain ⟨ps2, rfl⟩ : ∃ ps2, ps = (d :: q) :: ps2 := by
            cases ps with
            | nil => simp at h
            | cons x xs => injection h with h1 h2; exact ⟨xs, by rw [h1]⟩
          rw [List.cons_append] at h
          injection h with _ h2
          rw [pieces_snoc l c (q :: ps2) p (by rw [hp, h2]; rfl)]
          by_cases hc : c = 46
          · rw [if_pos hc, if_pos hc]; rfl
          · rw [if_neg hc, if_neg hc]; rfl
/-- how many runes a text has -/
def cnt (l : List UInt8) : Nat := (scan l).1.length
/-- may a text be a name? -/
def nameB (l : List UInt8) : Bool := (pieces l).all Utf.part && (decide ((pieces l).length ≤ 4) && decide (((pieces l).map fun p => cnt p + 1).sum ≤ 25))
theorem part_whole {l : List UInt8} (h : Utf.part l = true) : (scan l).2 = l.length ∧ 1 ≤ cnt l ∧ cnt l ≤ 8 ∧ ∀ r ∈ (scan l).1, smB (r : Int) = true := by
  unfold Utf.part partN at h
  obtain ⟨h1, h2, h3, h4⟩ := of_decide_eq_true h
  unfold cnt
  exact ⟨h1, by omega, by omega, h2⟩
theorem scan_point (r : List UInt8) : scan (46 :: r) = (46 :: (scan r).1, 1 + (scan r).2) := by
  have hf : first (46 :: r) = (46, 1) := by
    have h0 : g (46 :: r) 0 = 46 := by unfold g; rfl
    unfold first
    rw [h0, if_neg (by simp)]
    have e1 : sizeOf1 46 = 1 := by decide
    rw [e1, if_neg (by simp)]
    have e2 : conts (46 :: r) 1 := fun j h1 h2 => by omega
    rw [if_neg (fun h => h e2)]
    have e3 : va (46 :: r) (headOf 46) (1 - 1) = 46 := rfl
    rw [e3, if_pos ⟨by decide, by rw [List.take_succ_cons, List.take_zero]; decide⟩]
  rw [scan_yes _ (by rw [hf]; decide), hf]
  rfl
/-- a text whose pieces may all be is right throughout, and has that many runes -/
theorem whole_pieces : ∀ (n : Nat) (l : List UInt8), l.length ≤ n → (pieces l).all Utf.part = true → (scan l).2 = l.length ∧ cnt l + 1 = ((pieces l).map fun p => cnt p + 1).sum
  | n, l, hn, h => by
    by_cases hp : ∃ a r, l = a ++ 46 :: r ∧ ∀ c ∈ a, c ≠ 46
    · obtain ⟨a, r, rfl, ha⟩ := hp
      rw [pieces_cut a r ha, List.all_cons, Bool.and_eq_true] at h
      obtain ⟨w1, _⟩ := part_whole h.1
      cases n with
      | zero => simp at hn
      | succ n =>
        obtain ⟨w2, w3⟩ := whole_pieces n r (by simp at hn; omega) h.2
        have e := scan_app (46 :: r) a.length a (Nat.le_refl _) w1
        rw [scan_point] at e
        refine ⟨by rw [e]; simp only [List.length_append, List.length_cons]; omega, ?_⟩
        rw [pieces_cut a r ha, List.map_cons, List.sum_cons, ← w3]
        unfold cnt
        rw [e]
        simp only [List.length_append, List.length_cons]
        omega
    · have hno : ∀ c ∈ l, c ≠ 46 := fun c hc e => by
        subst e
        have : ∃ a r, l = a ++ 46 :: r ∧ ∀ c ∈ a, c ≠ 46 := by
          clear h hp hn
          induction l with
          | nil => cases hc
          | cons d l ih =>
            by_cases hd : d = 46
            · subst hd; exact ⟨[], l, rfl, fun c hc => by cases hc⟩
            · rcases List.mem_cons.1 hc with e | hc
              · exact absurd e.symm hd
              · obtain ⟨a, r, rfl, ha⟩ := ih hc
                exact ⟨d :: a, r, rfl, fun c hc => by
                  rcases List.mem_cons.1 hc with e | hc
                  · rw [e]; exact hd
                  · exact ha c hc⟩
        exact hp this
      rw [pieces_one l hno] at h ⊢
      obtain ⟨w1, _⟩ := part_whole (by simpa using h)
      exact ⟨w1, by simp⟩
/-- the document's: as many runes as it has -/
def nameR (l : List UInt8) : Bool := (pieces l).all Utf.part && (decide ((pieces l).length ≤ 4) && decide ((if (scan l).2 = l.length then (cnt l : Int) else -1) ≤ 24))
theorem name_same (l : List UInt8) : nameB l = nameR l := by
  unfold nameB nameR
  cases h : (pieces l).all Utf.part with
  | false => rfl
  | true =>
    obtain ⟨w1, w2⟩ := whole_pieces l.length l (Nat.le_refl _) h
    rw [if_pos w1, ← w2]
    congr 2
    exact decide_eq_decide.2 (by omega)
/-- a name is short -/
theorem small_enc {r : Nat} (h : smB (r : Int) = true) : (enc r).length ≤ 2 := by
  have h255 : r ≤ 255 := by
    unfold smB leB upB at h
    simp only [Bool.or_eq_true, Bool.and_eq_true, decide_eq_true_eq] at h
    omega
  rw [enc_len]
  unfold width
  split
  · omega
  · rw [if_pos (by omega)]; omega
theorem scan_short : ∀ (n : Nat) (l : List UInt8), l.length ≤ n → (∀ r ∈ (scan l).1, (enc r).length ≤ 2) → (scan l).2 ≤ 2 * (scan l).1.length
  | 0, l, h, _ => by
    obtain rfl : l = [] := List.eq_nil_of_length_eq_zero (by omega)
    rw [scan_nil]; simp
  | n + 1, l, h, hr => by
    by_cases hf : (first l).2 = 0
    · rw [scan_no l hf]; simp
    · have hs := first_size l hf
      rw [scan_yes l hf] at hr ⊢
      have h1 := hr (first l).1 (by simp)
      have h2 := (first_right l hf).2
      rw [h2, List.length_take] at h1
      have h3 := scan_short n (l.drop (first l).2) (by rw [List.length_drop]; omega) (fun r hm => hr r (by simp [hm]))
      simp only [List.length_cons]
      omega
theorem part_short {l : List UInt8} (h : Utf.part l = true) : l.length ≤ 2 * cnt l := by
  obtain ⟨w1, _, _, w4⟩ := part_whole h
  rw [← w1]
  exact scan_short l.length l (Nat.le_refl _) (fun r hr => small_enc (w4 r hr))
theorem pieces_short : ∀ (n : Nat) (l : List UInt8), l.length ≤ n → (pieces l).all Utf.part = true → l.length + 1 ≤ ((pieces l).map fun p => 2 * (cnt p + 1)).sum
  | n, l, hn, h => by
    by_cases hp : ∃ a r, l = a ++ 46 :: r ∧ ∀ c ∈ a, c ≠ 46
    · obtain ⟨a, r, rfl, ha⟩ := hp
      rw [pieces_cut a r ha, List.all_cons, Bool.and_eq_true] at h
      have h1 := part_short h.1
      cases n with
      | zero => simp at hn
      | succ n =>
        have h2 := pieces_short n r (by simp at hn; omega) h.2
        rw [pieces_cut a r ha, List.map_cons, List.sum_cons]
        simp only [List.length_append, List.length_cons]
        omega
    · have hno : pieces l = [l] := by
        apply pieces_one
        intro c hc e
        subst e
        apply hp
        clear h hp hn
        induction l with
        | nil => cases hc
        | cons d l ih =>
          by_cases hd : d = 46
          · subst hd; exact ⟨[], l, rfl, fun c hc => by cases hc⟩
          · rcases List.mem_cons.1 hc with e | hc
            · exact absurd e.symm hd
            · obtain ⟨a, r, rfl, ha⟩ := ih hc
              exact ⟨d :: a, r, rfl, fun c hc => by
                rcases List.mem_cons.1 hc with e | hc
                · rw [e]; exact hd
                · exact ha c hc⟩
      rw [hno] at h ⊢
      have := part_short (l := l) (by simpa using h)
      simp
      omega
theorem sum_two : ∀ (ps : List (List UInt8)), (ps.map fun p => 2 * (cnt p + 1)).sum = 2 * (ps.map fun p => cnt p + 1).sum
  | [] => rfl
  | p :: ps => by simp only [List.map_cons, List.sum_cons]; rw [sum_two ps]; omega
theorem name_short {l : List UInt8} (h : nameB l = true) : l.length ≤ 49 := by
  unfold nameB at h
  simp only [Bool.and_eq_true, decide_eq_true_eq] at h
  have h1 := pieces_short l.length l (Nat.le_refl _) h.1
  rw [sum_two] at h1
  omega
end Go.Proofs.YtnfhlnkbkfgihaaDoor.Nam

/- Nodes: the document's fields and leaves. No statement is proved here. -/
namespace Go.Proofs.YtnfhlnkbkfgihaaDoor.Nod
open Go.RowKit
open Go.Proofs.YtnfhlnkbkfgihaaDoor.Wire (u64_of field field_few)
set_option linter.unusedVariables false
set_option maxRecDepth 100000
set_option maxHeartbeats 400000 in
theorem rbytes_any (a : Option Addr) (b : List UInt8) (c : Nat) (w : World) (q1 : Rd w w.heap.size a (b.map e8)) (hl : b.length ≤ 1000) (hc : b.length ≤ c) :
    Calls Tryd.prog 48 #[.agg #[.int .i64 2, .int .i64 0, .int .u64 0, .slice a b.length c]] w fun e w' => RetB 5 w (fld b) e w' := by
  obtain ⟨u, hu⟩ := u64_of b.length (by omega)
  have hu' := Lib.hid (show (b.length : Int) = (u.toNat : Int) by omega)
  have hfd := Lib.hid (show Num.put u.toNat 2 ++ b = fld b by unfold fld; rw [hu]; rfl)
  clear hu
  have hmn : min (b.length : Int) 65535 = (b.length : Int) := by omega
  have hwu : IntKind.u64.wrap (b.length : Int) = (b.length : Int) := IntWalk.u64_in _ (by omega)
  go_enter Tryd.func48, Tryd.ntmps48
  go_wp2_with fail
  refine (Num.rputz_any u _ hu'.out 2 (by omega) (by omega) _).mono ?_
  intro e w1 h1
  obtain ⟨A1, c1, rfl, h3, h4⟩ := h1
  have h5 := bt (b1alloc _ _) h4
  go_wp2_with fail
  refine (R1.join_any _ _ _ _ _ _ _ _ _ rfl rfl (Rd.own h3) (q1.on h5) (by have := Num.put_le u.toNat 2; omega)).mono ?_
  intro e w2 h6
  rw [hfd.out] at h6
  obtain ⟨A2, c2, rfl, h7, h8⟩ := h6
  go_wp2
  go_ret
  exact RetB.after h5 h7 h8
theorem field_any (a : Option Addr) (b : List UInt8) (c : Nat) (w : World) (q1 : Rd w w.heap.size a (b.map e8)) (hl : b.length ≤ 1000) (hc : b.length ≤ c) :
    Calls Tryd.prog 31 #[.slice a b.length c] w fun e w' => RetB 5 w (fld b) e w' := by
  have H := Lib.hid (rbytes_any a b c w q1 hl hc)
  obtain ⟨n, hn⟩ : ∃ n, n = b.length := ⟨_, rfl⟩
  rw [← hn] at H ⊢
  clear hn
  go_enter Tryd.func31, Tryd.ntmps31
  go_wp2_with (go_at_call 48; refine H.out.mono ?_; rintro e w1 ⟨A1, c1, rfl, h1, b1⟩)
  go_ret
  exact ⟨A1, c1, rfl, h1, b1⟩
theorem str_nil {s : List UInt8} (h : s ≠ []) : (⟨s.toArray⟩ : ByteArray) ≠ ⟨#[]⟩ := fun e => h (by injection e with e; simpa using e)
set_option maxHeartbeats 400000 in
theorem leafbytes_any (s x : List UInt8) (A : Option Addr) (c : Nat) (w : World) (hr : Rd w w.heap.size A (x.map e8)) (hx : x.length ≤ 1000) (hs : s.length ≤ 1000) (hc : x.length ≤ c) :
    Calls Tryd.prog 14 #[.string ⟨s.toArray⟩, .slice A x.length c] w fun e w' => RetB 5 w (leafE s x) e w' := by
  by_cases h0 : s = []
  · subst h0
    go_enter Tryd.func14, Tryd.ntmps14
    go_wp2
    go_ret
    exact ⟨none, 0, rfl, own_nil _ _ _ _, Below.refl _ _⟩
  · have hne : s.isEmpty = false := by cases s with
      | nil => exact absurd rfl h0
      | cons a s => rfl
    have hv := Lib.hid (show leafE s x = fld s ++ fld x from if_neg h0)
    obtain ⟨c1, w1, hrun, b1, hsz, hc1, hcell⟩ := run_conv_new (P := Tryd.prog) w 9 25 5 s Tryd.underlying9 Tryd.underlying25 Tryd.underlying5
    have hrs : Rd w1 w1.heap.size (some ⟨w.heap.size, 0, none⟩) (s.map e8) := fun _ => ⟨_, _, rfl, hsz, hcell⟩
    have HF1 := Lib.hid (field_any (some ⟨w.heap.size, 0, none⟩) s c1 w1 hrs hs hc1)
    have HF2 := Lib.hid (fun W (bW : Below w.heap.size w W) => field_any A x c W (hr.on bW) hx hc)
    have l1 : (fld s).length ≤ 1002 := by rw [fld_len]; omega
    have l2 : (fld x).length ≤ 1002 := by rw [fld_len]; omega
    obtain ⟨F1, hF1⟩ : ∃ F, F = fld s := ⟨_, rfl⟩
    obtain ⟨F2, hF2⟩ : ∃ F, F = fld x := ⟨_, rfl⟩
    rw [← hF1, ← hF2] at hv
    rw [← hF1] at HF1 l1
    rw [← hF2] at HF2 l2
    clear hcell hrs hr hF1 hF2
    go_enter Tryd.func14, Tryd.ntmps14
    go_wp2_with (first
      | (go_at_call 31; refine HF1.out.mono ?_; rintro e w2 ⟨A2, c2, rfl, h2, b2⟩; clear HF1)
      | (go_at_call 31; refine (HF2.out _ (bt b1 b2)).mono ?_; rintro e w3 ⟨A3, c3, rfl, h3, b3⟩; clear HF2)
      | (go_at_call 33; refine (R1.join_any A2 A3 F1 F2 _ _ _ _ _ rfl rfl ((Rd.own h2).on b3) (Rd.own h3) (by omega)).mono ?_; rintro e w4 ⟨A4, c4, rfl, h4, b4⟩))
    go_ret
    rw [hv.out]
    have h := RetB.after (bt b1 (bt b2 b3)) h4 b4
    rw [List.length_append] at h
    exact h
end Go.Proofs.YtnfhlnkbkfgihaaDoor.Nod
