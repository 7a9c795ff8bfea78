/- The walks of the small tests of a rune: is it upper, a letter, small; may it be. -/
import Derived.Test.YtdkcdojcglmlbaaBase
import Derived.Test.YtdkcdojcglmlbaaUtfPlain
import Derived.Test.YtdkcdojcglmlbaaRows
import Derived.Outline
namespace Go.Proofs.Ytdkcdojcglmlbaa.Utf
open Go.RowKit
set_option linter.unusedVariables false
set_option maxRecDepth 100000
def upB (r : Int) : Bool := decide (65 ≤ r ∧ r ≤ 90 ∨ 192 ≤ r ∧ r ≤ 222 ∧ r ≠ 215)
def leB (r : Int) : Bool := upB r || decide (97 ≤ r ∧ r ≤ 122 ∨ 223 ≤ r ∧ r ≤ 255 ∧ r ≠ 247)
def smB (r : Int) : Bool := decide (48 ≤ r ∧ r ≤ 57) || (leB r && !upB r)
def riB (r : Int) : Bool := decide (0 ≤ r ∧ r ≤ 1114111 ∧ (r < 55296 ∨ 57343 < r))
theorem ub_yes {r : Int} (h : 65 ≤ r ∧ r ≤ 90 ∨ 192 ≤ r ∧ r ≤ 222 ∧ r ≠ 215) : upB r = true := decide_eq_true h
theorem ub_no {r : Int} (h : ¬ (65 ≤ r ∧ r ≤ 90 ∨ 192 ≤ r ∧ r ≤ 222 ∧ r ≠ 215)) : upB r = false := decide_eq_false h
theorem bool_ret {a b : Bool} (h : b = a) : Ending.returned (.bool a) = .returned (.bool b) := by rw [h]
theorem upper_any (r : Int) (w : World) : Calls Try.prog 156 #[.int .i32 r] w fun e w' => e = .returned (.bool (upB r)) ∧ w = w' := by
  rcases (show r < 65 ∨ (65 ≤ r ∧ r ≤ 90) ∨ (65 ≤ r ∧ 90 < r ∧ r < 192) ∨ (65 ≤ r ∧ 90 < r ∧ 192 ≤ r ∧ r ≤ 222 ∧ r = 215) ∨ (65 ≤ r ∧ 90 < r ∧ 192 ≤ r ∧ r ≤ 222 ∧ r ≠ 215) ∨ (65 ≤ r ∧ 90 < r ∧ 192 ≤ r ∧ 222 < r) by omega) with h1 | ⟨h1, h2⟩ | ⟨h1, h2, h3⟩ | ⟨h1, h2, h3, h4, h5⟩ | ⟨h1, h2, h3, h4, h5⟩ | ⟨h1, h2, h3, h4⟩
  case' inr.inr.inr.inl => have h6 := bne_no h5
  case' inr.inr.inr.inr.inl => have h6 := bne_yes h5
  case' inl => have h9 : ¬ (192 : Int) ≤ r := (by omega)
  case' inr.inr.inl => have h9 : ¬ (192 : Int) ≤ r := (by omega)
  all_goals
    have he := Lib.hid (show upB r = _ from (by first | exact ub_yes (by omega) | exact ub_no (by omega)))
    (try clear h5)
    go_enter Try.func156, Try.ntmps156
    go_wp2
    go_ret
    exact ⟨bool_ret (he.out.trans (by first | rfl | (simp <;> omega))), rfl⟩
theorem rupper_any (r : Int) (w : World) : Calls Try.prog 148 #[.int .i32 r] w fun e w' => e = .returned (.bool (upB r)) ∧ w = w' := by
  rcases (show r < 65 ∨ (65 ≤ r ∧ r ≤ 90) ∨ (65 ≤ r ∧ 90 < r ∧ r < 192) ∨ (65 ≤ r ∧ 90 < r ∧ 192 ≤ r ∧ r ≤ 222 ∧ r = 215) ∨ (65 ≤ r ∧ 90 < r ∧ 192 ≤ r ∧ r ≤ 222 ∧ r ≠ 215) ∨ (65 ≤ r ∧ 90 < r ∧ 192 ≤ r ∧ 222 < r) by omega) with h1 | ⟨h1, h2⟩ | ⟨h1, h2, h3⟩ | ⟨h1, h2, h3, h4, h5⟩ | ⟨h1, h2, h3, h4, h5⟩ | ⟨h1, h2, h3, h4⟩
  case' inr.inr.inr.inl => have h6 := bne_no h5
  case' inr.inr.inr.inr.inl => have h6 := bne_yes h5
  case' inl => have h9 : ¬ (192 : Int) ≤ r := (by omega)
  case' inr.inr.inl => have h9 : ¬ (192 : Int) ≤ r := (by omega)
  all_goals
    have he := Lib.hid (show upB r = _ from (by first | exact ub_yes (by omega) | exact ub_no (by omega)))
    (try clear h5)
    go_enter Try.func148, Try.ntmps148
    go_wp2
    go_ret
    exact ⟨bool_ret (he.out.trans (by first | rfl | (simp <;> omega))), rfl⟩
theorem letter_any (r : Int) (w : World) : Calls Try.prog 155 #[.int .i32 r] w fun e w' => e = .returned (.bool (leB r)) ∧ w = w' := by
  have hu := Lib.hid (upper_any r w)
  cases hb : upB r with
  | true =>
    rw [hb] at hu
    have he := Lib.hid (show leB r = true by unfold leB; rw [hb]; rfl)
    go_enter Try.func155, Try.ntmps155
    go_wp2_with (go_at_call 156; refine (hu.out).mono ?_; rintro e w1 ⟨rfl, rfl⟩)
    go_ret
    exact ⟨bool_ret (he.out.trans (by first | rfl | (simp <;> omega))), rfl⟩
  | false =>
    rw [hb] at hu
    have hl : leB r = decide (97 ≤ r ∧ r ≤ 122 ∨ 223 ≤ r ∧ r ≤ 255 ∧ r ≠ 247) := by unfold leB; rw [hb]; rfl
    rcases (show r < 97 ∨ (97 ≤ r ∧ r ≤ 122) ∨ (97 ≤ r ∧ 122 < r ∧ r < 223) ∨ r = 247 ∨ (97 ≤ r ∧ 122 < r ∧ 223 ≤ r ∧ r ≤ 255 ∧ r ≠ 247) ∨ (97 ≤ r ∧ 122 < r ∧ 223 ≤ r ∧ 255 < r) by omega) with h1 | ⟨h1, h2⟩ | ⟨h1, h2, h3⟩ | h1 | ⟨h1, h2, h3, h4, h5⟩ | ⟨h1, h2, h3, h4⟩
    case' inr.inr.inr.inl =>
      have n8 := (show (r == 247) = true by simp [h1])
      have n9 := bne_no h1
      have n1 : 97 ≤ r := (by omega)
      have n2 : 122 < r := (by omega)
      have n3 : 223 ≤ r := (by omega)
      have n4 : r ≤ 255 := (by omega)
    all_goals (try (have n7 : r ≠ 247 := by omega))
    all_goals (try (have h9 : ¬ (223 : Int) ≤ r := by omega))
    all_goals
      have he := Lib.hid (show leB r = _ from hl.trans (by first | exact decide_eq_true (by omega) | exact decide_eq_false (by omega)))
      (try have n8 := beq_no n7)
      (try have n9 := bne_yes n7)
      clear hl hb
      (try clear h5)
      (try clear n7)
      (try (have n5 := n1; clear h1))
      go_enter Try.func155, Try.ntmps155
      go_wp2_with (go_at_call 156; refine (hu.out).mono ?_; rintro e w1 ⟨rfl, rfl⟩)
      go_ret
      exact ⟨bool_ret (he.out.trans (by first | rfl | (simp <;> omega))), rfl⟩
theorem rletter_any (r : Int) (w : World) : Calls Try.prog 147 #[.int .i32 r] w fun e w' => e = .returned (.bool (leB r)) ∧ w = w' := by
  have hu := Lib.hid (rupper_any r w)
  cases hb : upB r with
  | true =>
    rw [hb] at hu
    have he := Lib.hid (show leB r = true by unfold leB; rw [hb]; rfl)
    go_enter Try.func147, Try.ntmps147
    go_wp2_with (go_at_call 148; refine (hu.out).mono ?_; rintro e w1 ⟨rfl, rfl⟩)
    go_ret
    exact ⟨bool_ret (he.out.trans (by first | rfl | (simp <;> omega))), rfl⟩
  | false =>
    rw [hb] at hu
    have hl : leB r = decide (97 ≤ r ∧ r ≤ 122 ∨ 223 ≤ r ∧ r ≤ 255 ∧ r ≠ 247) := by unfold leB; rw [hb]; rfl
    rcases (show r < 97 ∨ (97 ≤ r ∧ r ≤ 122) ∨ (97 ≤ r ∧ 122 < r ∧ r < 223) ∨ r = 247 ∨ (97 ≤ r ∧ 122 < r ∧ 223 ≤ r ∧ r ≤ 255 ∧ r ≠ 247) ∨ (97 ≤ r ∧ 122 < r ∧ 223 ≤ r ∧ 255 < r) by omega) with h1 | ⟨h1, h2⟩ | ⟨h1, h2, h3⟩ | h1 | ⟨h1, h2, h3, h4, h5⟩ | ⟨h1, h2, h3, h4⟩
    case' inr.inr.inr.inl =>
      have n8 := (show (r == 247) = true by simp [h1])
      have n9 := bne_no h1
      have n1 : 97 ≤ r := (by omega)
      have n2 : 122 < r := (by omega)
      have n3 : 223 ≤ r := (by omega)
      have n4 : r ≤ 255 := (by omega)
    all_goals (try (have n7 : r ≠ 247 := by omega))
    all_goals (try (have h9 : ¬ (223 : Int) ≤ r := by omega))
    all_goals
      have he := Lib.hid (show leB r = _ from hl.trans (by first | exact decide_eq_true (by omega) | exact decide_eq_false (by omega)))
      (try have n8 := beq_no n7)
      (try have n9 := bne_yes n7)
      clear hl hb
      (try clear h5)
      (try clear n7)
      (try (have n5 := n1; clear h1))
      go_enter Try.func147, Try.ntmps147
      go_wp2_with (go_at_call 148; refine (hu.out).mono ?_; rintro e w1 ⟨rfl, rfl⟩)
      go_ret
      exact ⟨bool_ret (he.out.trans (by first | rfl | (simp <;> omega))), rfl⟩
theorem small_any (r : Int) (w : World) : Calls Try.prog 150 #[.int .i32 r] w fun e w' => e = .returned (.bool (smB r)) ∧ w = w' := by
  have hl := Lib.hid (letter_any r w)
  have hu := Lib.hid (upper_any r w)
  rcases (show r < 48 ∨ (48 ≤ r ∧ r ≤ 57) ∨ (48 ≤ r ∧ 57 < r) by omega) with h1 | ⟨h1, h2⟩ | ⟨h1, h2⟩
  case' inl => have hs : smB r = (leB r && !upB r) := (by unfold smB; rw [decide_eq_false (by omega)]; rfl)
  case' inr.inl =>
    have he := Lib.hid (show smB r = true by unfold smB; rw [decide_eq_true (by omega)]; rfl)
    go_enter Try.func150, Try.ntmps150
    go_wp2
    go_ret
    exact ⟨bool_ret (he.out.trans (by first | rfl | (simp <;> omega))), rfl⟩
  case' inr.inr => have hs : smB r = (leB r && !upB r) := (by unfold smB; rw [decide_eq_false (by omega)]; rfl)
  all_goals
    cases hb : leB r with
    | false =>
      rw [hb] at hl hs
      have he := Lib.hid (show smB r = false by rw [hs]; rfl)
      clear hs
      go_enter Try.func150, Try.ntmps150
      go_wp2_with (first | (go_at_call 155; refine (hl.out).mono ?_; rintro e w1 ⟨rfl, rfl⟩) | (go_at_call 156; refine (hu.out).mono ?_; rintro e w1 ⟨rfl, rfl⟩))
      go_ret
      exact ⟨bool_ret (he.out.trans (by first | rfl | (simp <;> omega))), rfl⟩
    | true =>
      rw [hb] at hl hs
      have he := Lib.hid (show smB r = !upB r by rw [hs]; rfl)
      clear hs
      go_enter Try.func150, Try.ntmps150
      go_wp2_with (first | (go_at_call 155; refine (hl.out).mono ?_; rintro e w1 ⟨rfl, rfl⟩) | (go_at_call 156; refine (hu.out).mono ?_; rintro e w1 ⟨rfl, rfl⟩))
      go_ret
      exact ⟨bool_ret (he.out.trans (by first | rfl | (simp <;> omega))), rfl⟩
theorem rsmall_any (r : Int) (w : World) : Calls Try.prog 141 #[.int .i32 r] w fun e w' => e = .returned (.bool (smB r)) ∧ w = w' := by
  have hl := Lib.hid (rletter_any r w)
  have hu := Lib.hid (rupper_any r w)
  rcases (show r < 48 ∨ (48 ≤ r ∧ r ≤ 57) ∨ (48 ≤ r ∧ 57 < r) by omega) with h1 | ⟨h1, h2⟩ | ⟨h1, h2⟩
  case' inl => have hs : smB r = (leB r && !upB r) := (by unfold smB; rw [decide_eq_false (by omega)]; rfl)
  case' inr.inl =>
    have he := Lib.hid (show smB r = true by unfold smB; rw [decide_eq_true (by omega)]; rfl)
    go_enter Try.func141, Try.ntmps141
    go_wp2
    go_ret
    exact ⟨bool_ret (he.out.trans (by first | rfl | (simp <;> omega))), rfl⟩
  case' inr.inr => have hs : smB r = (leB r && !upB r) := (by unfold smB; rw [decide_eq_false (by omega)]; rfl)
  all_goals
    cases hb : leB r with
    | false =>
      rw [hb] at hl hs
      have he := Lib.hid (show smB r = false by rw [hs]; rfl)
      clear hs
      go_enter Try.func141, Try.ntmps141
      go_wp2_with (first | (go_at_call 147; refine (hl.out).mono ?_; rintro e w1 ⟨rfl, rfl⟩) | (go_at_call 148; refine (hu.out).mono ?_; rintro e w1 ⟨rfl, rfl⟩))
      go_ret
      exact ⟨bool_ret (he.out.trans (by first | rfl | (simp <;> omega))), rfl⟩
    | true =>
      rw [hb] at hl hs
      have he := Lib.hid (show smB r = !upB r by rw [hs]; rfl)
      clear hs
      go_enter Try.func141, Try.ntmps141
      go_wp2_with (first | (go_at_call 147; refine (hl.out).mono ?_; rintro e w1 ⟨rfl, rfl⟩) | (go_at_call 148; refine (hu.out).mono ?_; rintro e w1 ⟨rfl, rfl⟩))
      go_ret
      exact ⟨bool_ret (he.out.trans (by first | rfl | (simp <;> omega))), rfl⟩
theorem rright_any (r : Int) (w : World) : Calls Try.prog 151 #[.int .i32 r] w fun e w' => e = .returned (.bool (riB r)) ∧ w = w' := by
  rcases (show r < 0 ∨ (0 ≤ r ∧ 1114111 < r) ∨ (0 ≤ r ∧ r ≤ 1114111 ∧ r < 55296) ∨ (0 ≤ r ∧ r ≤ 1114111 ∧ 55296 ≤ r ∧ r ≤ 57343) ∨ (0 ≤ r ∧ r ≤ 1114111 ∧ 55296 ≤ r ∧ 57343 < r) by omega) with h1 | ⟨h1, h2⟩ | ⟨h1, h2, h3⟩ | ⟨h1, h2, h3, h4⟩ | ⟨h1, h2, h3, h4⟩
  all_goals
    have he := Lib.hid (show riB r = _ from (by first | exact decide_eq_true (by omega) | exact decide_eq_false (by omega)))
    go_enter Try.func151, Try.ntmps151
    go_wp2
    go_ret
    exact ⟨bool_ret (he.out.trans (by first | rfl | (simp <;> omega))), rfl⟩
theorem ri_right (r : Nat) : riB (r : Int) = right r := by
  unfold riB right
  rw [Bool.eq_iff_iff]
  simp only [decide_eq_true_eq]
  omega
end Go.Proofs.Ytdkcdojcglmlbaa.Utf
