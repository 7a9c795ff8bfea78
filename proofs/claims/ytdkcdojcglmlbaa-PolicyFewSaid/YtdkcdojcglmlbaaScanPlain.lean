/- A text as runes, the plain law: what is read rune by rune, and where it ends. -/
import Derived.Test.YtdkcdojcglmlbaaUtfPlain
namespace Go.Proofs.Ytdkcdojcglmlbaa.Utf
set_option linter.unusedVariables false
theorem first_nil : first [] = (0, 0) := rfl
theorem first_size (l : List UInt8) (h : (first l).2 ≠ 0) : 1 ≤ (first l).2 ∧ (first l).2 ≤ 4 ∧ (first l).2 ≤ l.length := by
  have hs : 1 ≤ sizeOf1 (g l 0) ∧ sizeOf1 (g l 0) ≤ 4 := by unfold sizeOf1; split <;> (try split) <;> (try split) <;> omega
  revert h
  unfold first
  split
  · intro h; exact absurd rfl h
  · split
    · intro h; exact absurd rfl h
    · split
      · intro h; exact absurd rfl h
      · split
        · intro h; simp only; omega
        · intro h; exact absurd rfl h
theorem first_none (l : List UInt8) (h : (first l).2 = 0) : first l = (0, 0) := by
  have hs : 1 ≤ sizeOf1 (g l 0) := by unfold sizeOf1; split <;> (try split) <;> (try split) <;> omega
  revert h
  unfold first
  split
  · intro h; rfl
  · split
    · intro h; rfl
    · split
      · intro h; rfl
      · split
        · intro h; simp only at h; omega
        · intro h; rfl
theorem first_right (l : List UInt8) (h : (first l).2 ≠ 0) : right (first l).1 = true ∧ enc (first l).1 = l.take (first l).2 := by
  revert h
  unfold first
  split
  · intro h; exact absurd rfl h
  · split
    · intro h; exact absurd rfl h
    · split
      · intro h; exact absurd rfl h
      · split
        · rename_i h; intro _; exact h
        · intro h; exact absurd rfl h
/-- the runes of a text, up to its end or to where it has none; and how many bytes they have -/
def scan (l : List UInt8) : List Nat × Nat :=
  if h : (first l).2 = 0 then ([], 0)
  else ((first l).1 :: (scan (l.drop (first l).2)).1, (first l).2 + (scan (l.drop (first l).2)).2)
termination_by l.length
decreasing_by
  all_goals
    have := first_size l h
    rw [List.length_drop]; omega
theorem scan_no (l : List UInt8) (h : (first l).2 = 0) : scan l = ([], 0) := by rw [scan, dif_pos h]
theorem scan_yes (l : List UInt8) (h : (first l).2 ≠ 0) : scan l = ((first l).1 :: (scan (l.drop (first l).2)).1, (first l).2 + (scan (l.drop (first l).2)).2) := by rw [scan, dif_neg h]
theorem scan_nil : scan [] = ([], 0) := scan_no [] rfl
theorem scan_le : ∀ (n : Nat) (l : List UInt8), l.length ≤ n → (scan l).2 ≤ l.length ∧ (scan l).1.length ≤ l.length ∧ ∀ r ∈ (scan l).1, r ≤ 1114111
  | 0, l, h => by
    obtain rfl : l = [] := List.eq_nil_of_length_eq_zero (by omega)
    rw [scan_nil]; simp
  | n + 1, l, h => by
    by_cases hf : (first l).2 = 0
    · rw [scan_no l hf]; simp
    · have hs := first_size l hf
      have hr := (first_right l hf).1
      obtain ⟨h1, h2, h3⟩ := scan_le n (l.drop (first l).2) (by rw [List.length_drop]; omega)
      rw [List.length_drop] at h1 h2
      rw [scan_yes l hf]
      refine ⟨by simp only; omega, by simp only [List.length_cons]; omega, fun r hm => ?_⟩
      rcases List.mem_cons.1 hm with rfl | hm
      · unfold right at hr; exact (of_decide_eq_true hr).1
      · exact h3 r hm
/-- is a text right throughout? -/
def wholeB (l : List UInt8) : Bool := decide ((scan l).2 = l.length)
/-- behind k bytes that were read -/
theorem scan_step {l : List UInt8} {rs : List Nat} {k : Nat} (hk : k ≤ l.length) (h : scan l = (rs ++ (scan (l.drop k)).1, k + (scan (l.drop k)).2)) (hf : (first (l.drop k)).2 ≠ 0) :
    scan l = ((rs ++ [(first (l.drop k)).1]) ++ (scan (l.drop (k + (first (l.drop k)).2))).1, (k + (first (l.drop k)).2) + (scan (l.drop (k + (first (l.drop k)).2))).2) ∧ k + (first (l.drop k)).2 ≤ l.length := by
  have hs := first_size _ hf
  rw [List.length_drop] at hs
  rw [h, scan_yes _ hf, List.drop_drop]
  refine ⟨by simp only [List.append_assoc, List.singleton_append, Nat.add_assoc], by omega⟩
theorem dec_none {l : List UInt8} (hne : l ≠ []) : (first l).2 = 0 ↔ dec l = (65533, 1) := by
  have h := first_eq l hne
  constructor
  · intro h0
    by_cases hd : dec l = (65533, 1)
    · exact hd
    · rw [if_neg hd] at h
      rw [h] at h0
      exfalso
      revert h0
      unfold dec
      split
      · simp
      · split
        · split <;> simp
        · split
          · split <;> simp
          · split
            · split <;> simp
            · simp
  · intro hd
    rw [h, if_pos hd]
theorem dec_some {l : List UInt8} (hne : l ≠ []) (h : (first l).2 ≠ 0) : dec l = first l := by
  have h2 := first_eq l hne
  rw [if_neg (fun e => h ((dec_none hne).2 e))] at h2
  exact h2.symm
end Go.Proofs.Ytdkcdojcglmlbaa.Utf
