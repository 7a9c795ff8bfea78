/- Great arrays and structs by value, and rows of such: what lies where, and the operations that make, load and store them whole. -/
import Derived.Test.YtkapamolligmkaaArr
import Derived.Deep.MidRow
import Derived.Great.FillDense
import Derived.Great.BuildSlice
import Derived.Laws.Tables
namespace Go.Proofs.Ytkapamolligmkaa
open Go.RowKit
set_option linter.unusedVariables false

theorem fill_set (off : Nat) (v : Value) (cells : Array Value) (h : off + v.cells.size ≤ cells.size) :
    (v.cells.zipIdx.foldl (fun cs (c, j) => cs.setIfInBounds (off + j) c) cells).toList = cells.toList.take off ++ v.cells.toList ++ cells.toList.drop (off + v.cells.size) := by
  have h0 : v.cells.zipIdx.foldl (fun cs (c, j) => cs.setIfInBounds (off + j) c) cells = (v.cells.toList.zipIdx 0).foldl (fun cs (x : Value × Nat) => cs.setIfInBounds (off + x.2) x.1) cells := by
    rw [← Array.foldl_toList, Array.toList_zipIdx]
  rw [h0]
  obtain ⟨h1, h2⟩ := Great.foldl_set off v.cells.toList 0 cells
  apply List.ext_getElem?
  intro k
  rw [Array.getElem?_toList, h2 k]
  simp only [Nat.add_zero, Array.length_toList]
  by_cases ha : k < off
  · rw [if_neg (by omega), List.append_assoc, List.getElem?_append_left (by simp; omega), List.getElem?_take_of_lt ha, Array.getElem?_toList]
  · by_cases hb : k < off + v.cells.size
    · rw [if_pos ⟨by omega, by omega, by omega⟩, List.append_assoc, List.getElem?_append_right (by simp; omega), List.getElem?_append_left (by simp; omega)]
      simp only [List.length_take, Array.length_toList, Nat.min_eq_left (show off ≤ cells.size by omega)]
    · rw [if_neg (by omega), List.getElem?_append_right (by simp; omega), List.getElem?_drop]
      simp only [List.length_append, List.length_take, Array.length_toList, Nat.min_eq_left (show off ≤ cells.size by omega), Array.getElem?_toList]
      congr 1
      omega
theorem fill_one (place : Nat → Option (Nat × Nat)) (cells : Array Value) (v : Value) (h0 : place 0 = some (0, v.cells.size)) (hs : cells.size = v.cells.size) : Instr.fill place cells [(0, v)] = some v.cells := by
  unfold Instr.fill
  simp only [h0]
  rw [if_neg (by simp; omega)]
  unfold Instr.fill
  congr 1
  apply Array.toList_inj.1
  rw [fill_set 0 v cells (by omega)]
  simp [hs]
theorem fill_two (place : Nat → Option (Nat × Nat)) (cells : Array Value) (v0 v1 : Value) (h0 : place 0 = some (0, v0.cells.size)) (h1 : place 1 = some (v0.cells.size, v1.cells.size)) (hs : cells.size = v0.cells.size + v1.cells.size) :
    Instr.fill place cells [(0, v0), (1, v1)] = some (v0.cells ++ v1.cells) := by
  unfold Instr.fill
  simp only [h0]
  rw [if_neg (by simp; omega)]
  unfold Instr.fill
  simp only [h1]
  have hz : (v0.cells.zipIdx.foldl (fun cs (c, j) => cs.setIfInBounds (0 + j) c) cells).size = cells.size := by
    have := congrArg List.length (fill_set 0 v0 cells (by omega))
    simp only [Array.length_toList, List.length_append, List.length_take, List.length_drop] at this
    rw [this]; omega
  rw [if_neg (by rw [hz]; simp; omega)]
  unfold Instr.fill
  congr 1
  apply Array.toList_inj.1
  rw [fill_set v0.cells.size v1 _ (by rw [hz]; omega), fill_set 0 v0 cells (by omega)]
  simp only [List.take_zero, List.nil_append, Nat.zero_add, Array.toList_append]
  rw [List.take_append_of_le_length (by simp), List.take_of_length_le (by simp), List.drop_of_length_le (by simp; omega), List.append_nil]

/-! rows of great elements -/
theorem flat_len {α β : Type} (f : α → List β) (m : Nat) : ∀ (l : List α), (∀ x ∈ l, (f x).length = m) → (l.flatMap f).length = l.length * m
  | [], _ => by simp
  | x :: l, h => by
    rw [List.flatMap_cons, List.length_append, h x (by simp), flat_len f m l (fun y hy => h y (by simp [hy])), List.length_cons, Nat.succ_mul]; omega
theorem flat_at {α β : Type} (f : α → List β) (m : Nat) : ∀ (l : List α), (∀ x ∈ l, (f x).length = m) → ∀ (i j : Nat) (hi : i < l.length), j < m → (l.flatMap f)[i * m + j]? = (f l[i])[j]?
  | [], _, i, j, hi, _ => absurd hi (by simp)
  | x :: l, h, 0, j, hi, hj => by
    rw [List.flatMap_cons, Nat.zero_mul, Nat.zero_add, List.getElem?_append_left (by rw [h x (by simp)]; exact hj)]; rfl
  | x :: l, h, i + 1, j, hi, hj => by
    rw [List.flatMap_cons, List.getElem?_append_right (by rw [h x (by simp), Nat.succ_mul]; omega), h x (by simp), Nat.succ_mul, show i * m + m + j - m = i * m + j by omega,
      flat_at f m l (fun y hy => h y (by simp [hy])) i j (by simpa using hi) hj]
    rfl
theorem splice_len : ∀ (ys xs : List Value) (o : Nat), (splice xs o ys).length = xs.length
  | [], xs, o => rfl
  | y :: ys, xs, o => by show (splice (xs.set o y) (o + 1) ys).length = _; rw [splice_len ys]; simp
theorem splice_get : ∀ (ys xs : List Value) (o k : Nat), o + ys.length ≤ xs.length → (splice xs o ys)[k]? = if o ≤ k ∧ k < o + ys.length then ys[k - o]? else xs[k]?
  | [], xs, o, k, h => by rw [if_neg (by simp)]; rfl
  | y :: ys, xs, o, k, h => by
    show (splice (xs.set o y) (o + 1) ys)[k]? = _
    rw [List.length_cons] at h
    rw [splice_get ys _ (o + 1) k (by rw [List.length_set]; omega)]
    by_cases e : k = o
    · subst e
      rw [if_neg (by omega), if_pos (by simp), Nat.sub_self, List.getElem?_set_self (by omega)]; rfl
    · rw [List.getElem?_set_ne (Ne.symm e)]
      by_cases hk : o + 1 ≤ k ∧ k < o + 1 + ys.length
      · rw [if_pos hk, if_pos (by rw [List.length_cons]; omega), show k - o = (k - (o + 1)) + 1 by omega, List.getElem?_cons_succ]
      · rw [if_neg hk, if_neg (by rw [List.length_cons]; omega)]
/-- one great element of a row is set -/
theorem splice_flat {α : Type} (f g : α → List Value) (m : Nat) (l : List α) (hf : ∀ x ∈ l, (f x).length = m) (hg : ∀ x ∈ l, (g x).length = m) (i : Nat) (hi : i < l.length) (ys : List Value) (hy : ys.length = m) (he : g l[i] = ys) (ho : ∀ k (hk : k < l.length), k ≠ i → g l[k] = f l[k]) :
    splice (l.flatMap f) (i * m) ys = l.flatMap g := by
  have hle : i * m + m ≤ l.length * m := by rw [← Nat.succ_mul]; exact Nat.mul_le_mul_right _ hi
  have hlf := flat_len f m l hf
  have hlg := flat_len g m l hg
  apply List.ext_getElem?
  intro k
  rw [splice_get _ _ _ _ (by rw [hlf, hy]; exact hle)]
  by_cases hk : k < l.length * m
  · have hm : 0 < m := Nat.pos_of_ne_zero (fun e => by subst e; simp at hk)
    have hq : k / m < l.length := (Nat.div_lt_iff_lt_mul hm).2 hk
    have hr : k % m < m := Nat.mod_lt _ hm
    have hkd : k = k / m * m + k % m := by rw [Nat.mul_comm]; exact (Nat.div_add_mod k m).symm
    generalize k / m = q at hq hkd
    generalize k % m = r at hr hkd
    subst hkd
    rw [flat_at g m l hg q r hq hr]
    by_cases e : q = i
    · subst e
      rw [if_pos ⟨by omega, by rw [hy]; omega⟩, he]
      congr 1
      omega
    · rw [if_neg (by
        rw [hy]
        rintro ⟨h1, h2⟩
        rcases Nat.lt_or_gt_of_ne e with h | h
        · have : (q + 1) * m ≤ i * m := Nat.mul_le_mul_right _ h
          rw [Nat.succ_mul] at this; omega
        · have : (i + 1) * m ≤ q * m := Nat.mul_le_mul_right _ h
          rw [Nat.succ_mul] at this; omega), flat_at f m l hf q r hq hr, ho q hq e]
  · rw [if_neg (by rw [hy]; omega), List.getElem?_eq_none (by rw [hlf]; omega), List.getElem?_eq_none (by rw [hlg]; omega)]

/-! what is owned, by parts -/
theorem own_range {w : World} {base : Nat} {e : TypeId} {size n g c : Nat} {xs ys : List Value} {o : Nat} (h : w.ownsRow base e size (.slice (some ⟨g, 0, none⟩) n c) n xs) (hy : ∀ j, j < ys.length → xs[o + j]? = ys[j]?) : w.rangeAt g o ys := fun j v hv => by
  have hj := (List.getElem?_eq_some_iff.1 hv).1
  have h1 := hy j hj
  rw [hv] at h1
  have hk := (List.getElem?_eq_some_iff.1 h1).1
  rw [World.ownsRow.cellAt h (o + j) (by have := h.1; omega)]
  exact h1
end Go.Proofs.Ytkapamolligmkaa
