/- What is read of a text of signs, and that it undoes the writing: plain functions; nothing of the program. -/
import Derived.Test.YtknjkafjeicmbaaHexPlain
namespace Go.Proofs.Ytknjkafjeicmbaa.Hex

/-- what a sign stands for -/
def val (c : UInt8) : Option UInt8 := if 48 ≤ c.toNat ∧ c.toNat ≤ 57 then some (c - 48) else if 97 ≤ c.toNat ∧ c.toNat ≤ 102 then some (c - 87) else none
/-- the same, nought where it stands for none -/
def vl (c : UInt8) : UInt8 := (val c).getD 0
/-- the bytes of pairs of signs -/
def outp : List UInt8 → List UInt8
  | a :: b :: t => (vl a <<< 4 ||| vl b) :: outp t
  | _ => []
/-- all signs are good -/
def good (l : List UInt8) : Prop := ∀ c ∈ l, (val c).isSome = true
theorem val_lt {c n : UInt8} (h : val c = some n) : n.toNat < 16 := by
  unfold val at h
  split at h
  · injection h with h; subst h
    have : (48 : UInt8).toNat = 48 := rfl
    rw [UInt8.toNat_sub_of_le _ _ (UInt8.le_iff_toNat_le.2 (by omega))]; omega
  · split at h
    · injection h with h; subst h
      have : (87 : UInt8).toNat = 87 := rfl
      rw [UInt8.toNat_sub_of_le _ _ (UInt8.le_iff_toNat_le.2 (by omega))]; omega
    · cases h
theorem vl_lt (c : UInt8) : (vl c).toNat < 16 := by
  unfold vl
  cases h : val c with
  | none => decide
  | some n => exact val_lt h
theorem val_dig (n : UInt8) (hn : n.toNat < 16) : val (dig n) = some n := by
  have h : ∀ k : Fin 16, val (dig (UInt8.ofNat k.1)) = some (UInt8.ofNat k.1) := by decide
  have := h ⟨n.toNat, hn⟩
  simpa using this
set_option maxRecDepth 20000 in
theorem dig_val {c n : UInt8} (h : val c = some n) : dig n = c := by
  have k : ∀ c : Fin 256, ∀ n, val (UInt8.ofNat c.1) = some n → dig n = UInt8.ofNat c.1 := by
    intro c n
    unfold val dig
    revert c
    have : ∀ c : Fin 256, (match (if 48 ≤ (UInt8.ofNat c.1).toNat ∧ (UInt8.ofNat c.1).toNat ≤ 57 then some (UInt8.ofNat c.1 - 48) else if 97 ≤ (UInt8.ofNat c.1).toNat ∧ (UInt8.ofNat c.1).toNat ≤ 102 then some (UInt8.ofNat c.1 - 87) else none) with | none => true | some n => decide ((if n.toNat < 10 then 48 + n else 87 + n) = UInt8.ofNat c.1)) = true := by decide
    intro c hc
    have := this c
    rw [hc] at this
    simpa using this
  have := k ⟨c.toNat, c.toNat_lt⟩ n (by simpa using h)
  simpa using this
theorem hi_of (a b : UInt8) (ha : a.toNat < 16) (hb : b.toNat < 16) : (a <<< 4 ||| b) >>> 4 = a := by
  apply UInt8.toNat_inj.1
  have h1 : (a <<< 4).toNat = a.toNat * 16 := by rw [UInt8.toNat_shiftLeft]; simp [Nat.shiftLeft_eq]; omega
  have h2 : (a <<< 4 ||| b).toNat = a.toNat * 16 + b.toNat := by
    rw [UInt8.toNat_or, h1]
    have := Nat.shiftLeft_add_eq_or_of_lt (i := 4) hb a.toNat
    rw [Nat.shiftLeft_eq] at this
    exact this.symm
  rw [UInt8.toNat_shiftRight, h2]
  simp [Nat.shiftRight_eq_div_pow]; omega
theorem lo_of (a b : UInt8) (ha : a.toNat < 16) (hb : b.toNat < 16) : (a <<< 4 ||| b) &&& 15 = b := by
  apply UInt8.toNat_inj.1
  have h1 : (a <<< 4).toNat = a.toNat * 16 := by rw [UInt8.toNat_shiftLeft]; simp [Nat.shiftLeft_eq]; omega
  have h2 : (a <<< 4 ||| b).toNat = a.toNat * 16 + b.toNat := by
    rw [UInt8.toNat_or, h1]
    have := Nat.shiftLeft_add_eq_or_of_lt (i := 4) hb a.toNat
    rw [Nat.shiftLeft_eq] at this
    exact this.symm
  rw [UInt8.toNat_and, h2]
  have : (15 : UInt8).toNat = 2 ^ 4 - 1 := rfl
  rw [this, Nat.and_two_pow_sub_one_eq_mod]; omega
theorem back_byte (c : UInt8) : (c >>> 4) <<< 4 ||| (c &&& 15) = c := by
  apply UInt8.toNat_inj.1
  have h0 := c.toNat_lt
  have h3 : (c >>> 4).toNat = c.toNat / 16 := by rw [UInt8.toNat_shiftRight]; simp [Nat.shiftRight_eq_div_pow]
  have h1 : ((c >>> 4) <<< 4).toNat = c.toNat / 16 * 16 := by rw [UInt8.toNat_shiftLeft, h3]; simp [Nat.shiftLeft_eq]; omega
  have h4 : (c &&& 15).toNat = c.toNat % 16 := by rw [UInt8.toNat_and]; exact Nat.and_two_pow_sub_one_eq_mod c.toNat 4
  rw [UInt8.toNat_or, h1, h4]
  have := Nat.shiftLeft_add_eq_or_of_lt (i := 4) (show c.toNat % 16 < 2 ^ 4 by omega) (c.toNat / 16)
  rw [Nat.shiftLeft_eq] at this
  rw [← this]; omega
theorem nib_hi (c : UInt8) : (c >>> 4).toNat < 16 := by
  have := c.toNat_lt
  rw [UInt8.toNat_shiftRight]; simp [Nat.shiftRight_eq_div_pow]; omega
theorem nib_lo (c : UInt8) : (c &&& 15).toNat < 16 := by
  have : (c &&& 15).toNat = c.toNat % 16 := by rw [UInt8.toNat_and]; exact Nat.and_two_pow_sub_one_eq_mod c.toNat 4
  omega
theorem good_print (l : List UInt8) : good (print l) := by
  intro c hc
  obtain ⟨x, _, hx⟩ := List.mem_flatMap.1 hc
  simp only [two, List.mem_cons, List.not_mem_nil, or_false] at hx
  rcases hx with rfl | rfl
  · rw [val_dig _ (nib_hi x)]; rfl
  · rw [val_dig _ (nib_lo x)]; rfl
theorem outp_print (l : List UInt8) : outp (print l) = l := by
  induction l with
  | nil => rfl
  | cons c l ih =>
    show outp (dig (c >>> 4) :: dig (c &&& 15) :: print l) = _
    rw [outp, ih, vl, vl, val_dig _ (nib_hi c), val_dig _ (nib_lo c)]
    simp [back_byte]
theorem print_outp : ∀ (l : List UInt8), good l → l.length % 2 = 0 → print (outp l) = l
  | [], _, _ => rfl
  | [a], _, h => by simp at h
  | a :: b :: t, hg, h => by
    have ih := print_outp t (fun c hc => hg c (by simp [hc])) (by simp at h; omega)
    obtain ⟨x, hx⟩ := Option.isSome_iff_exists.1 (hg a (by simp))
    obtain ⟨y, hy⟩ := Option.isSome_iff_exists.1 (hg b (by simp))
    show two (vl a <<< 4 ||| vl b) ++ print (outp t) = _
    rw [ih, two, hi_of _ _ (vl_lt a) (vl_lt b), lo_of _ _ (vl_lt a) (vl_lt b), vl, vl, hx, hy]
    simp [dig_val hx, dig_val hy]
theorem outp_len : ∀ l : List UInt8, (outp l).length = l.length / 2
  | [] => rfl
  | [a] => by simp [outp]
  | a :: b :: t => by rw [outp, List.length_cons, outp_len t]; simp only [List.length_cons]; omega
theorem outp_two : ∀ (l : List UInt8) (a b : UInt8), l.length % 2 = 0 → outp (l ++ [a, b]) = outp l ++ [vl a <<< 4 ||| vl b]
  | [], _, _, _ => rfl
  | [c], _, _, h => by simp at h
  | c :: d :: t, a, b, h => by
    show (vl c <<< 4 ||| vl d) :: outp (t ++ [a, b]) = _
    rw [outp_two t a b (by simp at h; omega)]; rfl
theorem outp_one : ∀ (l : List UInt8) (a : UInt8), l.length % 2 = 0 → outp (l ++ [a]) = outp l
  | [], _, _ => rfl
  | [c], _, h => by simp at h
  | c :: d :: t, a, h => by
    show (vl c <<< 4 ||| vl d) :: outp (t ++ [a]) = _
    rw [outp_one t a (by simp at h; omega)]; rfl
/-- a sign more, at an even place -/
theorem outp_even (s : List UInt8) (k : Nat) (h : k < s.length) (hk : k % 2 = 0) : outp (s.take (k + 1)) = outp (s.take k) := by
  rw [List.take_succ_eq_append_getElem h, outp_one _ _ (by rw [List.length_take]; omega)]
/-- a sign more, at an odd place -/
theorem outp_odd (s : List UInt8) (k : Nat) (h : k < s.length) (hk : k % 2 = 1) : outp (s.take (k + 1)) = outp (s.take k) ++ [vl (s[k - 1]'(by omega)) <<< 4 ||| vl s[k]] := by
  obtain ⟨j, rfl⟩ : ∃ j, k = j + 1 := ⟨k - 1, by omega⟩
  rw [outp_even s j (by omega) (by omega), List.take_succ_eq_append_getElem h, List.take_succ_eq_append_getElem (show j < s.length by omega), List.append_assoc, List.singleton_append, outp_two _ _ _ (by rw [List.length_take]; omega)]
  rfl
/-- the first place of a bad sign, if any -/
def bad (s : List UInt8) : Option Nat := s.findIdx? fun c => (val c).isNone
/-- the texts of the rows -/
def rows (l : List UInt8) (wd m : Nat) : List (List UInt8) := (List.range m).map fun k => print ((l.drop (wd * k)).take wd)
theorem rows_succ (l : List UInt8) (wd m : Nat) : rows l wd (m + 1) = rows l wd m ++ [print ((l.drop (wd * m)).take wd)] := by simp [rows, List.range_succ]
theorem rows_len (l : List UInt8) (wd m : Nat) : (rows l wd m).length = m := by simp [rows]
theorem rows_get (l : List UInt8) (wd m k : Nat) (h : k < m) : (rows l wd m)[k]'(by rw [rows_len]; exact h) = print ((l.drop (wd * k)).take wd) := by simp [rows]
theorem rows_flat (l : List UInt8) (wd m : Nat) : (rows l wd m).flatten = print (l.take (wd * m)) := by
  induction m with
  | zero => simp [rows, print]
  | succ m ih => rw [rows_succ, List.flatten_append, ih]; simp only [List.flatten_cons, List.flatten_nil, List.append_nil]; rw [← print_append, Nat.mul_succ, List.take_add]
theorem row_len (l : List UInt8) (wd k : Nat) : (print ((l.drop (wd * k)).take wd)).length = 2 * min wd (l.length - wd * k) := by
  rw [print_len, List.length_take, List.length_drop]
end Go.Proofs.Ytknjkafjeicmbaa.Hex
