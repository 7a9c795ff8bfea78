/- Sums of 32 bits as plain functions on lists of bytes; nothing of the program. -/
namespace Go.Proofs.Ytkapamolligmkaa.Crc

def step (c : UInt32) : UInt32 := (c >>> 1) ^^^ (3988292384 &&& -(c &&& 1))
def steps : Nat → UInt32 → UInt32
  | 0, c => c
  | n + 1, c => step (steps n c)
def byte (c : UInt32) (x : UInt8) : UInt32 := steps 8 (c ^^^ x.toUInt32)
def run (c : UInt32) (l : List UInt8) : UInt32 := l.foldl byte c
def more (s : UInt32) (l : List UInt8) : UInt32 := run (s ^^^ 4294967295) l ^^^ 4294967295

theorem bit (c : UInt32) : c &&& 1 = 0 ∨ c &&& 1 = 1 := by
  have h : (c &&& 1).toNat = c.toNat % 2 := by
    rw [UInt32.toNat_and]; exact Nat.and_two_pow_sub_one_eq_mod c.toNat 1
  rcases Nat.mod_two_eq_zero_or_one c.toNat with e | e
  · exact .inl (UInt32.toNat_inj.1 (by rw [h, e]; rfl))
  · exact .inr (UInt32.toNat_inj.1 (by rw [h, e]; rfl))

theorem step_even {c : UInt32} (h : c.toNat % 2 = 0) : step c = c >>> 1 := by
  have e : c &&& 1 = 0 := UInt32.toNat_inj.1 (by rw [UInt32.toNat_and]; exact (Nat.and_two_pow_sub_one_eq_mod c.toNat 1).trans h)
  rw [step, e]; simp
theorem step_odd {c : UInt32} (h : c.toNat % 2 = 1) : step c = (c >>> 1) ^^^ 3988292384 := by
  have e : c &&& 1 = 1 := UInt32.toNat_inj.1 (by rw [UInt32.toNat_and]; exact (Nat.and_two_pow_sub_one_eq_mod c.toNat 1).trans h)
  rw [step, e]; rfl

/-- what is turned by a step is found again -/
def back (d : UInt32) : UInt32 := if 2147483648 ≤ d.toNat then ((d ^^^ 3988292384) <<< 1) ||| 1 else d <<< 1

theorem half_lt (c : UInt32) : (c >>> 1).toNat < 2147483648 := by
  have := c.toNat_lt
  have e : (c >>> 1).toNat = c.toNat / 2 := by rw [UInt32.toNat_shiftRight]; simp [Nat.shiftRight_eq_div_pow]
  omega
theorem half (c : UInt32) : (c >>> 1).toNat = c.toNat / 2 := by rw [UInt32.toNat_shiftRight]; simp [Nat.shiftRight_eq_div_pow]
theorem dbl (c : UInt32) : (c <<< 1).toNat = c.toNat * 2 % 4294967296 := by
  rw [UInt32.toNat_shiftLeft]; simp [Nat.shiftLeft_eq]

theorem high_xor (a : Nat) (h : a < 2147483648) : 2147483648 ≤ a ^^^ 3988292384 := by
  have h31 : (a ^^^ 3988292384).testBit 31 = true := by
    rw [Nat.testBit_xor, Nat.testBit_lt_two_pow (by omega : a < 2 ^ 31)]; decide
  have := Nat.ge_two_pow_of_testBit h31
  omega

theorem back_step (c : UInt32) : back (step c) = c := by
  rcases Nat.mod_two_eq_zero_or_one c.toNat with e | e
  · rw [step_even e, back, if_neg (by have := half_lt c; omega)]
    apply UInt32.toNat_inj.1
    have := c.toNat_lt
    rw [dbl, half]; omega
  · have hx : 2147483648 ≤ ((c >>> 1) ^^^ 3988292384).toNat := by
      rw [UInt32.toNat_xor]; exact high_xor _ (half_lt c)
    rw [step_odd e, back, if_pos hx]
    have hc : ((c >>> 1) ^^^ (3988292384 : UInt32)) ^^^ (3988292384 : UInt32) = c >>> 1 := by rw [UInt32.xor_assoc, UInt32.xor_self, UInt32.xor_zero]
    rw [hc]
    apply UInt32.toNat_inj.1
    have := c.toNat_lt
    rw [UInt32.toNat_or, dbl, half]
    have h2 : c.toNat / 2 * 2 % 4294967296 = 2 * (c.toNat / 2) := by omega
    have h3 : (2 * (c.toNat / 2) ||| (1 : Nat)) = 2 * (c.toNat / 2) + 1 := by
      have := Nat.two_pow_add_eq_or_of_lt (i := 1) (b := 1) (by decide) (c.toNat / 2)
      simpa using this.symm
    rw [h2]
    show (2 * (c.toNat / 2) ||| 1) = _
    rw [h3]; omega

theorem step_inj {a b : UInt32} (h : step a = step b) : a = b := by rw [← back_step a, h, back_step]
theorem steps_inj : ∀ n {a b : UInt32}, steps n a = steps n b → a = b
  | 0, _, _, h => h
  | n + 1, _, _, h => steps_inj n (step_inj h)
theorem xor_left_inj {a b c : UInt32} (h : c ^^^ a = c ^^^ b) : a = b := by
  have : c ^^^ (c ^^^ a) = c ^^^ (c ^^^ b) := by rw [h]
  rwa [← UInt32.xor_assoc, ← UInt32.xor_assoc, UInt32.xor_self, UInt32.zero_xor, UInt32.zero_xor] at this
theorem xor_right_inj {a b c : UInt32} (h : a ^^^ c = b ^^^ c) : a = b := xor_left_inj (c := c) (by rw [UInt32.xor_comm c a, UInt32.xor_comm c b, h])
theorem byte_inj_left {a b : UInt32} {x : UInt8} (h : byte a x = byte b x) : a = b := xor_right_inj (steps_inj 8 h)
theorem byte_inj_right {c : UInt32} {x y : UInt8} (h : byte c x = byte c y) : x = y := by
  have e := xor_left_inj (steps_inj 8 h)
  have : x.toUInt32.toNat = y.toUInt32.toNat := by rw [e]
  simp at this
  exact UInt8.toNat_inj.1 this
theorem run_inj : ∀ (l : List UInt8) {a b : UInt32}, run a l = run b l → a = b
  | [], _, _, h => h
  | x :: l, _, _, h => byte_inj_left (run_inj l (by simpa [run] using h))
theorem run_append (c : UInt32) (a b : List UInt8) : run c (a ++ b) = run (run c a) b := by simp [run]
theorem run_set (c : UInt32) : ∀ (l : List UInt8) (i : Nat) (y : UInt8) (h : i < l.length), y ≠ l[i] → run c (l.set i y) ≠ run c l := by
  intro l i y h hne he
  have e1 : l.set i y = l.take i ++ y :: l.drop (i + 1) := List.set_eq_take_append_cons_drop.trans (if_pos h)
  have e2 : l = l.take i ++ l[i] :: l.drop (i + 1) := by rw [List.getElem_cons_drop h, List.take_append_drop]
  rw [e1] at he
  have he' := he.trans (congrArg (run c) e2)
  rw [run_append, run_append] at he'
  exact hne (byte_inj_right (c := run c (l.take i)) (run_inj (l.drop (i + 1)) (a := byte (run c (l.take i)) y) (b := byte (run c (l.take i)) l[i]) he'))

theorem more_join (a b : List UInt8) : more 0 (a ++ b) = more (more 0 a) b := by
  unfold more
  rw [run_append]
  congr 2
  rw [UInt32.xor_assoc, UInt32.xor_self, UInt32.xor_zero]
theorem more_set (l : List UInt8) (i : Nat) (y : UInt8) (h : i < l.length) (hne : y ≠ l[i]) : more 0 (l.set i y) ≠ more 0 l :=
  fun e => run_set _ l i y h hne (xor_right_inj e)
theorem run_take (c : UInt32) (l : List UInt8) (k : Nat) (h : k < l.length) : run c (l.take (k + 1)) = byte (run c (l.take k)) l[k] := by
  rw [List.take_succ_eq_append_getElem h, run_append]; rfl

/-- the document's step -/
def rstep (c : UInt32) : UInt32 := if c.toNat % 2 = 1 then (c / 2) ^^^ 3988292384 else c / 2
theorem halfdiv (c : UInt32) : c >>> 1 = c / 2 := by
  apply UInt32.toNat_inj.1
  rw [half, UInt32.toNat_div]; rfl
theorem rstep_eq (c : UInt32) : rstep c = step c := by
  unfold rstep
  rcases Nat.mod_two_eq_zero_or_one c.toNat with e | e
  · rw [if_neg (by omega), step_even e, halfdiv]
  · rw [if_pos e, step_odd e, halfdiv]
end Go.Proofs.Ytkapamolligmkaa.Crc
