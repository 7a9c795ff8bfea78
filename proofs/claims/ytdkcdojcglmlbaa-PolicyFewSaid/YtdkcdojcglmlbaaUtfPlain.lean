/- Texts as runes, the plain law: the reference's First, byte by byte, is what a range over a string decodes. No program is in sight here. -/
import GoSem.Core.Utf8
namespace Go.Proofs.Ytdkcdojcglmlbaa.Utf
set_option linter.unusedVariables false
set_option linter.unusedSimpArgs false
/-- the byte at a place, as a number; 0 behind the end -/
def g (l : List UInt8) (k : Nat) : Nat := (l.getD k 0).toNat
theorem g_lt (l : List UInt8) (k : Nat) : g l k < 256 := UInt8.toNat_lt _
def right (r : Nat) : Bool := decide (r ≤ 1114111 ∧ (r < 55296 ∨ 57343 < r))
/-- the bytes of a rune that may be -/
def enc (r : Nat) : List UInt8 :=
  if r < 128 then [UInt8.ofNat r] else if r < 2048 then [UInt8.ofNat (192 + r / 64), UInt8.ofNat (128 + r % 64)]
  else if r < 65536 then [UInt8.ofNat (224 + r / 4096), UInt8.ofNat (128 + r / 64 % 64), UInt8.ofNat (128 + r % 64)]
  else [UInt8.ofNat (240 + r / 262144), UInt8.ofNat (128 + r / 4096 % 64), UInt8.ofNat (128 + r / 64 % 64), UInt8.ofNat (128 + r % 64)]
def sizeOf1 (c : Nat) : Nat := if 240 ≤ c then 4 else if 224 ≤ c then 3 else if 192 ≤ c then 2 else 1
def headOf (c : Nat) : Nat := if 240 ≤ c then c - 240 else if 224 ≤ c then c - 224 else if 192 ≤ c then c - 192 else c
/-- what stands behind k further bytes -/
def va (l : List UInt8) (r0 : Nat) : Nat → Nat
  | 0 => r0
  | k + 1 => va l r0 k * 64 + (g l (k + 1) - 128)
def cont (l : List UInt8) (k : Nat) : Prop := 128 ≤ g l k ∧ g l k ≤ 191
def conts (l : List UInt8) (n : Nat) : Prop := ∀ j, 1 ≤ j → j < n → cont l j
instance (l : List UInt8) (k : Nat) : Decidable (cont l k) := by unfold cont; infer_instance
instance (l : List UInt8) (n : Nat) : Decidable (conts l n) := decidable_of_iff (∀ j, j < n → 1 ≤ j → cont l j) ⟨fun h j h1 h2 => h j h2 h1, fun h j h1 h2 => h j h2 h1⟩
/-- the reference's First -/
def first (l : List UInt8) : Nat × Nat :=
  if l.length = 0 then (0, 0)
  else if l.length < sizeOf1 (g l 0) then (0, 0)
  else if ¬ conts l (sizeOf1 (g l 0)) then (0, 0)
  else if right (va l (headOf (g l 0)) (sizeOf1 (g l 0) - 1)) = true ∧ enc (va l (headOf (g l 0)) (sizeOf1 (g l 0) - 1)) = l.take (sizeOf1 (g l 0)) then (va l (headOf (g l 0)) (sizeOf1 (g l 0) - 1), sizeOf1 (g l 0))
  else (0, 0)
/-- what a range over a string decodes at its beginning -/
def dec (l : List UInt8) : Nat × Nat :=
  if g l 0 < 128 then (g l 0, 1)
  else if g l 0 / 32 = 6 ∧ 1 < l.length ∧ g l 1 / 64 = 2 then
    (if 128 ≤ g l 0 % 32 * 64 + g l 1 % 64 then (g l 0 % 32 * 64 + g l 1 % 64, 2) else (65533, 1))
  else if g l 0 / 16 = 14 ∧ 1 < l.length ∧ g l 1 / 64 = 2 ∧ 2 < l.length ∧ g l 2 / 64 = 2 then
    (if 2048 ≤ g l 0 % 16 * 4096 + g l 1 % 64 * 64 + g l 2 % 64 ∧ right (g l 0 % 16 * 4096 + g l 1 % 64 * 64 + g l 2 % 64) = true then (g l 0 % 16 * 4096 + g l 1 % 64 * 64 + g l 2 % 64, 3) else (65533, 1))
  else if g l 0 / 8 = 30 ∧ 1 < l.length ∧ g l 1 / 64 = 2 ∧ 2 < l.length ∧ g l 2 / 64 = 2 ∧ 3 < l.length ∧ g l 3 / 64 = 2 then
    (if 65536 ≤ g l 0 % 8 * 262144 + g l 1 % 64 * 4096 + g l 2 % 64 * 64 + g l 3 % 64 ∧ right (g l 0 % 8 * 262144 + g l 1 % 64 * 4096 + g l 2 % 64 * 64 + g l 3 % 64) = true then (g l 0 % 8 * 262144 + g l 1 % 64 * 4096 + g l 2 % 64 * 64 + g l 3 % 64, 4) else (65533, 1))
  else (65533, 1)
theorem valid_eq (c : Nat) : Utf8.valid (c : Int) = right c := by
  unfold Utf8.valid right
  rw [Bool.eq_iff_iff]
  simp
  omega
theorem getb (l : List UInt8) (k : Nat) : ((⟨l.toArray⟩ : ByteArray).get! k).toNat = g l k := by
  unfold g
  show ((l.toArray)[k]!).toNat = _
  rw [List.getD_eq_getElem?_getD]
  simp [getElem!_def]
  cases l[k]? <;> rfl
theorem g_drop (l : List UInt8) (i k : Nat) : g (l.drop i) k = g l (i + k) := by
  unfold g
  simp [List.getD_eq_getElem?_getD, List.getElem?_drop]
theorem decode_eq (l : List UInt8) (i : Nat) : Utf8.decode ⟨l.toArray⟩ i = dec (l.drop i) := by
  have hs : (⟨l.toArray⟩ : ByteArray).size = l.length := by simp [ByteArray.size]
  have hl : ∀ k, (i + k < l.length) ↔ (k < (l.drop i).length) := fun k => by rw [List.length_drop]; omega
  unfold Utf8.decode dec
  simp only [getb, hs, g_drop, valid_eq, Nat.add_zero, Bool.and_eq_true, decide_eq_true_eq, beq_iff_eq, List.length_drop, Utf8.runeError, ge_iff_le, and_assoc]
  have e : ∀ k, (i + k < l.length) = (k < l.length - i) := fun k => propext (by omega)
  simp only [e, valid_eq]
theorem u8_eq (a b : Nat) : UInt8.ofNat a = UInt8.ofNat b ↔ a % 256 = b % 256 := by
  rw [← UInt8.toNat_inj, UInt8.toNat_ofNat', UInt8.toNat_ofNat']
theorem u8_g (l : List UInt8) (k : Nat) (h : k < l.length) : l[k] = UInt8.ofNat (g l k) := by
  unfold g
  rw [List.getD_eq_getElem?_getD, List.getElem?_eq_getElem h]
  simp
theorem take1 (l : List UInt8) (h : 1 ≤ l.length) : l.take 1 = [UInt8.ofNat (g l 0)] := by
  match l, h with
  | a :: t, _ => simp [g]
theorem take2 (l : List UInt8) (h : 2 ≤ l.length) : l.take 2 = [UInt8.ofNat (g l 0), UInt8.ofNat (g l 1)] := by
  match l, h with
  | a :: b :: t, _ => simp [g]
theorem take3 (l : List UInt8) (h : 3 ≤ l.length) : l.take 3 = [UInt8.ofNat (g l 0), UInt8.ofNat (g l 1), UInt8.ofNat (g l 2)] := by
  match l, h with
  | a :: b :: c :: t, _ => simp [g]
theorem take4 (l : List UInt8) (h : 4 ≤ l.length) : l.take 4 = [UInt8.ofNat (g l 0), UInt8.ofNat (g l 1), UInt8.ofNat (g l 2), UInt8.ofNat (g l 3)] := by
  match l, h with
  | a :: b :: c :: d :: t, _ => simp [g]
/-- of what length a rune's bytes are -/
def width (r : Nat) : Nat := if r < 128 then 1 else if r < 2048 then 2 else if r < 65536 then 3 else 4
theorem enc_len (r : Nat) : (enc r).length = width r := by
  unfold enc width
  split
  · rfl
  · split
    · rfl
    · split <;> rfl
theorem conts_2 (l : List UInt8) : conts l 2 ↔ cont l 1 := ⟨fun h => h 1 (by omega) (by omega), fun h j h1 h2 => by obtain rfl : j = 1 := (by omega); exact h⟩
theorem conts_3 (l : List UInt8) : conts l 3 ↔ cont l 1 ∧ cont l 2 := ⟨fun h => ⟨h 1 (by omega) (by omega), h 2 (by omega) (by omega)⟩, fun h j h1 h2 => by
  rcases (show j = 1 ∨ j = 2 by omega) with rfl | rfl
  · exact h.1
  · exact h.2⟩
theorem conts_4 (l : List UInt8) : conts l 4 ↔ cont l 1 ∧ cont l 2 ∧ cont l 3 := ⟨fun h => ⟨h 1 (by omega) (by omega), h 2 (by omega) (by omega), h 3 (by omega) (by omega)⟩, fun h j h1 h2 => by
  rcases (show j = 1 ∨ j = 2 ∨ j = 3 by omega) with rfl | rfl | rfl
  · exact h.1
  · exact h.2.1
  · exact h.2.2⟩
theorem ne_of_width {r n : Nat} {l : List UInt8} (h : width r ≠ n) (hn : n ≤ l.length) : enc r ≠ l.take n := fun e => by
  have := congrArg List.length e
  rw [enc_len, List.length_take] at this
  omega
theorem not_err (c w : Nat) (h : w ≠ 1) : ¬ ((c, w) = ((65533, 1) : Nat × Nat)) := fun e => h (congrArg Prod.snd e)
set_option maxHeartbeats 1000000 in
/-- the reference's First is what a range over a string decodes, but where that is an error -/
theorem first_eq (l : List UInt8) (hne : l ≠ []) : first l = if dec l = (65533, 1) then (0, 0) else dec l := by
  have hpos : 1 ≤ l.length := by cases l with | nil => exact absurd rfl hne | cons a t => simp
  have h0 := g_lt l 0
  have h1 := g_lt l 1
  have h2 := g_lt l 2
  have h3 := g_lt l 3
  have hr : ∀ r, right r = true ↔ (r ≤ 1114111 ∧ (r < 55296 ∨ 57343 < r)) := fun r => by unfold right; simp
  unfold first
  rw [if_neg (by omega)]
  by_cases c1 : g l 0 < 128
  · have hz : sizeOf1 (g l 0) = 1 := by unfold sizeOf1; rw [if_neg (by omega), if_neg (by omega), if_neg (by omega)]
    have hh : headOf (g l 0) = g l 0 := by unfold headOf; rw [if_neg (by omega), if_neg (by omega), if_neg (by omega)]
    have hd : dec l = (g l 0, 1) := by unfold dec; rw [if_pos c1]
    rw [hz, hh, hd, if_neg (by omega), if_neg (fun h => h (fun j h1 h2 => by omega))]
    have hv : va l (g l 0) (1 - 1) = g l 0 := rfl
    rw [hv, if_pos ⟨(hr _).2 (by omega), by rw [take1 l hpos]; unfold enc; rw [if_pos c1]⟩, if_neg (fun e => by have := congrArg Prod.fst e; simp at this; omega)]
  by_cases c2 : g l 0 < 192
  · have hz : sizeOf1 (g l 0) = 1 := by unfold sizeOf1; rw [if_neg (by omega), if_neg (by omega), if_neg (by omega)]
    have hh : headOf (g l 0) = g l 0 := by unfold headOf; rw [if_neg (by omega), if_neg (by omega), if_neg (by omega)]
    have hd : dec l = (65533, 1) := by unfold dec; rw [if_neg c1, if_neg (by omega), if_neg (by omega), if_neg (by omega)]
    rw [hz, hh, hd, if_pos rfl, if_neg (by omega), if_neg (fun h => h (fun j h1 h2 => by omega))]
    have hv : va l (g l 0) (1 - 1) = g l 0 := rfl
    rw [hv, if_neg (fun h => ne_of_width (n := 1) (by unfold width; rw [if_neg c1, if_pos (by omega)]; omega) hpos h.2)]
  by_cases c3 : g l 0 < 224
  · have hz : sizeOf1 (g l 0) = 2 := by unfold sizeOf1; rw [if_neg (by omega), if_neg (by omega), if_pos (by omega)]
    have hh : headOf (g l 0) = g l 0 - 192 := by unfold headOf; rw [if_neg (by omega), if_neg (by omega), if_pos (by omega)]
    rw [hz, hh]
    have hv : va l (g l 0 - 192) (2 - 1) = (g l 0 - 192) * 64 + (g l 1 - 128) := rfl
    rw [hv]
    have d2 : dec l = (if g l 0 / 32 = 6 ∧ 1 < l.length ∧ g l 1 / 64 = 2 then (if 128 ≤ g l 0 % 32 * 64 + g l 1 % 64 then (g l 0 % 32 * 64 + g l 1 % 64, 2) else (65533, 1)) else (65533, 1)) := by
      unfold dec
      rw [if_neg c1, if_neg (show ¬ (g l 0 / 16 = 14 ∧ 1 < l.length ∧ g l 1 / 64 = 2 ∧ 2 < l.length ∧ g l 2 / 64 = 2) by omega), if_neg (show ¬ (g l 0 / 8 = 30 ∧ 1 < l.length ∧ g l 1 / 64 = 2 ∧ 2 < l.length ∧ g l 2 / 64 = 2 ∧ 3 < l.length ∧ g l 3 / 64 = 2) by omega)]
    by_cases hl : 2 ≤ l.length
    · rw [if_neg (by omega)]
      by_cases k1 : cont l 1
      · have k1' := k1
        unfold cont at k1'
        rw [if_neg (fun h => h ((conts_2 l).2 k1))]
        rw [if_pos (by omega)] at d2
        have e : (g l 0 - 192) * 64 + (g l 1 - 128) = g l 0 % 32 * 64 + g l 1 % 64 := by omega
        rw [e]
        by_cases z : 128 ≤ g l 0 % 32 * 64 + g l 1 % 64
        · rw [if_pos z] at d2
          rw [d2, if_neg (not_err _ _ (by omega)), if_pos ⟨(hr _).2 (by omega), by
            rw [take2 l hl]; unfold enc; rw [if_neg (by omega), if_pos (by omega)]
            simp only [List.cons.injEq, u8_eq, and_true]
            constructor <;> omega⟩]
        · rw [if_neg z] at d2
          rw [d2, if_pos rfl, if_neg (fun h => ne_of_width (n := 2) (by unfold width; rw [if_pos (by omega)]; omega) hl h.2)]
      · have k1' := k1
        unfold cont at k1'
        rw [if_neg (by omega)] at d2
        rw [d2, if_pos (fun h => k1 ((conts_2 l).1 h)), if_pos rfl]
    · rw [if_neg (by omega)] at d2
      rw [d2, if_pos (by omega), if_pos rfl]
  by_cases c4 : g l 0 < 240
  · have hz : sizeOf1 (g l 0) = 3 := by unfold sizeOf1; rw [if_neg (by omega), if_pos (by omega)]
    have hh : headOf (g l 0) = g l 0 - 224 := by unfold headOf; rw [if_neg (by omega), if_pos (by omega)]
    rw [hz, hh]
    have hv : va l (g l 0 - 224) (3 - 1) = ((g l 0 - 224) * 64 + (g l 1 - 128)) * 64 + (g l 2 - 128) := rfl
    rw [hv]
    have d2 : dec l = (if g l 0 / 16 = 14 ∧ 1 < l.length ∧ g l 1 / 64 = 2 ∧ 2 < l.length ∧ g l 2 / 64 = 2 then
        (if 2048 ≤ g l 0 % 16 * 4096 + g l 1 % 64 * 64 + g l 2 % 64 ∧ right (g l 0 % 16 * 4096 + g l 1 % 64 * 64 + g l 2 % 64) = true then (g l 0 % 16 * 4096 + g l 1 % 64 * 64 + g l 2 % 64, 3) else (65533, 1)) else (65533, 1)) := by
      unfold dec
      rw [if_neg c1, if_neg (show ¬ (g l 0 / 32 = 6 ∧ 1 < l.length ∧ g l 1 / 64 = 2) by omega), if_neg (show ¬ (g l 0 / 8 = 30 ∧ 1 < l.length ∧ g l 1 / 64 = 2 ∧ 2 < l.length ∧ g l 2 / 64 = 2 ∧ 3 < l.length ∧ g l 3 / 64 = 2) by omega)]
    by_cases hl : 3 ≤ l.length
    · rw [if_neg (by omega)]
      by_cases k : conts l 3
      · obtain ⟨k1, k2⟩ := (conts_3 l).1 k
        unfold cont at k1 k2
        rw [if_neg (fun h => h k)]
        rw [if_pos (by omega)] at d2
        have e : ((g l 0 - 224) * 64 + (g l 1 - 128)) * 64 + (g l 2 - 128) = g l 0 % 16 * 4096 + g l 1 % 64 * 64 + g l 2 % 64 := by omega
        rw [e]
        by_cases z : 2048 ≤ g l 0 % 16 * 4096 + g l 1 % 64 * 64 + g l 2 % 64 ∧ right (g l 0 % 16 * 4096 + g l 1 % 64 * 64 + g l 2 % 64) = true
        · rw [if_pos z] at d2
          rw [d2, if_neg (not_err _ _ (by omega)), if_pos ⟨z.2, by
            rw [take3 l hl]; unfold enc; rw [if_neg (by omega), if_neg (by omega), if_pos (by omega)]
            simp only [List.cons.injEq, u8_eq, and_true]
            refine ⟨?_, ?_, ?_⟩ <;> omega⟩]
        · rw [if_neg z] at d2
          rw [d2, if_pos rfl, if_neg (fun h => by
            by_cases y : 2048 ≤ g l 0 % 16 * 4096 + g l 1 % 64 * 64 + g l 2 % 64
            · exact z ⟨y, h.1⟩
            · exact ne_of_width (n := 3) (by unfold width; split <;> (try split) <;> omega) hl h.2)]
      · have k' : ¬ (cont l 1 ∧ cont l 2) := fun h => k ((conts_3 l).2 h)
        unfold cont at k'
        rw [if_neg (by omega)] at d2
        rw [d2, if_pos k, if_pos rfl]
    · rw [if_neg (by omega)] at d2
      rw [d2, if_pos (by omega), if_pos rfl]
  · have hz : sizeOf1 (g l 0) = 4 := by unfold sizeOf1; rw [if_pos (by omega)]
    have hh : headOf (g l 0) = g l 0 - 240 := by unfold headOf; rw [if_pos (by omega)]
    rw [hz, hh]
    have hv : va l (g l 0 - 240) (4 - 1) = (((g l 0 - 240) * 64 + (g l 1 - 128)) * 64 + (g l 2 - 128)) * 64 + (g l 3 - 128) := rfl
    rw [hv]
    have d2 : dec l = (if g l 0 / 8 = 30 ∧ 1 < l.length ∧ g l 1 / 64 = 2 ∧ 2 < l.length ∧ g l 2 / 64 = 2 ∧ 3 < l.length ∧ g l 3 / 64 = 2 then
        (if 65536 ≤ g l 0 % 8 * 262144 + g l 1 % 64 * 4096 + g l 2 % 64 * 64 + g l 3 % 64 ∧ right (g l 0 % 8 * 262144 + g l 1 % 64 * 4096 + g l 2 % 64 * 64 + g l 3 % 64) = true then (g l 0 % 8 * 262144 + g l 1 % 64 * 4096 + g l 2 % 64 * 64 + g l 3 % 64, 4) else (65533, 1))
        else (65533, 1)) := by
      unfold dec
      rw [if_neg c1, if_neg (show ¬ (g l 0 / 32 = 6 ∧ 1 < l.length ∧ g l 1 / 64 = 2) by omega), if_neg (show ¬ (g l 0 / 16 = 14 ∧ 1 < l.length ∧ g l 1 / 64 = 2 ∧ 2 < l.length ∧ g l 2 / 64 = 2) by omega)]
    by_cases hl : 4 ≤ l.length
    · rw [if_neg (by omega)]
      by_cases k : conts l 4
      · obtain ⟨k1, k2, k3⟩ := (conts_4 l).1 k
        unfold cont at k1 k2 k3
        rw [if_neg (fun h => h k)]
        by_cases c5 : g l 0 < 248
        · rw [if_pos (by omega)] at d2
          have e : (((g l 0 - 240) * 64 + (g l 1 - 128)) * 64 + (g l 2 - 128)) * 64 + (g l 3 - 128) = g l 0 % 8 * 262144 + g l 1 % 64 * 4096 + g l 2 % 64 * 64 + g l 3 % 64 := by omega
          rw [e]
          by_cases z : 65536 ≤ g l 0 % 8 * 262144 + g l 1 % 64 * 4096 + g l 2 % 64 * 64 + g l 3 % 64 ∧ right (g l 0 % 8 * 262144 + g l 1 % 64 * 4096 + g l 2 % 64 * 64 + g l 3 % 64) = true
          · have z2 := (hr _).1 z.2
            rw [if_pos z] at d2
            rw [d2, if_neg (not_err _ _ (by omega)), if_pos ⟨z.2, by
              rw [take4 l hl]; unfold enc; rw [if_neg (by omega), if_neg (by omega), if_neg (by omega)]
              simp only [List.cons.injEq, u8_eq, and_true]
              refine ⟨?_, ?_, ?_, ?_⟩ <;> omega⟩]
          · rw [if_neg z] at d2
            rw [d2, if_pos rfl, if_neg (fun h => by
              by_cases y : 65536 ≤ g l 0 % 8 * 262144 + g l 1 % 64 * 4096 + g l 2 % 64 * 64 + g l 3 % 64
              · exact z ⟨y, h.1⟩
              · exact ne_of_width (n := 4) (by unfold width; split <;> (try split) <;> (try split) <;> omega) hl h.2)]
        · rw [if_neg (by omega)] at d2
          rw [d2, if_pos rfl, if_neg (fun h => by
            have := (hr _).1 h.1
            omega)]
      · have k' : ¬ (cont l 1 ∧ cont l 2 ∧ cont l 3) := fun h => k ((conts_4 l).2 h)
        unfold cont at k'
        rw [if_neg (by omega)] at d2
        rw [d2, if_pos k, if_pos rfl]
    · rw [if_neg (by omega)] at d2
      rw [d2, if_pos (by omega), if_pos rfl]
end Go.Proofs.Ytdkcdojcglmlbaa.Utf
