/- Texts as runes, the plain law: what is read of written runes; letters made small; what is cut off. -/
import Derived.Test.YtcagglcmikgdfaaDoorScanPlain
import Derived.Test.YtcagglcmikgdfaaDoorUtf1
namespace Go.Proofs.YtcagglcmikgdfaaDoor.Utf
set_option linter.unusedVariables false
def encs (rs : List Nat) : List UInt8 := rs.flatMap enc
theorem encs_nil : encs [] = [] := rfl
theorem encs_cons (r : Nat) (rs : List Nat) : encs (r :: rs) = enc r ++ encs rs := rfl
theorem encs_append (a b : List Nat) : encs (a ++ b) = encs a ++ encs b := List.flatMap_append
theorem encs_snoc (a : List Nat) (r : Nat) : encs (a ++ [r]) = encs a ++ enc r := by rw [encs_append]; simp [encs]
/-- what was read is what stands there -/
theorem scan_bytes : ∀ (n : Nat) (l : List UInt8), l.length ≤ n → encs (scan l).1 = l.take (scan l).2
  | 0, l, h => by
    obtain rfl : l = [] := List.eq_nil_of_length_eq_zero (by omega)
    rw [scan_nil]; rfl
  | n + 1, l, h => by
    by_cases hf : (first l).2 = 0
    · rw [scan_no l hf]; rfl
    · have hs := first_size l hf
      rw [scan_yes l hf]
      simp only
      rw [encs_cons, scan_bytes n _ (by rw [List.length_drop]; omega), (first_right l hf).2, List.take_add]
theorem scan_right : ∀ (n : Nat) (l : List UInt8), l.length ≤ n → ∀ r ∈ (scan l).1, right r = true
  | 0, l, h => by
    obtain rfl : l = [] := List.eq_nil_of_length_eq_zero (by omega)
    rw [scan_nil]; simp
  | n + 1, l, h => by
    by_cases hf : (first l).2 = 0
    · rw [scan_no l hf]; simp
    · have hs := first_size l hf
      rw [scan_yes l hf]
      intro r hr
      rcases List.mem_cons.1 hr with rfl | hr
      · exact (first_right l hf).1
      · exact scan_right n _ (by rw [List.length_drop]; omega) r hr
theorem right_le {r : Nat} (h : right r = true) : r ≤ 1114111 ∧ (r < 55296 ∨ 57343 < r) := by unfold right at h; exact of_decide_eq_true h
theorem g_cons0 (a : UInt8) (t : List UInt8) : g (a :: t) 0 = a.toNat := rfl
theorem g_cons1 (a b : UInt8) (t : List UInt8) : g (a :: b :: t) 1 = b.toNat := rfl
theorem g_cons2 (a b c : UInt8) (t : List UInt8) : g (a :: b :: c :: t) 2 = c.toNat := rfl
theorem g_cons3 (a b c d : UInt8) (t : List UInt8) : g (a :: b :: c :: d :: t) 3 = d.toNat := rfl
theorem u8n {a : Nat} (h : a < 256) : (UInt8.ofNat a).toNat = a := by rw [UInt8.toNat_ofNat', Nat.mod_eq_of_lt (by omega)]
/-- a rune is read of its bytes, whatever stands behind -/
theorem first_enc (r : Nat) (t : List UInt8) (hr : right r = true) : first (enc r ++ t) = (r, width r) := by
  have h := right_le hr
  have key : ∀ (l : List UInt8) (n : Nat), n = width r → n = sizeOf1 (g l 0) → n ≤ l.length → conts l n → va l (headOf (g l 0)) (n - 1) = r → l.take n = enc r → 1 ≤ n → first l = (r, width r) := by
    intro l n h1 h2 h3 h4 h5 h6 h7
    unfold first
    rw [← h2, if_neg (by omega), if_neg (by omega), if_neg (fun x => x h4), h5, if_pos ⟨hr, h6.symm⟩, h1]
  have htk : ∀ n, n = width r → (enc r ++ t).take n = enc r := fun n hn => by rw [hn, ← enc_len, List.take_left']; rfl
  rcases (show r < 128 ∨ (128 ≤ r ∧ r < 2048) ∨ (2048 ≤ r ∧ r < 65536) ∨ 65536 ≤ r by omega) with c | ⟨c0, c⟩ | ⟨c0, c⟩ | c0
  · have hw : width r = 1 := by unfold width; rw [if_pos c]
    have he : enc r = [UInt8.ofNat r] := by unfold enc; rw [if_pos c]
    have g0 : g (enc r ++ t) 0 = r := by rw [he]; show (UInt8.ofNat r).toNat = r; exact u8n (by omega)
    refine key _ 1 hw.symm ?_ (by rw [he]; simp) (fun j h1 h2 => by omega) ?_ (htk 1 hw.symm) (by omega)
    · rw [g0]; unfold sizeOf1; rw [if_neg (by omega), if_neg (by omega), if_neg (by omega)]
    · rw [g0]; show headOf r = r; unfold headOf; rw [if_neg (by omega), if_neg (by omega), if_neg (by omega)]
  · have hw : width r = 2 := by unfold width; rw [if_neg (by omega), if_pos c]
    have he : enc r = [UInt8.ofNat (192 + r / 64), UInt8.ofNat (128 + r % 64)] := by unfold enc; rw [if_neg (by omega), if_pos c]
    have g0 : g (enc r ++ t) 0 = 192 + r / 64 := by rw [he]; exact u8n (by omega)
    have g1 : g (enc r ++ t) 1 = 128 + r % 64 := by rw [he]; exact u8n (by omega)
    refine key _ 2 hw.symm ?_ (by rw [he]; simp) ((conts_2 _).2 (by unfold cont; omega)) ?_ (htk 2 hw.symm) (by omega)
    · rw [g0]; unfold sizeOf1; rw [if_neg (by omega), if_neg (by omega), if_pos (by omega)]
    · have hh : headOf (192 + r / 64) = r / 64 := by unfold headOf; rw [if_neg (by omega), if_neg (by omega), if_pos (by omega)]; omega
      rw [g0, hh]
      show r / 64 * 64 + (g (enc r ++ t) 1 - 128) = r
      rw [g1]; omega
  · have hw : width r = 3 := by unfold width; rw [if_neg (by omega), if_neg (by omega), if_pos c]
    have he : enc r = [UInt8.ofNat (224 + r / 4096), UInt8.ofNat (128 + r / 64 % 64), UInt8.ofNat (128 + r % 64)] := by unfold enc; rw [if_neg (by omega), if_neg (by omega), if_pos c]
    have g0 : g (enc r ++ t) 0 = 224 + r / 4096 := by rw [he]; exact u8n (by omega)
    have g1 : g (enc r ++ t) 1 = 128 + r / 64 % 64 := by rw [he]; exact u8n (by omega)
    have g2 : g (enc r ++ t) 2 = 128 + r % 64 := by rw [he]; exact u8n (by omega)
    refine key _ 3 hw.symm ?_ (by rw [he]; simp) ((conts_3 _).2 (by unfold cont; omega)) ?_ (htk 3 hw.symm) (by omega)
    · rw [g0]; unfold sizeOf1; rw [if_neg (by omega), if_pos (by omega)]
    · have hh : headOf (224 + r / 4096) = r / 4096 := by unfold headOf; rw [if_neg (by omega), if_pos (by omega)]; omega
      rw [g0, hh]
      show (r / 4096 * 64 + (g (enc r ++ t) 1 - 128)) * 64 + (g (enc r ++ t) 2 - 128) = r
      rw [g1, g2]; omega
  · have hw : width r = 4 := by unfold width; rw [if_neg (by omega), if_neg (by omega), if_neg (by omega)]
    have he : enc r = [UInt8.ofNat (240 + r / 262144), UInt8.ofNat (128 + r / 4096 % 64), UInt8.ofNat (128 + r / 64 % 64), UInt8.ofNat (128 + r % 64)] := by unfold enc; rw [if_neg (by omega), if_neg (by omega), if_neg (by omega)]
    have g0 : g (enc r ++ t) 0 = 240 + r / 262144 := by rw [he]; exact u8n (by omega)
    have g1 : g (enc r ++ t) 1 = 128 + r / 4096 % 64 := by rw [he]; exact u8n (by omega)
    have g2 : g (enc r ++ t) 2 = 128 + r / 64 % 64 := by rw [he]; exact u8n (by omega)
    have g3 : g (enc r ++ t) 3 = 128 + r % 64 := by rw [he]; exact u8n (by omega)
    refine key _ 4 hw.symm ?_ (by rw [he]; simp) ((conts_4 _).2 (by unfold cont; omega)) ?_ (htk 4 hw.symm) (by omega)
    · rw [g0]; unfold sizeOf1; rw [if_pos (by omega)]
    · have hh : headOf (240 + r / 262144) = r / 262144 := by unfold headOf; rw [if_pos (by omega)]; omega
      rw [g0, hh]
      show ((r / 262144 * 64 + (g (enc r ++ t) 1 - 128)) * 64 + (g (enc r ++ t) 2 - 128)) * 64 + (g (enc r ++ t) 3 - 128) = r
      rw [g1, g2, g3]; omega
theorem width_pos (r : Nat) : 1 ≤ width r := by unfold width; split <;> (try split) <;> (try split) <;> omega
/-- runes are read of their bytes as they were -/
theorem scan_encs : ∀ (rs : List Nat), (∀ r ∈ rs, right r = true) → scan (encs rs) = (rs, (encs rs).length)
  | [], _ => scan_nil
  | r :: rs, h => by
    have hr := h r (List.mem_cons_self ..)
    have hf := first_enc r (encs rs) hr
    have hp := width_pos r
    rw [encs_cons, scan_yes _ (by rw [hf]; simp only; omega), hf]
    simp only
    have hd : (enc r ++ encs rs).drop (width r) = encs rs := by rw [← enc_len, List.drop_left]
    rw [hd, scan_encs rs (fun x hx => h x (List.mem_cons_of_mem _ hx)), List.length_append, enc_len]
theorem whole_encs (rs : List Nat) (h : ∀ r ∈ rs, right r = true) : wholeB (encs rs) = true := by
  unfold wholeB; rw [scan_encs rs h]; simp
/-- letters made small -/
def low (r : Nat) : Nat := if upB (r : Int) = true then r + 32 else r
theorem up_iff (r : Int) : upB r = true ↔ (65 ≤ r ∧ r ≤ 90 ∨ 192 ≤ r ∧ r ≤ 222 ∧ r ≠ 215) := by unfold upB; simp only [decide_eq_true_eq]
theorem low_low (r : Nat) : low (low r) = low r := by
  unfold low
  by_cases h : upB (r : Int) = true
  · have h1 := (up_iff _).1 h
    have h2 : ¬ upB ((r + 32 : Nat) : Int) = true := fun h2 => by
      have := (up_iff _).1 h2
      omega
    rw [if_pos h, if_neg h2]
  · rw [if_neg h, if_neg h]
theorem low_right {r : Nat} (h : right r = true) : right (low r) = true := by
  have h1 := right_le h
  unfold low
  split
  · rename_i hu
    have := (up_iff _).1 hu
    unfold right
    exact decide_eq_true (by omega)
  · exact h
def foldL (l : List UInt8) : List UInt8 := if (scan l).2 = l.length then encs ((scan l).1.map low) else []
theorem fold_fold (l : List UInt8) : foldL (foldL l) = foldL l := by
  unfold foldL
  by_cases h : (scan l).2 = l.length
  · rw [if_pos h]
    have hr : ∀ r ∈ (scan l).1.map low, right r = true := fun r hr => by
      obtain ⟨x, hx, rfl⟩ := List.mem_map.1 hr
      exact low_right (scan_right _ l (Nat.le_refl _) x hx)
    rw [scan_encs _ hr, if_pos rfl]
    simp only [List.map_map]
    congr 1
    exact List.map_congr_left (fun x _ => low_low x)
  · rw [if_neg h, scan_nil]; rfl
/-- the first n runes -/
def cutL (l : List UInt8) (n : Int) : List UInt8 := if n < 1 ∨ ¬ (scan l).2 = l.length then [] else encs ((scan l).1.take n.toNat)
def countL (l : List UInt8) : Int := if (scan l).2 = l.length then ((scan l).1.length : Int) else -1
theorem cut_pre (l : List UInt8) (n : Int) : cutL l n = l.take (cutL l n).length := by
  unfold cutL
  split
  · rfl
  · rename_i h
    have hw : (scan l).2 = l.length := Classical.byContradiction fun e => h (.inr e)
    have hb := scan_bytes _ l (Nat.le_refl _)
    rw [hw, List.take_length] at hb
    have : l = encs ((scan l).1.take n.toNat) ++ encs ((scan l).1.drop n.toNat) := by rw [← encs_append, List.take_append_drop, hb]
    conv => rhs; arg 2; rw [this]
    rw [List.take_left]
theorem cut_count (l : List UInt8) (n : Int) : countL (cutL l n) ≤ max n 0 := by
  unfold cutL
  split
  · rename_i h
    unfold countL; rw [scan_nil]; simp; omega
  · rename_i h
    have hr : ∀ r ∈ (scan l).1.take n.toNat, right r = true := fun r hr => scan_right _ l (Nat.le_refl _) r (List.mem_of_mem_take hr)
    unfold countL
    rw [scan_encs _ hr, if_pos rfl]
    simp only [List.length_take]
    omega
end Go.Proofs.YtcagglcmikgdfaaDoor.Utf
