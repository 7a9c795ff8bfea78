/- Texts of this claim, joined: GfPlain, Gf, GfBox, Gf2, Gf3. -/
import Derived.Test.YteecbjpnnklbpaaDoorGA
import Derived.Test.YteecbjpnnklbpaaDoorRows
import Derived.Outline
import Derived.WalkMore
import Derived.ScopeJumps
import Derived.Laws.BitsLemmas
import Derived.Stop.BytesEq
/- The field of 256 numbers as plain functions; nothing of the program. -/
namespace Go.Proofs.YteecbjpnnklbpaaDoor.Gf

theorem all8 {p : UInt8 → Prop} (h : ∀ n : Fin 256, p (UInt8.ofNat n)) (a : UInt8) : p a := by
  have := h ⟨a.toNat, a.toNat_lt⟩
  rwa [show UInt8.ofNat (⟨a.toNat, a.toNat_lt⟩ : Fin 256) = a from UInt8.toNat_inj.1 (by simp)] at this

def twice (a : UInt8) : UInt8 := if a &&& 128 = 0 then a <<< 1 else (a <<< 1) ^^^ 27
def mulF : Nat → UInt8 → UInt8 → UInt8 → UInt8
  | 0, _, _, s => s
  | n + 1, a, b, s => mulF n (a >>> 1) (twice b) (if a &&& 1 = 1 then s ^^^ b else s)
def mul (a b : UInt8) : UInt8 := mulF 8 a b 0

theorem xor_cancel (a b : UInt8) : (a ^^^ 27) ^^^ (b ^^^ 27) = a ^^^ b := by
  rw [UInt8.xor_assoc, UInt8.xor_comm b 27, ← UInt8.xor_assoc 27 27, UInt8.xor_self, UInt8.zero_xor]
theorem high8 : ∀ x : UInt8, x &&& 128 = 0 ∨ x &&& 128 = 128 := all8 (by decide +kernel)
theorem low8 : ∀ x : UInt8, x &&& 1 = 0 ∨ x &&& 1 = 1 := all8 (by decide +kernel)
theorem and_xor (a b c : UInt8) : (a ^^^ b) &&& c = (a &&& c) ^^^ (b &&& c) := by
  apply UInt8.toBitVec_inj.1
  ext i
  simp
  cases a.toBitVec[i] <;> cases b.toBitVec[i] <;> cases c.toBitVec[i] <;> rfl
theorem shl_xor (a b : UInt8) : (a ^^^ b) <<< 1 = (a <<< 1) ^^^ (b <<< 1) := by
  apply UInt8.toBitVec_inj.1
  ext i
  simp
  by_cases h : i = 0 <;> simp [h]
theorem shr_xor (a b : UInt8) : (a ^^^ b) >>> 1 = (a >>> 1) ^^^ (b >>> 1) := by
  apply UInt8.toBitVec_inj.1
  ext i
  simp
theorem twice_xor (a b : UInt8) : twice (a ^^^ b) = twice a ^^^ twice b := by
  unfold twice
  rw [and_xor, shl_xor]
  have h0 : (128 : UInt8) ^^^ 128 = 0 := by decide
  have h1 : (128 : UInt8) ^^^ 0 = 128 := by decide
  have h2 : (0 : UInt8) ^^^ 128 = 128 := by decide
  have hne : ¬ (128 : UInt8) = 0 := by decide
  rcases high8 a with ha | ha <;> rcases high8 b with hb | hb <;> rw [ha, hb]
  · simp
  · rw [h2, if_neg hne, if_pos rfl, if_neg hne, UInt8.xor_assoc]
  · rw [h1, if_neg hne, if_pos rfl, if_neg hne, UInt8.xor_assoc, UInt8.xor_assoc, UInt8.xor_comm (b <<< 1)]
  · rw [h0, if_pos rfl, if_neg hne, if_neg hne, xor_cancel]

/-! sums on both sides -/
theorem mulF_sum : ∀ n a b s t, mulF n a b (s ^^^ t) = mulF n a b s ^^^ t
  | 0, _, _, _, _ => rfl
  | n + 1, a, b, s, t => by
    show mulF n _ _ _ = mulF n _ _ _ ^^^ t
    by_cases h : a &&& 1 = 1
    · rw [if_pos h, if_pos h, UInt8.xor_assoc, UInt8.xor_comm t b, ← UInt8.xor_assoc, mulF_sum n]
    · rw [if_neg h, if_neg h, mulF_sum n]
theorem mulF_right : ∀ n a b c s t, mulF n a (b ^^^ c) (s ^^^ t) = mulF n a b s ^^^ mulF n a c t
  | 0, _, _, _, _, _ => rfl
  | n + 1, a, b, c, s, t => by
    show mulF n _ _ _ = mulF n _ _ _ ^^^ mulF n _ _ _
    rw [twice_xor]
    by_cases h : a &&& 1 = 1
    · rw [if_pos h, if_pos h, if_pos h, ← mulF_right n]
      congr 1
      rw [UInt8.xor_assoc, UInt8.xor_assoc, ← UInt8.xor_assoc t, UInt8.xor_comm t b, UInt8.xor_assoc b t c]
    · rw [if_neg h, if_neg h, if_neg h, mulF_right n]
theorem mulF_left : ∀ n a a' b s t, mulF n (a ^^^ a') b (s ^^^ t) = mulF n a b s ^^^ mulF n a' b t
  | 0, _, _, _, _, _ => rfl
  | n + 1, a, a', b, s, t => by
    show mulF n _ _ _ = mulF n _ _ _ ^^^ mulF n _ _ _
    rw [shr_xor, and_xor]
    have h0 : (1 : UInt8) ^^^ 1 = 0 := by decide
    have h1 : (1 : UInt8) ^^^ 0 = 1 := by decide
    have h2 : (0 : UInt8) ^^^ 1 = 1 := by decide
    have h3 : (0 : UInt8) ^^^ 0 = 0 := by decide
    have hne : ¬ (0 : UInt8) = 1 := by decide
    rcases low8 a with ha | ha <;> rcases low8 a' with hb | hb <;> rw [ha, hb]
    · simp only [h3, hne, ↓reduceIte]; rw [mulF_left n]
    · simp only [h2, hne, ↓reduceIte]; rw [← mulF_left n]; congr 1; rw [UInt8.xor_assoc]
    · simp only [h1, hne, ↓reduceIte]; rw [← mulF_left n]; congr 1; rw [UInt8.xor_assoc, UInt8.xor_assoc, UInt8.xor_comm t b]
    · simp only [h0, hne, ↓reduceIte]; rw [← mulF_left n]; congr 1
      rw [UInt8.xor_assoc, UInt8.xor_comm t b, ← UInt8.xor_assoc b b, UInt8.xor_self, UInt8.zero_xor]
theorem mul_right (a b c : UInt8) : mul a (b ^^^ c) = mul a b ^^^ mul a c := by
  have := mulF_right 8 a b c 0 0
  rwa [UInt8.xor_self] at this
theorem mul_left (a b c : UInt8) : mul (a ^^^ b) c = mul a c ^^^ mul b c := by
  have := mulF_left 8 a b c 0 0
  rwa [UInt8.xor_self] at this

/-! what goes over sums is known by eight numbers -/
def bit (a : UInt8) (i : UInt8) : UInt8 := if a &&& i = 0 then 0 else i
theorem bits_of : ∀ a : UInt8, a = bit a 1 ^^^ (bit a 2 ^^^ (bit a 4 ^^^ (bit a 8 ^^^ (bit a 16 ^^^ (bit a 32 ^^^ (bit a 64 ^^^ bit a 128)))))) := all8 (by decide +kernel)
theorem ext8 {f g : UInt8 → UInt8} (hf : ∀ x y, f (x ^^^ y) = f x ^^^ f y) (hg : ∀ x y, g (x ^^^ y) = g x ^^^ g y)
    (h : f 1 = g 1 ∧ f 2 = g 2 ∧ f 4 = g 4 ∧ f 8 = g 8 ∧ f 16 = g 16 ∧ f 32 = g 32 ∧ f 64 = g 64 ∧ f 128 = g 128) (a : UInt8) : f a = g a := by
  have f0 : f 0 = 0 := by have := hf 0 0; rw [UInt8.xor_self, UInt8.xor_self] at this; exact this
  have g0 : g 0 = 0 := by have := hg 0 0; rw [UInt8.xor_self, UInt8.xor_self] at this; exact this
  have hb : ∀ i, f i = g i → f (bit a i) = g (bit a i) := fun i hi => by
    unfold bit
    by_cases h : a &&& i = 0
    · rw [if_pos h, f0, g0]
    · rw [if_neg h, hi]
  obtain ⟨h1, h2, h3, h4, h5, h6, h7, h8⟩ := h
  rw [bits_of a]
  simp only [hf, hg]
  rw [hb 1 h1, hb 2 h2, hb 4 h3, hb 8 h4, hb 16 h5, hb 32 h6, hb 64 h7, hb 128 h8]
theorem mul_comm (a b : UInt8) : mul a b = mul b a := by
  refine ext8 (f := fun a => mul a b) (g := fun a => mul b a) (fun x y => mul_left x y b) (fun x y => mul_right b x y) ?_ a
  refine ⟨?_, ?_, ?_, ?_, ?_, ?_, ?_, ?_⟩ <;> exact ext8 (f := mul _) (g := fun b => mul b _) (fun x y => mul_right _ x y) (fun x y => mul_left x y _) (by decide +kernel) b
theorem mul_assoc (a b c : UInt8) : mul a (mul b c) = mul (mul a b) c := by
  refine ext8 (f := fun a => mul a (mul b c)) (g := fun a => mul (mul a b) c) (fun x y => mul_left x y _) (fun x y => by simp only [mul_left]) ?_ a
  refine ⟨?_, ?_, ?_, ?_, ?_, ?_, ?_, ?_⟩ <;>
    (refine ext8 (f := fun b => mul _ (mul b c)) (g := fun b => mul (mul _ b) c) (fun x y => by simp only [mul_left, mul_right]) (fun x y => by simp only [mul_left, mul_right]) ?_ b
     refine ⟨?_, ?_, ?_, ?_, ?_, ?_, ?_, ?_⟩ <;>
       exact ext8 (f := fun c => mul _ (mul _ c)) (g := fun c => mul (mul _ _) c) (fun x y => by simp only [mul_right]) (fun x y => by simp only [mul_right]) (by decide +kernel) c)
theorem mul_one (a : UInt8) : mul a 1 = a := all8 (p := fun a => mul a 1 = a) (by decide +kernel) a
theorem zero_mul (a : UInt8) : mul 0 a = 0 := all8 (p := fun a => mul 0 a = 0) (by decide +kernel) a
theorem one_mul (a : UInt8) : mul 1 a = a := by rw [mul_comm, mul_one]

/-! powers -/
def pow (a : UInt8) : Nat → UInt8
  | 0 => 1
  | n + 1 => mul (pow a n) a
/-- by squares -/
def powF : Nat → UInt8 → Nat → UInt8 → UInt8
  | 0, _, _, s => s
  | f + 1, a, n, s => if n = 0 then s else powF f (mul a a) (n / 2) (if n % 2 = 1 then mul s a else s)
theorem pow_add (a : UInt8) (m : Nat) : ∀ n, pow a (m + n) = mul (pow a m) (pow a n)
  | 0 => (mul_one _).symm
  | n + 1 => by show mul (pow a (m + n)) a = _; rw [pow_add a m n, ← mul_assoc]; rfl
theorem pow_sq (a : UInt8) : ∀ n, pow (mul a a) n = pow a (2 * n)
  | 0 => rfl
  | n + 1 => by
    show mul (pow (mul a a) n) (mul a a) = _
    rw [pow_sq a n, show 2 * (n + 1) = 2 * n + 2 by omega, pow_add]
    show _ = mul _ (mul (mul 1 a) a)
    rw [one_mul]
theorem powF_eq : ∀ f a n s, n < 2 ^ f → powF f a n s = mul s (pow a n)
  | 0, a, n, s, h => by
    have : n = 0 := by omega
    subst this
    exact (mul_one s).symm
  | f + 1, a, n, s, h => by
    unfold powF
    by_cases h0 : n = 0
    · subst h0; rw [if_pos rfl]; exact (mul_one s).symm
    · rw [if_neg h0, powF_eq f _ _ _ (by rw [Nat.pow_succ] at h; omega), pow_sq]
      by_cases h1 : n % 2 = 1
      · rw [if_pos h1, ← mul_assoc]
        congr 1
        have e : n = 1 + 2 * (n / 2) := by omega
        rw [show pow a n = pow a (1 + 2 * (n / 2)) by rw [← e], pow_add]
        show _ = mul (mul 1 a) _
        rw [one_mul]
      · rw [if_neg h1, show 2 * (n / 2) = n by omega]
def inv (a : UInt8) : UInt8 := powF 8 a 254 1
theorem inv_pow (a : UInt8) : inv a = pow a 254 := by
  unfold inv; rw [powF_eq _ _ _ _ (by decide), one_mul]
theorem mul_inv : ∀ a : UInt8, a ≠ 0 → mul a (inv a) = 1 := all8 (by decide +kernel)
theorem inv_inv : ∀ a : UInt8, inv (inv a) = a := all8 (by decide +kernel)
theorem inv_zero : inv 0 = 0 := by decide +kernel
theorem inv_only {a b : UInt8} (h : mul a b = 1) : b = inv a := by
  have ha : a ≠ 0 := by rintro rfl; rw [zero_mul] at h; exact absurd h (by decide)
  have : mul (inv a) (mul a b) = mul (inv a) 1 := by rw [h]
  rwa [mul_assoc, mul_comm (inv a) a, mul_inv a ha, one_mul, mul_one] at this
def left (a : UInt8) (n : UInt8) : UInt8 := (a <<< n) ||| (a >>> (8 - n))
def box (a : UInt8) : UInt8 := inv a ^^^ left (inv a) 1 ^^^ left (inv a) 2 ^^^ left (inv a) 3 ^^^ left (inv a) 4 ^^^ 99
/-! columns -/
def colAt (x y all : UInt8) : UInt8 := x ^^^ all ^^^ twice (x ^^^ y)
def sum4 (a b c d : UInt8) : UInt8 := a ^^^ b ^^^ c ^^^ d
structure Col where
  a : UInt8
  b : UInt8
  c : UInt8
  d : UInt8
  deriving DecidableEq
def mix (x : Col) : Col := ⟨colAt x.a x.b (sum4 x.a x.b x.c x.d), colAt x.b x.c (sum4 x.a x.b x.c x.d), colAt x.c x.d (sum4 x.a x.b x.c x.d), colAt x.d x.a (sum4 x.a x.b x.c x.d)⟩
theorem xcan (a b : UInt8) : a ^^^ (a ^^^ b) = b := by rw [← UInt8.xor_assoc, UInt8.xor_self, UInt8.zero_xor]
/-- the document's form -/
theorem rcol (x y z u : UInt8) : twice x ^^^ y ^^^ twice y ^^^ z ^^^ u = colAt x y (sum4 x y z u) := by
  have e : x ^^^ sum4 x y z u = y ^^^ z ^^^ u := by
    unfold sum4
    have := xcan x (y ^^^ z ^^^ u)
    rw [← this]; ac_rfl
  unfold colAt
  rw [e, twice_xor]; ac_rfl
theorem sum4_rot (a b c d : UInt8) : sum4 b c d a = sum4 a b c d := by unfold sum4; ac_rfl
def addC (x y : Col) : Col := ⟨x.a ^^^ y.a, x.b ^^^ y.b, x.c ^^^ y.c, x.d ^^^ y.d⟩
theorem colAt_add (x x' y y' s s' : UInt8) : colAt (x ^^^ x') (y ^^^ y') (s ^^^ s') = colAt x y s ^^^ colAt x' y' s' := by
  unfold colAt
  rw [show (x ^^^ x') ^^^ (y ^^^ y') = (x ^^^ y) ^^^ (x' ^^^ y') by ac_rfl, twice_xor]; ac_rfl
theorem sum4_add (a b c d a' b' c' d' : UInt8) : sum4 (a ^^^ a') (b ^^^ b') (c ^^^ c') (d ^^^ d') = sum4 a b c d ^^^ sum4 a' b' c' d' := by unfold sum4; ac_rfl
theorem mix_add (x y : Col) : mix (addC x y) = addC (mix x) (mix y) := by
  unfold mix addC
  simp only [sum4_add, colAt_add]
def mix4 (x : Col) : Col := mix (mix (mix (mix x)))
theorem mix4_add (x y : Col) : mix4 (addC x y) = addC (mix4 x) (mix4 y) := by unfold mix4; simp only [mix_add]
theorem mix4_one : ∀ v : UInt8, mix4 ⟨v, 0, 0, 0⟩ = ⟨v, 0, 0, 0⟩ ∧ mix4 ⟨0, v, 0, 0⟩ = ⟨0, v, 0, 0⟩ ∧ mix4 ⟨0, 0, v, 0⟩ = ⟨0, 0, v, 0⟩ ∧ mix4 ⟨0, 0, 0, v⟩ = ⟨0, 0, 0, v⟩ := all8 (by decide +kernel)
theorem mix4_id (x : Col) : mix4 x = x := by
  obtain ⟨a, b, c, d⟩ := x
  have e : (⟨a, b, c, d⟩ : Col) = addC ⟨a, 0, 0, 0⟩ (addC ⟨0, b, 0, 0⟩ (addC ⟨0, 0, c, 0⟩ ⟨0, 0, 0, d⟩)) := by simp [addC]
  rw [e, mix4_add, mix4_add, mix4_add, (mix4_one a).1, (mix4_one b).2.1, (mix4_one c).2.2.1, (mix4_one d).2.2.2]
end Go.Proofs.YteecbjpnnklbpaaDoor.Gf

/- The walks of the package gf and of its reference. -/
namespace Go.Proofs.YteecbjpnnklbpaaDoor.Gf
open Go.RowKit
set_option linter.unusedVariables false

theorem dbl_cell (a : UInt8) : (a.toNat : Int) * (2 : Int) % (256 : Int) = ((a <<< 1).toNat : Int) := by
  rw [UInt8.toNat_shiftLeft]; simp [Nat.shiftLeft_eq]
theorem dbl_cell2 (a : UInt8) : (a.toNat : Int) <<< (1 : Nat) % (256 : Int) = ((a <<< 1).toNat : Int) := by
  rw [Int.shiftLeft_eq]; exact dbl_cell a
theorem half_cell (a : UInt8) : (a.toNat : Int) / (2 : Int) = ((a >>> 1).toNat : Int) := by
  rw [UInt8.toNat_shiftRight]; simp [Nat.shiftRight_eq_div_pow]
theorem mod_cell (a : UInt8) : (a.toNat : Int) % (2 : Int) = ((a &&& 1).toNat : Int) := by
  have h := Nat.and_two_pow_sub_one_eq_mod a.toNat 1
  have h2 : (a &&& 1).toNat = a.toNat % 2 := by rw [UInt8.toNat_and]; exact h
  rw [h2]; omega
theorem bd8 (a : UInt8) : (0 : Int) ≤ (a.toNat : Int) ∧ (a.toNat : Int) ≤ 255 := by have := a.toNat_lt; omega
theorem ge_high : ∀ a : UInt8, (128 ≤ a.toNat) = (a &&& 128 ≠ 0) := fun a => propext ((all8 (p := fun a => 128 ≤ a.toNat ↔ a &&& 128 ≠ 0) (by decide +kernel)) a)

set_option maxHeartbeats 400000 in
theorem twice_any (a : UInt8) (m : Int) (hm : m = (a.toNat : Int)) (w : World) : Calls Tryd.prog 132 #[.int .u8 m] w fun e w' => e = .returned (.int .u8 ((twice a).toNat : Int)) ∧ w = w' := by
  subst hm
  obtain ⟨b0, b1⟩ := bd8 a
  have Hd := Lib.hid (dbl_cell a)
  have Hx := Lib.hid (show bits .xor .u8 ((a <<< 1).toNat : Int) 27 = ((a <<< 1 ^^^ 27).toNat : Int) from xor8 _ 27)
  have ha : bits .and .u8 (a.toNat : Int) 128 = ((a &&& 128).toNat : Int) := and8 a 128
  by_cases h : a &&& 128 = 0
  · have ht := Lib.hid (show twice a = a <<< 1 from if_pos h)
    rw [h] at ha
    clear h
    go_enter Tryd.func132, Tryd.ntmps132
    go_wp2
    go_ret
    exact ⟨ret_int (by rw [ht.out, ← Hd.out]), rfl⟩
  · have ht := Lib.hid (show twice a = (a <<< 1) ^^^ 27 from if_neg h)
    have h' : a &&& 128 = 128 := (high8 a).resolve_left h
    rw [h'] at ha
    clear h h'
    go_enter Tryd.func132, Tryd.ntmps132
    go_wp2
    go_ret
    exact ⟨ret_int (by rw [ht.out, ← Hx.out, ← Hd.out]), rfl⟩
set_option maxRecDepth 100000 in
set_option maxHeartbeats 400000 in
theorem rtwice_any (a : UInt8) (m : Int) (hm : m = (a.toNat : Int)) (w : World) : Calls Tryd.prog 129 #[.int .u8 m] w fun e w' => e = .returned (.int .u8 ((twice a).toNat : Int)) ∧ w = w' := by
  subst hm
  obtain ⟨b0, b1⟩ := bd8 a
  have Hd := Lib.hid (dbl_cell a)
  have Hx := Lib.hid (show bits .xor .u8 ((a <<< 1).toNat : Int) 27 = ((a <<< 1 ^^^ 27).toNat : Int) from xor8 _ 27)
  have hge := ge_high a
  by_cases h : a &&& 128 = 0
  · have ht := Lib.hid (show twice a = a <<< 1 from if_pos h)
    have hl : (a.toNat : Int) < 128 := by
      rw [h] at hge
      have : ¬ 128 ≤ a.toNat := by rw [hge]; simp
      omega
    clear hge h
    go_enter Tryd.func129, Tryd.ntmps129
    go_wp2
    go_ret
    exact ⟨ret_int (by rw [ht.out, ← Hd.out]; omega), rfl⟩
  · have ht := Lib.hid (show twice a = (a <<< 1) ^^^ 27 from if_neg h)
    have hl : (128 : Int) ≤ (a.toNat : Int) := by
      have : 128 ≤ a.toNat := by rw [hge]; exact h
      omega
    clear hge h
    go_enter Tryd.func129, Tryd.ntmps129
    go_wp2
    go_ret
    exact ⟨ret_int (by rw [ht.out, ← Hx.out, ← Hd.out]), rfl⟩

theorem mulF_zero : ∀ n b s, mulF n 0 b s = s
  | 0, _, _ => rfl
  | n + 1, b, s => by
    show mulF n ((0 : UInt8) >>> 1) _ _ = s
    rw [show (0 : UInt8) >>> 1 = 0 by decide, mulF_zero n]
    exact if_neg (by decide)
theorem mulF_odd (n : Nat) (a b s : UInt8) (h : a &&& 1 = 1) : mulF (n + 1) a b s = mulF n (a >>> 1) (twice b) (s ^^^ b) := by
  show mulF n _ _ _ = _; rw [if_pos h]
theorem mulF_even (n : Nat) (a b s : UInt8) (h : a &&& 1 = 0) : mulF (n + 1) a b s = mulF n (a >>> 1) (twice b) s := by
  show mulF n _ _ _ = _; rw [if_neg (by rw [h]; decide)]
theorem half_lt (a : UInt8) (k : Nat) (h : a.toNat < 2 ^ (k + 1)) : (a >>> 1).toNat < 2 ^ k := by
  have : (a >>> 1).toNat = a.toNat / 2 := by rw [UInt8.toNat_shiftRight]; simp [Nat.shiftRight_eq_div_pow]
  rw [Nat.pow_succ] at h; omega

set_option maxHeartbeats 800000 in
theorem mul_any (a b : UInt8) (m n : Int) (hm : m = (a.toNat : Int)) (hn : n = (b.toNat : Int)) (w : World) : Calls Tryd.prog 130 #[.int .u8 m, .int .u8 n] w fun e w' => e = .returned (.int .u8 ((mul a b).toNat : Int)) ∧ w = w' := by
  subst hm hn
  go_enter Tryd.func130, Tryd.ntmps130
  go_wp2
  go_step3
  go_wp2
  go_step3
  go_wp2
  go_loop [0, 1, 4] (fun x y s => ∃ (k : Nat) (p q r : UInt8), k ≤ 8 ∧ p.toNat < 2 ^ k ∧ x = .int .u8 (p.toNat : Int) ∧ y = .int .u8 (q.toNat : Int) ∧ s = .int .u8 (r.toNat : Int) ∧ Hid (mulF k p q r = mul a b)) (fun x _ _ => (intOf x).toNat)
  case atStart => exact ⟨8, a, b, 0, by omega, a.toNat_lt, rfl, rfl, rfl, rfl⟩
  case round =>
    obtain ⟨k, p, q, r, hk, hp, rfl, rfl, rfl, hm⟩ := hrel
    obtain ⟨p0, p1⟩ := bd8 p
    by_cases hz : p = 0
    · subst hz
      have he := Lib.hid (show r = mul a b by rw [← hm.out, mulF_zero])
      go_wp2
      go_ret
      exact ⟨ret_int (by rw [← he.out]), rfl⟩
    · have t0 : ((p.toNat : Int) == 0) = false := beq8 (b := 0) hz
      obtain ⟨k, rfl⟩ : ∃ j, k = j + 1 := ⟨k - 1, by
        rcases Nat.eq_zero_or_pos k with h | h
        · subst h; exact absurd (UInt8.toNat_inj.1 (show p.toNat = (0 : UInt8).toNat by simpa using hp)) hz
        · omega⟩
      have hpos : 0 < p.toNat := by
        rcases Nat.eq_zero_or_pos p.toNat with h | h
        · exact absurd (UInt8.toNat_inj.1 h) hz
        · exact h
      have hnx := half_lt p k hp
      have hc := half_cell p
      have ha : bits .and .u8 (p.toNat : Int) 1 = ((p &&& 1).toNat : Int) := and8 p 1
      rcases low8 p with hl | hl
      · have hm2 := (mulF_even k p q r hl).symm.trans hm.out
        obtain ⟨p', hp'⟩ : ∃ x, x = p >>> 1 := ⟨_, rfl⟩
        rw [← hp'] at hm2 hnx hc
        have hm' := Lib.hid hm2
        rw [hl] at ha
        clear hz hl hp' hm2
        go_wp2_with (go_at_call 132; refine (twice_any _ _ rfl _).mono ?_; rintro e w' ⟨rfl, rfl⟩)
        go_round
        case rel => exact ⟨k, _, _, _, by omega, hnx, rfl, rfl, rfl, hm'⟩
        case measure => simp only [intOf]; omega
      · have hm2 := (mulF_odd k p q r hl).symm.trans hm.out
        obtain ⟨p', hp'⟩ : ∃ x, x = p >>> 1 := ⟨_, rfl⟩
        rw [← hp'] at hm2 hnx hc
        have hm' := Lib.hid hm2
        have hx := xor8 r q
        rw [hl] at ha
        clear hz hl hp' hm2
        go_wp2_with (go_at_call 132; refine (twice_any _ _ rfl _).mono ?_; rintro e w' ⟨rfl, rfl⟩)
        go_round
        case rel => exact ⟨k, _, _, _, by omega, hnx, rfl, rfl, rfl, hm'⟩
        case measure => simp only [intOf]; omega
set_option maxHeartbeats 800000 in
theorem rmul_any (a b : UInt8) (m n : Int) (hm : m = (a.toNat : Int)) (hn : n = (b.toNat : Int)) (w : World) : Calls Tryd.prog 128 #[.int .u8 m, .int .u8 n] w fun e w' => e = .returned (.int .u8 ((mul a b).toNat : Int)) ∧ w = w' := by
  subst hm hn
  go_enter Tryd.func128, Tryd.ntmps128
  go_wp2
  go_loop [0, 1, 5, 6] (fun x y s i => ∃ (k : Nat) (p q r : UInt8), k ≤ 8 ∧ i = .int .i64 k ∧ x = .int .u8 (p.toNat : Int) ∧ y = .int .u8 (q.toNat : Int) ∧ s = .int .u8 (r.toNat : Int) ∧ Hid (mulF (8 - k) p q r = mul a b)) (fun _ _ _ i => 8 - (intOf i).toNat)
  case atStart => exact ⟨0, a, b, 0, by omega, rfl, rfl, rfl, rfl, rfl⟩
  case round =>
    obtain ⟨k, p, q, r, hk, rfl, rfl, rfl, rfl, hm⟩ := hrel
    obtain ⟨p0, p1⟩ := bd8 p
    by_cases hlt : k < 8
    · have hc := half_cell p
      have hmo := mod_cell p
      have hm2 := hm.out
      rw [show 8 - k = (8 - (k + 1)) + 1 by omega] at hm2
      rcases low8 p with hl | hl
      · have hm3 := (mulF_even _ p q r hl).symm.trans hm2
        obtain ⟨p', hp'⟩ : ∃ x, x = p >>> 1 := ⟨_, rfl⟩
        rw [← hp'] at hm3 hc
        have hm' := Lib.hid hm3
        have ht : ((p.toNat : Int) % 2 == 1) = false := beq_no (by rw [hmo, hl]; decide)
        clear hl hmo hm2 hp' hm3
        go_wp2_with (go_at_call 129; refine (rtwice_any _ _ rfl _).mono ?_; rintro e w' ⟨rfl, rfl⟩)
        go_round
        case rel => exact ⟨k + 1, _, _, _, by omega, by go_num, rfl, rfl, rfl, hm'⟩
        case measure => simp only [intOf]; omega
      · have hm3 := (mulF_odd _ p q r hl).symm.trans hm2
        obtain ⟨p', hp'⟩ : ∃ x, x = p >>> 1 := ⟨_, rfl⟩
        rw [← hp'] at hm3 hc
        have hm' := Lib.hid hm3
        have ht : ((p.toNat : Int) % 2 == 1) = true := beq_yes (by rw [hmo, hl]; decide)
        have hx := xor8 r q
        clear hl hmo hm2 hp' hm3
        go_wp2_with (go_at_call 129; refine (rtwice_any _ _ rfl _).mono ?_; rintro e w' ⟨rfl, rfl⟩)
        go_round
        case rel => exact ⟨k + 1, _, _, _, by omega, by go_num, rfl, rfl, rfl, hm'⟩
        case measure => simp only [intOf]; omega
    · obtain rfl : k = 8 := by omega
      have he := Lib.hid (show r = mul a b by rw [← hm.out]; rfl)
      go_wp2
      go_ret
      exact ⟨ret_int (by rw [← he.out]), rfl⟩

/-- how often is multiplied -/
def expo (n : Int) : Nat := (if 255 < n then (n - 1) % 255 + 1 else n).toNat
set_option maxHeartbeats 800000 in
theorem rpower_any (a : UInt8) (m n : Int) (hm : m = (a.toNat : Int)) (h0 : -9223372036854775808 ≤ n) (h1 : n ≤ 9223372036854775807) (w : World) : Calls Tryd.prog 117 #[.int .u8 m, .int .i64 n] w fun e w' => e = .returned (.int .u8 ((pow a (expo n)).toNat : Int)) ∧ w = w' := by
  subst hm
  by_cases hn : 255 < n
  · have hb0 := Int.emod_nonneg (n - 1) (by omega : (255 : Int) ≠ 0)
    have hb1 := Int.emod_lt_of_pos (n - 1) (by omega : (0 : Int) < 255)
    have he := Lib.hid (show (expo n : Int) = (n - 1) % 255 + 1 by unfold expo; rw [if_pos hn]; omega)
    go_enter Tryd.func117, Tryd.ntmps117
    go_wp2
    go_loop [5, 6] (fun s i => ∃ k : Nat, (k : Int) ≤ (n - 1) % 255 + 1 ∧ i = .int .i64 k ∧ s = .int .u8 ((pow a k).toNat : Int)) (fun _ i => ((n - 1) % 255 + 1 - intOf i).toNat)
    case atStart => exact ⟨0, by omega, rfl, rfl⟩
    case round =>
      obtain ⟨k, hk, rfl, rfl⟩ := hrel
      by_cases hlt : (k : Int) < (n - 1) % 255 + 1
      · go_wp2_with (go_at_call 128; refine (rmul_any _ _ _ _ rfl rfl _).mono ?_; rintro e w' ⟨rfl, rfl⟩)
        go_round
        case rel => exact ⟨k + 1, by omega, by go_num, rfl⟩
        case measure => simp only [intOf]; omega
      · have hk' := Lib.hid (show expo n = k by have := he.out; omega)
        go_wp2
        go_ret
        exact ⟨ret_int (by rw [hk'.out]), rfl⟩
  · have he := Lib.hid (show expo n = n.toNat by unfold expo; rw [if_neg hn])
    go_enter Tryd.func117, Tryd.ntmps117
    go_wp2
    go_loop [5, 6] (fun s i => ∃ k : Nat, k ≤ n.toNat ∧ i = .int .i64 k ∧ s = .int .u8 ((pow a k).toNat : Int)) (fun _ i => n.toNat - (intOf i).toNat)
    case atStart => exact ⟨0, by omega, rfl, rfl⟩
    case round =>
      obtain ⟨k, hk, rfl, rfl⟩ := hrel
      by_cases hlt : (k : Int) < n
      · go_wp2_with (go_at_call 128; refine (rmul_any _ _ _ _ rfl rfl _).mono ?_; rintro e w' ⟨rfl, rfl⟩)
        go_round
        case rel => exact ⟨k + 1, by omega, by go_num, rfl⟩
        case measure => simp only [intOf]; omega
      · have hk' := Lib.hid (show expo n = k by rw [he.out]; omega)
        go_wp2
        go_ret
        exact ⟨ret_int (by rw [hk'.out]), rfl⟩

theorem i64_and1 (n : Int) : bits .and .i64 n 1 = n % 2 := by
  have h1 : (BitVec.ofInt 64 1).toNat = 2 ^ 1 - 1 := by decide
  have key : (BitVec.ofInt 64 n &&& BitVec.ofInt 64 1).toNat = (n % ((2 ^ 64 : Nat) : Int)).toNat % 2 ^ 1 := by
    rw [BitVec.toNat_and, BitVec.toNat_ofInt, h1, Nat.and_two_pow_sub_one_eq_mod]
  show IntKind.i64.wrap ((BitVec.ofInt 64 n &&& BitVec.ofInt 64 1).toNat : Nat) = n % 2
  rw [key, IntKind.wrap_i64]
  omega
theorem pow_even (p s : UInt8) (n : Nat) (h : n % 2 = 0) : mul s (pow p n) = mul s (pow (mul p p) (n / 2)) := by
  rw [pow_sq, show 2 * (n / 2) = n by omega]
theorem pow_odd (p s : UInt8) (n : Nat) (h : n % 2 = 1) : mul s (pow p n) = mul (mul s p) (pow (mul p p) (n / 2)) := by
  rw [pow_sq, ← mul_assoc]
  congr 1
  have e : n = 1 + 2 * (n / 2) := by omega
  rw [show pow p n = pow p (1 + 2 * (n / 2)) by rw [← e], pow_add]
  show mul (mul 1 p) _ = _
  rw [one_mul]

/-- what holds at the label -/
def AtNext (e : UInt8) (w : World) (a' : Act) (w' : World) : Prop :=
  w = w' ∧ ∃ (x y o u2 u3 u4 u6 u7 u8 u9 u10 u11 u12 u13 u14 u15 u16 u17 u18 u19 u20 u21 u22 u23 u24 u25 : Value),
    a' = { tmps := #[x, y, u2, u3, u4, o, u6, u7, u8, u9, u10, u11, u12, u13, u14, u15, u16, u17, u18, u19, u20, u21, u22, u23, u24, u25], defers := [] } ∧
      ∃ (p s : UInt8) (z : Int), x = .int .u8 (p.toNat : Int) ∧ y = .int .i64 z ∧ o = .int .u8 (s.toNat : Int) ∧ z ≤ 255 ∧ mul s (pow p z.toNat) = e
theorem next_round (e p s : UInt8) (z : Int) (hz : z ≤ 255) (he : mul s (pow p z.toNat) = e) : (z < 1 → s = e) ∧ (1 ≤ z → z % 2 = 1 → mul (mul s p) (pow (mul p p) (z / 2).toNat) = e) ∧ (1 ≤ z → z % 2 ≠ 1 → mul s (pow (mul p p) (z / 2).toNat) = e) := by
  refine ⟨fun h => ?_, fun h1 h2 => ?_, fun h1 h2 => ?_⟩
  · rw [show z.toNat = 0 by omega] at he; rw [← he]; exact (mul_one s).symm
  · rw [← he, pow_odd p s z.toNat (by omega), show (z / 2).toNat = z.toNat / 2 by omega]
  · rw [← he, pow_even p s z.toNat (by omega), show (z / 2).toNat = z.toNat / 2 by omega]

set_option maxRecDepth 100000 in
set_option maxHeartbeats 1600000 in
theorem power_any (a : UInt8) (m n : Int) (hm : m = (a.toNat : Int)) (h0 : -9223372036854775808 ≤ n) (h1 : n ≤ 9223372036854775807) (w : World) : Calls Tryd.prog 120 #[.int .u8 m, .int .i64 n] w fun e w' => e = .returned (.int .u8 ((pow a (expo n)).toNat : Int)) ∧ w = w' := by
  subst hm
  obtain ⟨e, he⟩ : ∃ e, e = pow a (expo n) := ⟨_, rfl⟩
  rw [← he]
  have He := Lib.hid he
  clear he
  go_enter Tryd.func120, Tryd.ntmps120
  go_wp2
  refine wp_scope_jumps 0 (AtNext e w) (fun a' _ => (intOf (a'.tmps.getD 1 undef)).toNat) rfl ?_ ?_
  · by_cases hn : 255 < n
    · have hb0 := Int.emod_nonneg (n - 1) (by omega : (255 : Int) ≠ 0)
      have hb1 := Int.emod_lt_of_pos (n - 1) (by omega : (0 : Int) < 255)
      have hr := Lib.hid (next_round e a 1 ((n - 1) % 255 + 1) (by omega) (by rw [He.out, one_mul]; unfold expo; rw [if_pos hn]))
      have ha := i64_and1 (((n - 1) % 255 + 1))
      by_cases h2 : (((n - 1) % 255 + 1)) % 2 = 1
      · have ht : (((n - 1) % 255 + 1) % 2 == 1) = true := beq_yes h2
        have hnx := Lib.hid (hr.out.2.1 (by omega) h2)
        clear h2
        go_wp2_with fail
        go_step3
        go_wp2_with fail
        refine (mul_any 1 a _ _ (by rfl) rfl _).mono ?_
        rintro e1 w1 ⟨rfl, rfl⟩
        go_wp2_with fail
        refine (mul_any a a _ _ rfl rfl _).mono ?_
        rintro e1 w1 ⟨rfl, rfl⟩
        go_wp2_with fail
        go_step3
        exact ⟨rfl, rfl, _, _, _, _, _, _, _, _, _, _, _, _, _, _, _, _, _, _, _, _, _, _, _, _, _, _, rfl, mul a a, mul 1 a, ((n - 1) % 255 + 1) / 2, rfl, rfl, rfl, by omega, hnx.out⟩
      · have ht : (((n - 1) % 255 + 1) % 2 == 1) = false := beq_no h2
        have hnx := Lib.hid (hr.out.2.2 (by omega) h2)
        clear h2
        go_wp2_with fail
        go_step3
        go_wp2_with fail
        refine (mul_any a a _ _ rfl rfl _).mono ?_
        rintro e1 w1 ⟨rfl, rfl⟩
        go_wp2_with fail
        go_step3
        exact ⟨rfl, rfl, _, _, _, _, _, _, _, _, _, _, _, _, _, _, _, _, _, _, _, _, _, _, _, _, _, _, rfl, mul a a, 1, ((n - 1) % 255 + 1) / 2, rfl, rfl, rfl, by omega, hnx.out⟩
    · have hr := Lib.hid (next_round e a 1 n (by omega) (by rw [He.out, one_mul]; unfold expo; rw [if_neg hn]))
      by_cases h1 : n < 1
      · have hs := Lib.hid (hr.out.1 h1)
        go_wp2_with fail
        go_step3
        go_wp2_with fail
        simp only [Exit.jump]
        go_ret
        exact ⟨ret_int (by rw [← hs.out]; try rfl), rfl⟩
      · have h3 : 1 ≤ n := by omega
        have ha := i64_and1 (n)
        by_cases h2 : n % 2 = 1
        · have ht : (n % 2 == 1) = true := beq_yes h2
          have hnx := Lib.hid (hr.out.2.1 (by omega) h2)
          clear h2
          go_wp2_with fail
          go_step3
          go_wp2_with fail
          refine (mul_any 1 a _ _ (by rfl) rfl _).mono ?_
          rintro e1 w1 ⟨rfl, rfl⟩
          go_wp2_with fail
          refine (mul_any a a _ _ rfl rfl _).mono ?_
          rintro e1 w1 ⟨rfl, rfl⟩
          go_wp2_with fail
          go_step3
          exact ⟨rfl, rfl, _, _, _, _, _, _, _, _, _, _, _, _, _, _, _, _, _, _, _, _, _, _, _, _, _, _, rfl, mul a a, mul 1 a, n / 2, rfl, rfl, rfl, by omega, hnx.out⟩
        · have ht : (n % 2 == 1) = false := beq_no h2
          have hnx := Lib.hid (hr.out.2.2 (by omega) h2)
          clear h2
          go_wp2_with fail
          go_step3
          go_wp2_with fail
          refine (mul_any a a _ _ rfl rfl _).mono ?_
          rintro e1 w1 ⟨rfl, rfl⟩
          go_wp2_with fail
          go_step3
          exact ⟨rfl, rfl, _, _, _, _, _, _, _, _, _, _, _, _, _, _, _, _, _, _, _, _, _, _, _, _, _, _, rfl, mul a a, 1, n / 2, rfl, rfl, rfl, by omega, hnx.out⟩
  · rintro a' w' ⟨rfl, x, y, o, u2, u3, u4, u6, u7, u8, u9, u10, u11, u12, u13, u14, u15, u16, u17, u18, u19, u20, u21, u22, u23, u24, u25, rfl, p, s, z, rfl, rfl, rfl, hz, hpe⟩
    have hr := Lib.hid (next_round e p s z hz hpe)
    clear hpe
    by_cases h1 : z < 1
    · have hs := Lib.hid (hr.out.1 h1)
      go_wp2_with fail
      simp only [Exit.jump]
      go_ret
      exact ⟨ret_int (by rw [← hs.out]; try rfl), rfl⟩
    · have h3 : 1 ≤ z := by omega
      have ha := i64_and1 (z)
      by_cases h2 : z % 2 = 1
      · have ht : (z % 2 == 1) = true := beq_yes h2
        have hnx := Lib.hid (hr.out.2.1 (by omega) h2)
        clear h2
        go_wp2_with fail
        refine (mul_any s p _ _ (by rfl) rfl _).mono ?_
        rintro e1 w1 ⟨rfl, rfl⟩
        go_wp2_with fail
        refine (mul_any p p _ _ rfl rfl _).mono ?_
        rintro e1 w1 ⟨rfl, rfl⟩
        go_wp2_with fail
        go_step3
        exact ⟨rfl, ⟨rfl, _, _, _, _, _, _, _, _, _, _, _, _, _, _, _, _, _, _, _, _, _, _, _, _, _, _, rfl, mul p p, mul s p, z / 2, rfl, rfl, rfl, by omega, hnx.out⟩, show (z / 2).toNat < z.toNat by omega⟩
      · have ht : (z % 2 == 1) = false := beq_no h2
        have hnx := Lib.hid (hr.out.2.2 (by omega) h2)
        clear h2
        go_wp2_with fail
        refine (mul_any p p _ _ rfl rfl _).mono ?_
        rintro e1 w1 ⟨rfl, rfl⟩
        go_wp2_with fail
        go_step3
        exact ⟨rfl, ⟨rfl, _, _, _, _, _, _, _, _, _, _, _, _, _, _, _, _, _, _, _, _, _, _, _, _, _, _, rfl, mul p p, s, z / 2, rfl, rfl, rfl, by omega, hnx.out⟩, show (z / 2).toNat < z.toNat by omega⟩
theorem expo254 : expo 254 = 254 := by decide
set_option maxRecDepth 100000 in
set_option maxHeartbeats 800000 in
theorem rinverse_any (a : UInt8) (m : Int) (hm : m = (a.toNat : Int)) (w : World) : Calls Tryd.prog 126 #[.int .u8 m] w fun e w' => e = .returned (.int .u8 ((inv a).toNat : Int)) ∧ w = w' := by
  subst hm
  go_enter Tryd.func126, Tryd.ntmps126
  go_wp2
  go_loop [3] (fun i => ∃ k : Nat, k ≤ 256 ∧ i = .int .i64 k ∧ Hid (∀ j : Nat, j < k → mul a (UInt8.ofNat j) ≠ 1)) (fun i => 256 - (intOf i).toNat)
  case atStart => exact ⟨0, by omega, rfl, fun j hj => absurd hj (by omega)⟩
  case round =>
    obtain ⟨k, hk, rfl, hno⟩ := hrel
    by_cases hlt : k < 256
    · have hb : (k : Int) % 256 = ((UInt8.ofNat k).toNat : Int) := by
        rw [UInt8.toNat_ofNat']; omega
      have hk8 : (k : Int) = ((UInt8.ofNat k).toNat : Int) := by rw [← hb]; omega
      by_cases h : mul a (UInt8.ofNat k) = 1
      · have ht : (((mul a (UInt8.ofNat k)).toNat : Int) == 1) = true := beq_yes (by rw [h]; rfl)
        have hi := Lib.hid (inv_only h)
        have Hk := Lib.hid hk8
        clear hb hk8 h
        go_wp2_with (go_at_call 128; refine (rmul_any a (UInt8.ofNat k) _ _ rfl Hk.out _).mono ?_; rintro e w' ⟨rfl, rfl⟩)
        go_ret
        exact ⟨ret_int (by rw [← hi.out]; exact Hk.out), rfl⟩
      · have ht : (((mul a (UInt8.ofNat k)).toNat : Int) == 1) = false := beq8 (b := 1) h
        have hno' := Lib.hid (show ∀ j : Nat, j < k + 1 → mul a (UInt8.ofNat j) ≠ 1 from fun j hj => by
          rcases Nat.lt_or_ge j k with e | e
          · exact hno.out j e
          · obtain rfl : j = k := by omega
            exact h)
        have Hk := Lib.hid hk8
        clear hb hk8 h
        go_wp2_with (go_at_call 128; refine (rmul_any a (UInt8.ofNat k) _ _ rfl Hk.out _).mono ?_; rintro e w' ⟨rfl, rfl⟩)
        go_round
        case rel => exact ⟨k + 1, by omega, by go_num, hno'⟩
        case measure => simp only [intOf]; omega
    · obtain rfl : k = 256 := by omega
      have hz := Lib.hid (show inv a = 0 by
        by_cases ha : a = 0
        · rw [ha]; exact inv_zero
        · exact absurd (mul_inv a ha) (by
            have := hno.out (inv a).toNat (inv a).toNat_lt
            rwa [show UInt8.ofNat (inv a).toNat = inv a from UInt8.toNat_inj.1 (by simp)] at this))
      go_wp2
      go_ret
      exact ⟨ret_int (by rw [hz.out]; rfl), rfl⟩
end Go.Proofs.YteecbjpnnklbpaaDoor.Gf

/- The walk of gf.Box: the table is what the document says. -/
namespace Go.Proofs.YteecbjpnnklbpaaDoor.Gf
open Go.RowKit
set_option linter.unusedVariables false
def table : Array Nat := #[99, 124, 119, 123, 242, 107, 111, 197, 48, 1, 103, 43, 254, 215, 171, 118, 202, 130, 201, 125, 250, 89, 71, 240, 173, 212, 162, 175, 156, 164, 114, 192, 183, 253, 147, 38, 54, 63, 247, 204, 52, 165, 229, 241, 113, 216, 49, 21, 4, 199, 35, 195, 24, 150, 5, 154, 7, 18, 128, 226, 235, 39, 178, 117, 9, 131, 44, 26, 27, 110, 90, 160, 82, 59, 214, 179, 41, 227, 47, 132, 83, 209, 0, 237, 32, 252, 177, 91, 106, 203, 190, 57, 74, 76, 88, 207, 208, 239, 170, 251, 67, 77, 51, 133, 69, 249, 2, 127, 80, 60, 159, 168, 81, 163, 64, 143, 146, 157, 56, 245, 188, 182, 218, 33, 16, 255, 243, 210, 205, 12, 19, 236, 95, 151, 68, 23, 196, 167, 126, 61, 100, 93, 25, 115, 96, 129, 79, 220, 34, 42, 144, 136, 70, 238, 184, 20, 222, 94, 11, 219, 224, 50, 58, 10, 73, 6, 36, 92, 194, 211, 172, 98, 145, 149, 228, 121, 231, 200, 55, 109, 141, 213, 78, 169, 108, 86, 244, 234, 101, 122, 174, 8, 186, 120, 37, 46, 28, 166, 180, 198, 232, 221, 116, 31, 75, 189, 139, 138, 112, 62, 181, 102, 72, 3, 246, 14, 97, 53, 87, 185, 134, 193, 29, 158, 225, 248, 152, 17, 105, 217, 142, 148, 155, 30, 135, 233, 206, 85, 40, 223, 140, 161, 137, 13, 191, 230, 66, 104, 65, 153, 45, 15, 176, 84, 187, 22]
theorem table_box : ∀ n : Fin 256, table.getD n.val 0 = (box (UInt8.ofNat n)).toNat := by decide +kernel
theorem table_at (a : UInt8) : (table.map fun (n : Nat) => Value.int .u8 (n : Int))[a.toNat]? = some (.int .u8 ((box a).toNat : Int)) := by
  have h := table_box ⟨a.toNat, a.toNat_lt⟩
  have hs : table.size = 256 := by decide +kernel
  rw [show UInt8.ofNat (⟨a.toNat, a.toNat_lt⟩ : Fin 256) = a from UInt8.toNat_inj.1 (by simp)] at h
  have hlt : a.toNat < table.size := by rw [hs]; exact a.toNat_lt
  rw [Array.getElem?_map, Array.getElem?_eq_getElem hlt]
  simp only [Option.map_some]
  rw [← h]
  simp [Array.getD, hlt]
/-- the whole table as one value -/
def tabV : Value := .agg (table.map fun (n : Nat) => Value.int .u8 (n : Int))
theorem wpList_build {P : Program} {w : World} {ops : Array Oper} {rest : List Oper} {o : Oper} {a : Act} {Q : Exit → Act → World → Prop} (hg : o.guard = none) (t : TypeId) (parts : Array (Nat × Operand)) (ho : o.op = .build t parts) (v : Value)
    (hrun : ∀ (a : Act) (w : World), (execOp a.eval o).run P w = .ok (.value v) w) (h : wpList P ops Q rest (a.put o.dst v) w) : wpList P ops Q (o :: rest) a w := by
  refine wpList_plain hg fun K hK => ?_
  unfold Oper.wp
  rw [hrun a w]
  exact hK _ _ h
set_option maxRecDepth 100000 in
set_option maxHeartbeats 800000 in
theorem box_any (a : UInt8) (m : Int) (hm : m = (a.toNat : Int)) (w : World) : Calls Tryd.prog 110 #[.int .u8 m] w fun e w' => e = .returned (.int .u8 ((box a).toNat : Int)) ∧ w = w' := by
  subst hm
  have hix : ∀ w, (Instr.index 68 tabV (.int .u8 (a.toNat : Int))).run Tryd.prog w = .ok (.int .u8 ((box a).toNat : Int)) w := fun w => run_index_ints (P := Tryd.prog) (t := 68) (n := 256) (k := .u8) Tryd.underlying68 Tryd.underlying5 (by kernel_rfl) a.toNat_lt (table_at a) w
  go_enter Tryd.func110, Tryd.ntmps110
  go_wp2_with (refine wpList_build rfl _ _ rfl tabV (fun a w => ?_) ?_; kernel_rfl)
  go_ret
  exact ⟨rfl, rfl⟩
end Go.Proofs.YteecbjpnnklbpaaDoor.Gf

/- The walks of the reference's box, of the mixed columns on both sides, and of the chapter's examples. -/
namespace Go.Proofs.YteecbjpnnklbpaaDoor.Gf
open Go.RowKit
set_option linter.unusedVariables false

theorem left_cell (a : UInt8) (n : Nat) (h : 1 ≤ n ∧ n ≤ 4) : bits .or .u8 ((a.toNat : Int) * 2 ^ n % 256) ((a.toNat : Int) / 2 ^ (8 - n)) = ((left a (UInt8.ofNat n)).toNat : Int) := by
  obtain rfl | rfl | rfl | rfl : n = 1 ∨ n = 2 ∨ n = 3 ∨ n = 4 := by omega
  all_goals
    unfold left
    rw [← or8]
    congr 1
    · rw [UInt8.toNat_shiftLeft]; simp [Nat.shiftLeft_eq]
    · rw [UInt8.toNat_shiftRight]; simp [Nat.shiftRight_eq_div_pow]
set_option maxRecDepth 100000 in
set_option maxHeartbeats 400000 in
theorem left_any (a : UInt8) (m n : Int) (k : Nat) (hm : m = (a.toNat : Int)) (hn : n = (k : Int)) (hk : 1 ≤ k ∧ k ≤ 4) (w : World) : Calls Tryd.prog 127 #[.int .u8 m, .int .i64 n] w fun e w' => e = .returned (.int .u8 ((left a (UInt8.ofNat k)).toNat : Int)) ∧ Below w.heap.size w w' := by
  subst hm
  obtain ⟨b0, b1⟩ := bd8 a
  have hl := Lib.hid (left_cell a k hk)
  rcases (by omega : n = 1 ∨ n = 2 ∨ n = 3 ∨ n = 4) with rfl | rfl | rfl | rfl
  · obtain rfl : k = 1 := by omega
    clear hn hk
    go_enter Tryd.func127, Tryd.ntmps127
    go_wp2
    refine region_inb (by kernel_rfl) (by kernel_rfl) ?_
    have inbNe := InB.some
    have inbW := @wrap_small
    have inbU := IntKind.wrap_u8'
    repeat (refine wpQuiet_step (fun K hK => ?_); go_simp; first | (refine hK _ ?_; clear hK K) | (apply Exists.intro; refine ⟨?_, hK _ ?_⟩; (· (intro w' hw'; first | (have hcw := hw'.cell; go_simp; exact rfl))); clear hK K))
    refine wpQuiet_nil ?_
    intro wq hq
    clear inbNe inbW inbU
    go_wp2
    go_ret
    exact ⟨ret_int (by rw [← hl.out]; rfl), hq⟩
  · obtain rfl : k = 2 := by omega
    clear hn hk
    go_enter Tryd.func127, Tryd.ntmps127
    go_wp2
    refine region_inb (by kernel_rfl) (by kernel_rfl) ?_
    have inbNe := InB.some
    have inbW := @wrap_small
    have inbU := IntKind.wrap_u8'
    repeat (refine wpQuiet_step (fun K hK => ?_); go_simp; first | (refine hK _ ?_; clear hK K) | (apply Exists.intro; refine ⟨?_, hK _ ?_⟩; (· (intro w' hw'; first | (have hcw := hw'.cell; go_simp; exact rfl))); clear hK K))
    refine wpQuiet_nil ?_
    intro wq hq
    clear inbNe inbW inbU
    go_wp2
    go_ret
    exact ⟨ret_int (by rw [← hl.out]; rfl), hq⟩
  · obtain rfl : k = 3 := by omega
    clear hn hk
    go_enter Tryd.func127, Tryd.ntmps127
    go_wp2
    refine region_inb (by kernel_rfl) (by kernel_rfl) ?_
    have inbNe := InB.some
    have inbW := @wrap_small
    have inbU := IntKind.wrap_u8'
    repeat (refine wpQuiet_step (fun K hK => ?_); go_simp; first | (refine hK _ ?_; clear hK K) | (apply Exists.intro; refine ⟨?_, hK _ ?_⟩; (· (intro w' hw'; first | (have hcw := hw'.cell; go_simp; exact rfl))); clear hK K))
    refine wpQuiet_nil ?_
    intro wq hq
    clear inbNe inbW inbU
    go_wp2
    go_ret
    exact ⟨ret_int (by rw [← hl.out]; rfl), hq⟩
  · obtain rfl : k = 4 := by omega
    clear hn hk
    go_enter Tryd.func127, Tryd.ntmps127
    go_wp2
    refine region_inb (by kernel_rfl) (by kernel_rfl) ?_
    have inbNe := InB.some
    have inbW := @wrap_small
    have inbU := IntKind.wrap_u8'
    repeat (refine wpQuiet_step (fun K hK => ?_); go_simp; first | (refine hK _ ?_; clear hK K) | (apply Exists.intro; refine ⟨?_, hK _ ?_⟩; (· (intro w' hw'; first | (have hcw := hw'.cell; go_simp; exact rfl))); clear hK K))
    refine wpQuiet_nil ?_
    intro wq hq
    clear inbNe inbW inbU
    go_wp2
    go_ret
    exact ⟨ret_int (by rw [← hl.out]; rfl), hq⟩
set_option maxRecDepth 100000 in
set_option maxHeartbeats 400000 in
theorem rbox_any (a : UInt8) (m : Int) (hm : m = (a.toNat : Int)) (w : World) : Calls Tryd.prog 116 #[.int .u8 m] w fun e w' => e = .returned (.int .u8 ((box a).toNat : Int)) ∧ Below w.heap.size w w' := by
  subst hm
  have x1 := Lib.hid (xor8 (inv a) (left (inv a) 1))
  have x2 := Lib.hid (xor8 (inv a ^^^ left (inv a) 1) (left (inv a) 2))
  have x3 := Lib.hid (xor8 (inv a ^^^ left (inv a) 1 ^^^ left (inv a) 2) (left (inv a) 3))
  have x4 := Lib.hid (xor8 (inv a ^^^ left (inv a) 1 ^^^ left (inv a) 2 ^^^ left (inv a) 3) (left (inv a) 4))
  have x5 := Lib.hid (show bits .xor .u8 ((inv a ^^^ left (inv a) 1 ^^^ left (inv a) 2 ^^^ left (inv a) 3 ^^^ left (inv a) 4).toNat : Int) 99 = ((box a).toNat : Int) from xor8 (inv a ^^^ left (inv a) 1 ^^^ left (inv a) 2 ^^^ left (inv a) 3 ^^^ left (inv a) 4) 99)
  go_enter Tryd.func116, Tryd.ntmps116
  go_wp2_with fail
  refine (rinverse_any _ _ rfl _).mono ?_
  rintro e w1 ⟨rfl, rfl⟩
  go_wp2_with fail
  refine (left_any (inv a) _ _ 1 rfl (by rfl) (by omega) _).mono ?_
  rintro e w1 ⟨rfl, b1⟩
  have bb := b1
  go_wp2_with fail
  refine (left_any (inv a) _ _ 2 rfl (by rfl) (by omega) _).mono ?_
  rintro e w2 ⟨rfl, b2⟩
  have bb := bt bb b2
  go_wp2_with fail
  refine (left_any (inv a) _ _ 3 rfl (by rfl) (by omega) _).mono ?_
  rintro e w3 ⟨rfl, b3⟩
  have bb := bt bb b3
  go_wp2_with fail
  refine (left_any (inv a) _ _ 4 rfl (by rfl) (by omega) _).mono ?_
  rintro e w4 ⟨rfl, b4⟩
  have bb := bt bb b4
  go_wp2
  go_ret
  exact ⟨ret_int (by rw [← x5.out, ← x4.out, ← x3.out, ← x2.out, ← x1.out]), bb⟩

/-- a column as a value -/
def colV (x : Col) : Value := .agg #[e8 x.a, e8 x.b, e8 x.c, e8 x.d]
def Col.at (x : Col) (i : Nat) : UInt8 := if i % 4 = 0 then x.a else if i % 4 = 1 then x.b else if i % 4 = 2 then x.c else x.d

/-- the four cells of a block -/
def Cells4 (w : World) (b : Nat) (x : Col) : Prop := w.cell? ⟨b, 0, none⟩ = some (e8 x.a) ∧ w.cell? ⟨b, 1, none⟩ = some (e8 x.b) ∧ w.cell? ⟨b, 2, none⟩ = some (e8 x.c) ∧ w.cell? ⟨b, 3, none⟩ = some (e8 x.d)
theorem Cells4.at {w : World} {b : Nat} {x : Col} (h : Cells4 w b x) (i : Nat) : w.cell? ⟨b, i % 4, none⟩ = some (e8 (x.at i)) := by
  unfold Col.at
  have := Nat.mod_lt i (by omega : 0 < 4)
  rcases (by omega : i % 4 = 0 ∨ i % 4 = 1 ∨ i % 4 = 2 ∨ i % 4 = 3) with e | e | e | e <;> rw [e]
  · exact h.1
  · exact h.2.1
  · exact h.2.2.1
  · exact h.2.2.2
set_option maxRecDepth 100000 in
set_option maxHeartbeats 400000 in
theorem at_any (x : Col) (b i : Nat) (n : Int) (hn : n = (i : Int)) (hi : i ≤ 8) (w : World) (hc : Cells4 w b x) : Calls Tryd.prog 131 #[.int .i64 n, .pointer (some ⟨b, 0, none⟩)] w fun e w' => e = .returned (.int .u8 ((x.at i).toNat : Int)) ∧ w = w' := by
  subst hn
  have hcell := hc.at i
  have hb : (i : Int) % 4 < 4 := by omega
  go_enter Tryd.func131, Tryd.ntmps131
  go_wp2
  go_ret
  exact ⟨rfl, rfl⟩

/-- the column that is being made -/
def outs (x : Col) : Nat → Array Value
  | 0 => #[.int .u8 0, .int .u8 0, .int .u8 0, .int .u8 0]
  | 1 => #[e8 (mix x).a, .int .u8 0, .int .u8 0, .int .u8 0]
  | 2 => #[e8 (mix x).a, e8 (mix x).b, .int .u8 0, .int .u8 0]
  | 3 => #[e8 (mix x).a, e8 (mix x).b, e8 (mix x).c, .int .u8 0]
  | _ => #[e8 (mix x).a, e8 (mix x).b, e8 (mix x).c, e8 (mix x).d]
theorem outs_set (x : Col) (k : Nat) (hk : k < 4) (r : UInt8) (hr : r = colAt (x.at k) (x.at (k + 1)) (sum4 x.a x.b x.c x.d)) : (outs x k).setIfInBounds k (.int .u8 (r.toNat : Int)) = outs x (k + 1) := by
  obtain rfl | rfl | rfl | rfl : k = 0 ∨ k = 1 ∨ k = 2 ∨ k = 3 := by omega
  all_goals subst hr; rfl
theorem mix_at (x : Col) : colAt (x.at 0) (x.at 1) (sum4 x.a x.b x.c x.d) = (mix x).a ∧ colAt (x.at 1) (x.at 2) (sum4 x.a x.b x.c x.d) = (mix x).b ∧ colAt (x.at 2) (x.at 3) (sum4 x.a x.b x.c x.d) = (mix x).c ∧ colAt (x.at 3) (x.at 4) (sum4 x.a x.b x.c x.d) = (mix x).d := ⟨rfl, rfl, rfl, rfl⟩
set_option maxRecDepth 100000 in
set_option maxHeartbeats 3200000 in
theorem column_any (x : Col) (w : World) : Calls Tryd.prog 121 #[colV x] w fun e w' => e = .returned (colV (mix x)) ∧ Below w.heap.size w w' := by
  obtain ⟨p, hp⟩ : ∃ p, p = x.a ^^^ x.b := ⟨_, rfl⟩
  obtain ⟨q, hq⟩ : ∃ q, q = p ^^^ x.c := ⟨_, rfl⟩
  obtain ⟨s, hs⟩ : ∃ s, s = q ^^^ x.d := ⟨_, rfl⟩
  have x1 := xor8 x.a x.b
  have x2 := xor8 p x.c
  have x3 := xor8 q x.d
  rw [← hp] at x1
  rw [← hq] at x2
  rw [← hs] at x3
  have Hs := Lib.hid (show sum4 x.a x.b x.c x.d = s by rw [hs, hq, hp]; rfl)
  clear hp hq hs
  unfold colV
  go_enter Tryd.func121, Tryd.ntmps121
  go_wp2
  clear x1 x2 x3
  go_loopw [5, 18] (fun _ i wr => ∃ k : Nat, k ≤ 4 ∧ i = .int .i64 k ∧ wr = (w.alloc (.cells #[e8 x.a, e8 x.b, e8 x.c, e8 x.d] 112)).alloc (.cells (outs x k) 112)) (fun _ i _ => 4 - (intOf i).toNat)
  case atStart => exact ⟨0, by omega, rfl, rfl⟩
  case round =>
    obtain ⟨k, hk, rfl, rfl⟩ := hrel
    have c4 : Cells4 ((w.alloc (.cells #[e8 x.a, e8 x.b, e8 x.c, e8 x.d] 112)).alloc (.cells (outs x k) 112)) w.heap.size x := ⟨by simp, by simp, by simp, by simp⟩
    by_cases hlt : k < 4
    · obtain ⟨y, hy⟩ : ∃ y, y = x.at k := ⟨_, rfl⟩
      obtain ⟨z, hz⟩ : ∃ z, z = x.at (k + 1) := ⟨_, rfl⟩
      obtain ⟨p, hp⟩ : ∃ p, p = y ^^^ s := ⟨_, rfl⟩
      obtain ⟨q, hq⟩ : ∃ q, q = y ^^^ z := ⟨_, rfl⟩
      obtain ⟨r, hr⟩ : ∃ r, r = p ^^^ twice q := ⟨_, rfl⟩
      have x1 := xor8 y s
      have x2 := xor8 y z
      have x3 := xor8 p (twice q)
      rw [← hp] at x1
      rw [← hq] at x2
      rw [← hr] at x3
      have Hr := Lib.hid (show r = colAt (x.at k) (x.at (k + 1)) (sum4 x.a x.b x.c x.d) by rw [hr, hp, hq, hy, hz, Hs.out]; rfl)
      have Hm := Lib.hid (mix_at x)
      have Hy := Lib.hid hy
      have Hz := Lib.hid hz
      have C4 := Lib.hid c4
      clear hp hq hr hy hz c4
      obtain rfl | rfl | rfl | rfl : k = 0 ∨ k = 1 ∨ k = 2 ∨ k = 3 := by omega
      · go_wp2_with fail
        refine (at_any x _ 0 _ (by rfl) (by omega) _ C4.out).mono ?_
        rintro e w1 ⟨rfl, rfl⟩
        rw [← Hy.out]
        go_wp2_with fail
        refine (at_any x _ 0 _ (by rfl) (by omega) _ C4.out).mono ?_
        rintro e w1 ⟨rfl, rfl⟩
        rw [← Hy.out]
        go_wp2_with fail
        refine (at_any x _ 1 _ (by rfl) (by omega) _ C4.out).mono ?_
        rintro e w1 ⟨rfl, rfl⟩
        rw [show x.at 1 = z from Hz.out.symm]
        go_wp2_with fail
        refine (twice_any q _ rfl _).mono ?_
        rintro e w1 ⟨rfl, rfl⟩
        go_wp2
        exact ⟨⟨1, by omega, rfl, congrArg (fun c => (w.alloc (.cells #[e8 x.a, e8 x.b, e8 x.c, e8 x.d] 112)).alloc (.cells c 112)) (outs_set x 0 (by omega) r Hr.out)⟩, by simp [intOf]⟩
      · go_wp2_with fail
        refine (at_any x _ 1 _ (by rfl) (by omega) _ C4.out).mono ?_
        rintro e w1 ⟨rfl, rfl⟩
        rw [← Hy.out]
        go_wp2_with fail
        refine (at_any x _ 1 _ (by rfl) (by omega) _ C4.out).mono ?_
        rintro e w1 ⟨rfl, rfl⟩
        rw [← Hy.out]
        go_wp2_with fail
        refine (at_any x _ 2 _ (by rfl) (by omega) _ C4.out).mono ?_
        rintro e w1 ⟨rfl, rfl⟩
        rw [show x.at 2 = z from Hz.out.symm]
        go_wp2_with fail
        refine (twice_any q _ rfl _).mono ?_
        rintro e w1 ⟨rfl, rfl⟩
        go_wp2
        exact ⟨⟨2, by omega, rfl, congrArg (fun c => (w.alloc (.cells #[e8 x.a, e8 x.b, e8 x.c, e8 x.d] 112)).alloc (.cells c 112)) (outs_set x 1 (by omega) r Hr.out)⟩, by simp [intOf]⟩
      · go_wp2_with fail
        refine (at_any x _ 2 _ (by rfl) (by omega) _ C4.out).mono ?_
        rintro e w1 ⟨rfl, rfl⟩
        rw [← Hy.out]
        go_wp2_with fail
        refine (at_any x _ 2 _ (by rfl) (by omega) _ C4.out).mono ?_
        rintro e w1 ⟨rfl, rfl⟩
        rw [← Hy.out]
        go_wp2_with fail
        refine (at_any x _ 3 _ (by rfl) (by omega) _ C4.out).mono ?_
        rintro e w1 ⟨rfl, rfl⟩
        rw [show x.at 3 = z from Hz.out.symm]
        go_wp2_with fail
        refine (twice_any q _ rfl _).mono ?_
        rintro e w1 ⟨rfl, rfl⟩
        go_wp2
        exact ⟨⟨3, by omega, rfl, congrArg (fun c => (w.alloc (.cells #[e8 x.a, e8 x.b, e8 x.c, e8 x.d] 112)).alloc (.cells c 112)) (outs_set x 2 (by omega) r Hr.out)⟩, by simp [intOf]⟩
      · go_wp2_with fail
        refine (at_any x _ 3 _ (by rfl) (by omega) _ C4.out).mono ?_
        rintro e w1 ⟨rfl, rfl⟩
        rw [← Hy.out]
        go_wp2_with fail
        refine (at_any x _ 3 _ (by rfl) (by omega) _ C4.out).mono ?_
        rintro e w1 ⟨rfl, rfl⟩
        rw [← Hy.out]
        go_wp2_with fail
        refine (at_any x _ 4 _ (by rfl) (by omega) _ C4.out).mono ?_
        rintro e w1 ⟨rfl, rfl⟩
        rw [show x.at 4 = z from Hz.out.symm]
        go_wp2_with fail
        refine (twice_any q _ rfl _).mono ?_
        rintro e w1 ⟨rfl, rfl⟩
        go_wp2
        exact ⟨⟨4, by omega, rfl, congrArg (fun c => (w.alloc (.cells #[e8 x.a, e8 x.b, e8 x.c, e8 x.d] 112)).alloc (.cells c 112)) (outs_set x 3 (by omega) r Hr.out)⟩, by simp [intOf]⟩
    · obtain rfl : k = 4 := by omega
      simp only [outs]
      go_wp2
      refine bodyPost_ret (v := colV (mix x)) (by unfold colV; simp [results, Tryd.results121, go_sem]) rfl ⟨rfl, b2alloc _ _ _⟩

end Go.Proofs.YteecbjpnnklbpaaDoor.Gf

/- The walk of the reference's mixed column, and of the chapter's examples. -/
namespace Go.Proofs.YteecbjpnnklbpaaDoor.Gf
open Go.RowKit
set_option linter.unusedVariables false

/-- the three blocks of the reference's call: what came in, what goes back, what is made -/
def Mid (B : Nat) (x : Col) (k : Nat) (w w' : World) : Prop :=
  w'.heap[B]? = some (.cells #[e8 x.a, e8 x.b, e8 x.c, e8 x.d] 112 (0, 0)) ∧ w'.heap[B + 1]? = some (.cells (outs x 0) 112 (0, 0)) ∧ w'.heap[B + 1 + 1]? = some (.cells (outs x k) 112 (0, 0)) ∧ Below B w w'
theorem Mid.on {B : Nat} {x : Col} {k : Nat} {w w' w1 : World} (h : Mid B x k w w') (b : Below w'.heap.size w' w1) : Mid B x k w w1 :=
  ⟨(b.block B (lt_of_block h.1)).trans h.1, (b.block _ (lt_of_block h.2.1)).trans h.2.1, (b.block _ (lt_of_block h.2.2.1)).trans h.2.2.1, h.2.2.2.trans (b.mono (by have := lt_of_block h.1; omega))⟩
theorem Mid.four {B : Nat} {x : Col} {k : Nat} {w w' : World} (h : Mid B x k w w') : Cells4 w' B x :=
  ⟨by rw [cell_of_row w' B 0 _ _ _ h.1]; rfl, by rw [cell_of_row w' B 1 _ _ _ h.1]; rfl, by rw [cell_of_row w' B 2 _ _ _ h.1]; rfl, by rw [cell_of_row w' B 3 _ _ _ h.1]; rfl⟩
theorem Mid.set {B : Nat} {x : Col} {k : Nat} {w w' : World} (h : Mid B x k w w') (hk : k < 4) (r : UInt8) (hr : r = colAt (x.at k) (x.at (k + 1)) (sum4 x.a x.b x.c x.d)) : Mid B x (k + 1) w (w'.setCell ⟨B + 1 + 1, k, none⟩ (.int .u8 (r.toNat : Int))) := by
  refine ⟨?_, ?_, ?_, h.2.2.2.setCell (by simp; omega) _⟩
  · rw [heap_setCell_other _ _ _ _ (by simp; omega)]; exact h.1
  · rw [heap_setCell_other _ _ _ _ (by simp)]; exact h.2.1
  · rw [heap_setCell_same w' (B + 1 + 1) k _ _ _ h.2.2.1, outs_set x k hk r hr]
theorem Mid.start (w : World) (x : Col) : Mid w.heap.size x 0 w (((w.alloc (.cells #[e8 x.a, e8 x.b, e8 x.c, e8 x.d] 112)).alloc (.cells (outs x 0) 112)).alloc (.cells (outs x 0) 112)) := by
  refine ⟨?_, ?_, ?_, ((Below.refl _ _).alloc (Nat.le_refl _) _ |>.alloc (by simp) _).alloc (by simp; omega) _⟩
  · rw [Below.heap_alloc _ _ _ (by simp; omega), Below.heap_alloc _ _ _ (by simp)]; exact heap_alloc_new _ _
  · rw [Below.heap_alloc _ _ _ (by simp)]
    have := heap_alloc_new (w.alloc (.cells #[e8 x.a, e8 x.b, e8 x.c, e8 x.d] 112)) (.cells (outs x 0) 112)
    rwa [show (w.alloc (.cells #[e8 x.a, e8 x.b, e8 x.c, e8 x.d] 112)).heap.size = w.heap.size + 1 by simp] at this
  · have := heap_alloc_new ((w.alloc (.cells #[e8 x.a, e8 x.b, e8 x.c, e8 x.d] 112)).alloc (.cells (outs x 0) 112)) (.cells (outs x 0) 112)
    rwa [show ((w.alloc (.cells #[e8 x.a, e8 x.b, e8 x.c, e8 x.d] 112)).alloc (.cells (outs x 0) 112)).heap.size = w.heap.size + 1 + 1 by simp] at this
theorem outs_get (x : Col) (k : Nat) (hk : k < 4) : ∃ v, (outs x k)[k]? = some v := by
  obtain rfl | rfl | rfl | rfl : k = 0 ∨ k = 1 ∨ k = 2 ∨ k = 3 := by omega
  all_goals exact ⟨_, rfl⟩
theorem rcol_at (x : Col) (k : Nat) (hk : k < 4) : twice (x.at k) ^^^ x.at (k + 1) ^^^ twice (x.at (k + 1)) ^^^ x.at (k + 2) ^^^ x.at (k + 3) = colAt (x.at k) (x.at (k + 1)) (sum4 x.a x.b x.c x.d) := by
  rw [rcol]
  congr 1
  obtain rfl | rfl | rfl | rfl : k = 0 ∨ k = 1 ∨ k = 2 ∨ k = 3 := by omega
  · rfl
  · show sum4 x.b x.c x.d x.a = _; unfold sum4; ac_rfl
  · show sum4 x.c x.d x.a x.b = _; unfold sum4; ac_rfl
  · show sum4 x.d x.a x.b x.c = _; unfold sum4; ac_rfl
set_option maxRecDepth 100000 in
set_option maxHeartbeats 3200000 in
theorem rcolumn_any (x : Col) (w : World) : Calls Tryd.prog 118 #[colV x] w fun e w' => e = .returned (colV (mix x)) ∧ Below w.heap.size w w' := by
  unfold colV
  go_enter Tryd.func118, Tryd.ntmps118
  go_wp2
  go_loopw [4, 5] (fun i _ wr => ∃ k : Nat, k ≤ 4 ∧ i = .int .i64 k ∧ Mid w.heap.size x k w wr) (fun i _ _ => 4 - (intOf i).toNat)
  case atStart => exact ⟨0, by omega, rfl, Mid.start w x⟩
  case round =>
    obtain ⟨k, hk, rfl, hmid⟩ := hrel
    by_cases hlt : k < 4
    · have hc4 := hmid.four
      have g0 := hc4.at k
      have g1 := hc4.at (k + 1)
      have g2 := hc4.at (k + 2)
      have g3 := hc4.at (k + 3)
      have hB := lt_of_block hmid.1
      have m0 : (k : Int) % 4 = (k : Int) := by omega
      rw [Nat.mod_eq_of_lt hlt] at g0
      obtain ⟨j2, hj2⟩ : ∃ j2, j2 = (k + 2) % 4 := ⟨_, rfl⟩
      obtain ⟨j3, hj3⟩ : ∃ j3, j3 = (k + 3) % 4 := ⟨_, rfl⟩
      have hb2 : (j2 : Int) < 4 := by omega
      have hb3 : (j3 : Int) < 4 := by omega
      have hm2 : ((k : Int) + 2).tmod 4 = (j2 : Int) := by rw [Int.tmod_eq_emod_of_nonneg (by omega)]; omega
      have hm3 : ((k : Int) + 3).tmod 4 = (j3 : Int) := by rw [Int.tmod_eq_emod_of_nonneg (by omega)]; omega
      rw [← hj2] at g2
      rw [← hj3] at g3
      have hw2 : IntKind.i64.wrap ((k : Int) + 2) = (k : Int) + 2 := wrap_small (by omega) (by omega)
      have hw3 : IntKind.i64.wrap ((k : Int) + 3) = (k : Int) + 3 := wrap_small (by omega) (by omega)
      have Hc := Lib.hid (rcol_at x k hlt)
      obtain ⟨y, hy⟩ : ∃ y, y = x.at k := ⟨_, rfl⟩
      obtain ⟨n, hn⟩ : ∃ n, n = x.at (k + 1) := ⟨_, rfl⟩
      obtain ⟨z, hz⟩ : ∃ z, z = x.at (k + 2) := ⟨_, rfl⟩
      obtain ⟨u, hu⟩ : ∃ u, u = x.at (k + 3) := ⟨_, rfl⟩
      rw [← hy] at g0
      rw [← hn] at g1
      rw [← hz] at g2
      rw [← hu] at g3
      obtain ⟨p1, hp1⟩ : ∃ p, p = twice y ^^^ n := ⟨_, rfl⟩
      obtain ⟨p2, hp2⟩ : ∃ p, p = p1 ^^^ twice n := ⟨_, rfl⟩
      obtain ⟨p3, hp3⟩ : ∃ p, p = p2 ^^^ z := ⟨_, rfl⟩
      obtain ⟨p4, hp4⟩ : ∃ p, p = p3 ^^^ u := ⟨_, rfl⟩
      have x1 := xor8 (twice y) n
      have x2 := xor8 p1 (twice n)
      have x3 := xor8 p2 z
      have x4 := xor8 p3 u
      rw [← hp1] at x1
      rw [← hp2] at x2
      rw [← hp3] at x3
      rw [← hp4] at x4
      have H4 := Lib.hid (show p4 = colAt (x.at k) (x.at (k + 1)) (sum4 x.a x.b x.c x.d) by rw [← Hc.out, hp4, hp3, hp2, hp1, hy, hn, hz, hu])
      clear hj2 hj3 hy hn hz hu hp1 hp2 hp3 hp4
      have Hm := Lib.hid hmid
      go_wp2
      refine region_inb_tail 23 (by kernel_rfl) (by kernel_rfl) ?_
      simp only [List.take_succ_cons, List.take_zero, List.drop_succ_cons, List.drop_zero]
      have inbNe := InB.some
      have inbW := @wrap_small
      have inbU := IntKind.wrap_u8'
      repeat (refine wpQuiet_step (fun K hK => ?_); go_simp; first | (refine hK _ ?_; clear hK K) | (apply Exists.intro; refine ⟨?_, hK _ ?_⟩; (· (intro w' hw'; first | (go_at_call 129; refine (rtwice_any _ _ rfl _).mono ?_; rintro e w1 ⟨rfl, rfl⟩; exact ⟨rfl, hw'⟩) | (have hcw := hw'.cell; go_simp; exact rfl))); clear hK K))
      refine wpQuiet_nil ?_
      intro wq hq
      clear inbNe inbW inbU
      have hmq := Hm.out.on hq.below
      obtain ⟨v, hv⟩ := outs_get x k hlt
      have hcq : wq.cell? ⟨w.heap.size + 1 + 1, k, none⟩ = some v := by rw [cell_of_row wq _ k _ _ _ hmq.2.2.1]; exact hv
      have hfq : wq.frozen? ⟨w.heap.size + 1 + 1, k, none⟩ = false := by rw [frozen_of_row wq _ k _ _ hmq.2.2.1]
      have Hq := Lib.hid (hmq.set hlt p4 H4.out)
      clear hmq hv g0 g1 g2 g3 hc4 x1 x2 x3 x4
      go_wp2
      go_roundw
      case rel => exact ⟨k + 1, by omega, by go_num, Hq.out⟩
      case measure => simp [intOf]; omega
    · obtain rfl : k = 4 := by omega
      have o0 : wr.cell? ⟨w.heap.size + 1 + 1, 0, none⟩ = some (e8 (mix x).a) := cell_of_row wr _ 0 _ _ _ hmid.2.2.1
      have o1 : wr.cell? ⟨w.heap.size + 1 + 1, 1, none⟩ = some (e8 (mix x).b) := cell_of_row wr _ 1 _ _ _ hmid.2.2.1
      have o2 : wr.cell? ⟨w.heap.size + 1 + 1, 2, none⟩ = some (e8 (mix x).c) := cell_of_row wr _ 2 _ _ _ hmid.2.2.1
      have o3 : wr.cell? ⟨w.heap.size + 1 + 1, 3, none⟩ = some (e8 (mix x).d) := cell_of_row wr _ 3 _ _ _ hmid.2.2.1
      have r0 : wr.cell? ⟨w.heap.size + 1, 0, none⟩ = some (.int .u8 0) := cell_of_row wr _ 0 _ _ _ hmid.2.1
      have r1 : wr.cell? ⟨w.heap.size + 1, 1, none⟩ = some (.int .u8 0) := cell_of_row wr _ 1 _ _ _ hmid.2.1
      have r2 : wr.cell? ⟨w.heap.size + 1, 2, none⟩ = some (.int .u8 0) := cell_of_row wr _ 2 _ _ _ hmid.2.1
      have r3 : wr.cell? ⟨w.heap.size + 1, 3, none⟩ = some (.int .u8 0) := cell_of_row wr _ 3 _ _ _ hmid.2.1
      have fz : ∀ j, wr.frozen? ⟨w.heap.size + 1, j, none⟩ = false := fun j => frozen_of_row wr _ j _ _ hmid.2.1
      have hbl := hmid.2.2.2
      clear hmid
      go_wp2
      refine bodyPost_ret (v := colV (mix x)) (by unfold colV; simp [results, Tryd.results118, go_sem, r0, r1, r2, r3]) rfl ⟨rfl, ?_⟩
      repeat refine Below.setCell ?_ (by simp) _
      exact hbl
theorem eqcol (x : Col) (w : World) : (Go.binOp .eql 112 (colV x) (colV x)).run Tryd.prog w = .ok (.bool true) w := by
  have := run_eql_bytes (P := Tryd.prog) w 112 5 4 Tryd.underlying112 Tryd.underlying5 (fun w => by kernel_rfl) [x.a, x.b, x.c, x.d] [x.a, x.b, x.c, x.d] rfl rfl
  rw [show ([x.a, x.b, x.c, x.d] == [x.a, x.b, x.c, x.d]) = true by simp] at this
  exact this
end Go.Proofs.YteecbjpnnklbpaaDoor.Gf
