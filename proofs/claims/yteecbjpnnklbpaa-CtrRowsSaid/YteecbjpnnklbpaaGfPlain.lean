/- The field of 256 numbers as plain functions; nothing of the program. -/
namespace Go.Proofs.Yteecbjpnnklbpaa.Gf

theorem all8 {p : UInt8 → Prop} (h : ∀ n : Fin 256, p (UInt8.ofNat n)) (a : UInt8) : p a := by
  have := h ⟨a.toNat, a.toNat_lt⟩
  rwa [show UInt8.ofNat (⟨a.toNat, a.toNat_lt⟩ : Fin 256) = a from UInt8.toNat_inj.1 (by simp)] at this

def twice (a : UInt8) : UInt8 := if a &&& 128 = 0 then a <<< 1 else (a <<< 1) ^^^ 27
def mulF : Nat → UInt8 → UInt8 → UInt8 → UInt8
  | 0, _, _, s => s
  | n + 1, a, b, s => mulF n (a >>> 1) (twice b) (if a &&& 1 = 1 then s ^^^ b else s)
def mul (a b : UInt8) : UInt8 := mulF 8 a b 0

theorem xor_cancel (a b : UInt8) : (a ^^^ 27) ^^^ (b ^^^ 27) = a ^^^ b := by
  rw [UInt8.xor_assoc, UInt8.xor_comm b 27, ← UInt8.xor_assoc 27 27, UInt8.xor_self, UInt8.zero_xor]
theorem high8 : ∀ x : UInt8, x &&& 128 = 0 ∨ x &&& 128 = 128 := all8 (by decide +kernel)
theorem low8 : ∀ x : UInt8, x &&& 1 = 0 ∨ x &&& 1 = 1 := all8 (by decide +kernel)
theorem and_xor (a b c : UInt8) : (a ^^^ b) &&& c = (a &&& c) ^^^ (b &&& c) := by
  apply UInt8.toBitVec_inj.1
  ext i
  simp
  cases a.toBitVec[i] <;> cases b.toBitVec[i] <;> cases c.toBitVec[i] <;> rfl
theorem shl_xor (a b : UInt8) : (a ^^^ b) <<< 1 = (a <<< 1) ^^^ (b <<< 1) := by
  apply UInt8.toBitVec_inj.1
  ext i
  simp
  by_cases h : i = 0 <;> simp [h]
theorem shr_xor (a b : UInt8) : (a ^^^ b) >>> 1 = (a >>> 1) ^^^ (b >>> 1) := by
  apply UInt8.toBitVec_inj.1
  ext i
  simp
theorem twice_xor (a b : UInt8) : twice (a ^^^ b) = twice a ^^^ twice b := by
  unfold twice
  rw [and_xor, shl_xor]
  have h0 : (128 : UInt8) ^^^ 128 = 0 := by decide
  have h1 : (128 : UInt8) ^^^ 0 = 128 := by decide
  have h2 : (0 : UInt8) ^^^ 128 = 128 := by decide
  have hne : ¬ (128 : UInt8) = 0 := by decide
  rcases high8 a with ha | ha <;> rcases high8 b with hb | hb <;> rw [ha, hb]
  · simp
  · rw [h2, if_neg hne, if_pos rfl, if_neg hne, UInt8.xor_assoc]
  · rw [h1, if_neg hne, if_pos rfl, if_neg hne, UInt8.xor_assoc, UInt8.xor_assoc, UInt8.xor_comm (b <<< 1)]
  · rw [h0, if_pos rfl, if_neg hne, if_neg hne, xor_cancel]

/-! sums on both sides -/
theorem mulF_sum : ∀ n a b s t, mulF n a b (s ^^^ t) = mulF n a b s ^^^ t
  | 0, _, _, _, _ => rfl
  | n + 1, a, b, s, t => by
    show mulF n _ _ _ = mulF n _ _ _ ^^^ t
    by_cases h : a &&& 1 = 1
    · rw [if_pos h, if_pos h, UInt8.xor_assoc, UInt8.xor_comm t b, ← UInt8.xor_assoc, mulF_sum n]
    · rw [if_neg h, if_neg h, mulF_sum n]
theorem mulF_right : ∀ n a b c s t, mulF n a (b ^^^ c) (s ^^^ t) = mulF n a b s ^^^ mulF n a c t
  | 0, _, _, _, _, _ => rfl
  | n + 1, a, b, c, s, t => by
    show mulF n _ _ _ = mulF n _ _ _ ^^^ mulF n _ _ _
    rw [twice_xor]
    by_cases h : a &&& 1 = 1
    · rw [if_pos h, if_pos h, if_pos h, ← mulF_right n]
      congr 1
      rw [UInt8.xor_assoc, UInt8.xor_assoc, ← UInt8.xor_assoc t, UInt8.xor_comm t b, UInt8.xor_assoc b t c]
    · rw [if_neg h, if_neg h, if_neg h, mulF_right n]
theorem mulF_left : ∀ n a a' b s t, mulF n (a ^^^ a') b (s ^^^ t) = mulF n a b s ^^^ mulF n a' b t
  | 0, _, _, _, _, _ => rfl
  | n + 1, a, a', b, s, t => by
    show mulF n _ _ _ = mulF n _ _ _ ^^^ mulF n _ _ _
    rw [shr_xor, and_xor]
    have h0 : (1 : UInt8) ^^^ 1 = 0 := by decide
    have h1 : (1 : UInt8) ^^^ 0 = 1 := by decide
    have h2 : (0 : UInt8) ^^^ 1 = 1 := by decide
    have h3 : (0 : UInt8) ^^^ 0 = 0 := by decide
    have hne : ¬ (0 : UInt8) = 1 := by decide
    rcases low8 a with ha | ha <;> rcases low8 a' with hb | hb <;> rw [ha, hb]
    · simp only [h3, hne, ↓reduceIte]; rw [mulF_left n]
    · simp only [h2, hne, ↓reduceIte]; rw [← mulF_left n]; congr 1; rw [UInt8.xor_assoc]
    · simp only [h1, hne, ↓reduceIte]; rw [← mulF_left n]; congr 1; rw [UInt8.xor_assoc, UInt8.xor_assoc, UInt8.xor_comm t b]
    · simp only [h0, hne, ↓reduceIte]; rw [← mulF_left n]; congr 1
      rw [UInt8.xor_assoc, UInt8.xor_comm t b, ← UInt8.xor_assoc b b, UInt8.xor_self, UInt8.zero_xor]
theorem mul_right (a b c : UInt8) : mul a (b ^^^ c) = mul a b ^^^ mul a c := by
  have := mulF_right 8 a b c 0 0
  rwa [UInt8.xor_self] at this
theorem mul_left (a b c : UInt8) : mul (a ^^^ b) c = mul a c ^^^ mul b c := by
  have := mulF_left 8 a b c 0 0
  rwa [UInt8.xor_self] at this

/-! what goes over sums is known by eight numbers -/
def bit (a : UInt8) (i : UInt8) : UInt8 := if a &&& i = 0 then 0 else i
theorem bits_of : ∀ a : UInt8, a = bit a 1 ^^^ (bit a 2 ^^^ (bit a 4 ^^^ (bit a 8 ^^^ (bit a 16 ^^^ (bit a 32 ^^^ (bit a 64 ^^^ bit a 128)))))) := all8 (by decide +kernel)
theorem ext8 {f g : UInt8 → UInt8} (hf : ∀ x y, f (x ^^^ y) = f x ^^^ f y) (hg : ∀ x y, g (x ^^^ y) = g x ^^^ g y)
    (h : f 1 = g 1 ∧ f 2 = g 2 ∧ f 4 = g 4 ∧ f 8 = g 8 ∧ f 16 = g 16 ∧ f 32 = g 32 ∧ f 64 = g 64 ∧ f 128 = g 128) (a : UInt8) : f a = g a := by
  have f0 : f 0 = 0 := by have := hf 0 0; rw [UInt8.xor_self, UInt8.xor_self] at this; exact this
  have g0 : g 0 = 0 := by have := hg 0 0; rw [UInt8.xor_self, UInt8.xor_self] at this; exact this
  have hb : ∀ i, f i = g i → f (bit a i) = g (bit a i) := fun i hi => by
    unfold bit
    by_cases h : a &&& i = 0
    · rw [if_pos h, f0, g0]
    · rw [if_neg h, hi]
  obtain ⟨h1, h2, h3, h4, h5, h6, h7, h8⟩ := h
  rw [bits_of a]
  simp only [hf, hg]
  rw [hb 1 h1, hb 2 h2, hb 4 h3, hb 8 h4, hb 16 h5, hb 32 h6, hb 64 h7, hb 128 h8]
theorem mul_comm (a b : UInt8) : mul a b = mul b a := by
  refine ext8 (f := fun a => mul a b) (g := fun a => mul b a) (fun x y => mul_left x y b) (fun x y => mul_right b x y) ?_ a
  refine ⟨?_, ?_, ?_, ?_, ?_, ?_, ?_, ?_⟩ <;> exact ext8 (f := mul _) (g := fun b => mul b _) (fun x y => mul_right _ x y) (fun x y => mul_left x y _) (by decide +kernel) b
theorem mul_assoc (a b c : UInt8) : mul a (mul b c) = mul (mul a b) c := by
  refine ext8 (f := fun a => mul a (mul b c)) (g := fun a => mul (mul a b) c) (fun x y => mul_left x y _) (fun x y => by simp only [mul_left]) ?_ a
  refine ⟨?_, ?_, ?_, ?_, ?_, ?_, ?_, ?_⟩ <;>
    (refine ext8 (f := fun b => mul _ (mul b c)) (g := fun b => mul (mul _ b) c) (fun x y => by simp only [mul_left, mul_right]) (fun x y => by simp only [mul_left, mul_right]) ?_ b
     refine ⟨?_, ?_, ?_, ?_, ?_, ?_, ?_, ?_⟩ <;>
       exact ext8 (f := fun c => mul _ (mul _ c)) (g := fun c => mul (mul _ _) c) (fun x y => by simp only [mul_right]) (fun x y => by simp only [mul_right]) (by decide +kernel) c)
theorem mul_one (a : UInt8) : mul a 1 = a := all8 (p := fun a => mul a 1 = a) (by decide +kernel) a
theorem zero_mul (a : UInt8) : mul 0 a = 0 := all8 (p := fun a => mul 0 a = 0) (by decide +kernel) a
theorem one_mul (a : UInt8) : mul 1 a = a := by rw [mul_comm, mul_one]

/-! powers -/
def pow (a : UInt8) : Nat → UInt8
  | 0 => 1
  | n + 1 => mul (pow a n) a
/-- by squares -/
def powF : Nat → UInt8 → Nat → UInt8 → UInt8
  | 0, _, _, s => s
  | f + 1, a, n, s => if n = 0 then s else powF f (mul a a) (n / 2) (if n % 2 = 1 then mul s a else s)
theorem pow_add (a : UInt8) (m : Nat) : ∀ n, pow a (m + n) = mul (pow a m) (pow a n)
  | 0 => (mul_one _).symm
  | n + 1 => by show mul (pow a (m + n)) a = _; rw [pow_add a m n, ← mul_assoc]; rfl
theorem pow_sq (a : UInt8) : ∀ n, pow (mul a a) n = pow a (2 * n)
  | 0 => rfl
  | n + 1 => by
    show mul (pow (mul a a) n) (mul a a) = _
    rw [pow_sq a n, show 2 * (n + 1) = 2 * n + 2 by omega, pow_add]
    show _ = mul _ (mul (mul 1 a) a)
    rw [one_mul]
theorem powF_eq : ∀ f a n s, n < 2 ^ f → powF f a n s = mul s (pow a n)
  | 0, a, n, s, h => by
    have : n = 0 := by omega
    subst this
    exact (mul_one s).symm
  | f + 1, a, n, s, h => by
    unfold powF
    by_cases h0 : n = 0
    · subst h0; rw [if_pos rfl]; exact (mul_one s).symm
    · rw [if_neg h0, powF_eq f _ _ _ (by rw [Nat.pow_succ] at h; omega), pow_sq]
      by_cases h1 : n % 2 = 1
      · rw [if_pos h1, ← mul_assoc]
        congr 1
        have e : n = 1 + 2 * (n / 2) := by omega
        rw [show pow a n = pow a (1 + 2 * (n / 2)) by rw [← e], pow_add]
        show _ = mul (mul 1 a) _
        rw [one_mul]
      · rw [if_neg h1, show 2 * (n / 2) = n by omega]
def inv (a : UInt8) : UInt8 := powF 8 a 254 1
theorem inv_pow (a : UInt8) : inv a = pow a 254 := by
  unfold inv; rw [powF_eq _ _ _ _ (by decide), one_mul]
theorem mul_inv : ∀ a : UInt8, a ≠ 0 → mul a (inv a) = 1 := all8 (by decide +kernel)
theorem inv_inv : ∀ a : UInt8, inv (inv a) = a := all8 (by decide +kernel)
theorem inv_zero : inv 0 = 0 := by decide +kernel
theorem inv_only {a b : UInt8} (h : mul a b = 1) : b = inv a := by
  have ha : a ≠ 0 := by rintro rfl; rw [zero_mul] at h; exact absurd h (by decide)
  have : mul (inv a) (mul a b) = mul (inv a) 1 := by rw [h]
  rwa [mul_assoc, mul_comm (inv a) a, mul_inv a ha, one_mul, mul_one] at this
def left (a : UInt8) (n : UInt8) : UInt8 := (a <<< n) ||| (a >>> (8 - n))
def box (a : UInt8) : UInt8 := inv a ^^^ left (inv a) 1 ^^^ left (inv a) 2 ^^^ left (inv a) 3 ^^^ left (inv a) 4 ^^^ 99
/-! columns -/
def colAt (x y all : UInt8) : UInt8 := x ^^^ all ^^^ twice (x ^^^ y)
def sum4 (a b c d : UInt8) : UInt8 := a ^^^ b ^^^ c ^^^ d
structure Col where
  a : UInt8
  b : UInt8
  c : UInt8
  d : UInt8
  deriving DecidableEq
def mix (x : Col) : Col := ⟨colAt x.a x.b (sum4 x.a x.b x.c x.d), colAt x.b x.c (sum4 x.a x.b x.c x.d), colAt x.c x.d (sum4 x.a x.b x.c x.d), colAt x.d x.a (sum4 x.a x.b x.c x.d)⟩
theorem xcan (a b : UInt8) : a ^^^ (a ^^^ b) = b := by rw [← UInt8.xor_assoc, UInt8.xor_self, UInt8.zero_xor]
/-- the document's form -/
theorem rcol (x y z u : UInt8) : twice x ^^^ y ^^^ twice y ^^^ z ^^^ u = colAt x y (sum4 x y z u) := by
  have e : x ^^^ sum4 x y z u = y ^^^ z ^^^ u := by
    unfold sum4
    have := xcan x (y ^^^ z ^^^ u)
    rw [← this]; ac_rfl
  unfold colAt
  rw [e, twice_xor]; ac_rfl
theorem sum4_rot (a b c d : UInt8) : sum4 b c d a = sum4 a b c d := by unfold sum4; ac_rfl
def addC (x y : Col) : Col := ⟨x.a ^^^ y.a, x.b ^^^ y.b, x.c ^^^ y.c, x.d ^^^ y.d⟩
theorem colAt_add (x x' y y' s s' : UInt8) : colAt (x ^^^ x') (y ^^^ y') (s ^^^ s') = colAt x y s ^^^ colAt x' y' s' := by
  unfold colAt
  rw [show (x ^^^ x') ^^^ (y ^^^ y') = (x ^^^ y) ^^^ (x' ^^^ y') by ac_rfl, twice_xor]; ac_rfl
theorem sum4_add (a b c d a' b' c' d' : UInt8) : sum4 (a ^^^ a') (b ^^^ b') (c ^^^ c') (d ^^^ d') = sum4 a b c d ^^^ sum4 a' b' c' d' := by unfold sum4; ac_rfl
theorem mix_add (x y : Col) : mix (addC x y) = addC (mix x) (mix y) := by
  unfold mix addC
  simp only [sum4_add, colAt_add]
def mix4 (x : Col) : Col := mix (mix (mix (mix x)))
theorem mix4_add (x y : Col) : mix4 (addC x y) = addC (mix4 x) (mix4 y) := by unfold mix4; simp only [mix_add]
theorem mix4_one : ∀ v : UInt8, mix4 ⟨v, 0, 0, 0⟩ = ⟨v, 0, 0, 0⟩ ∧ mix4 ⟨0, v, 0, 0⟩ = ⟨0, v, 0, 0⟩ ∧ mix4 ⟨0, 0, v, 0⟩ = ⟨0, 0, v, 0⟩ ∧ mix4 ⟨0, 0, 0, v⟩ = ⟨0, 0, 0, v⟩ := all8 (by decide +kernel)
theorem mix4_id (x : Col) : mix4 x = x := by
  obtain ⟨a, b, c, d⟩ := x
  have e : (⟨a, b, c, d⟩ : Col) = addC ⟨a, 0, 0, 0⟩ (addC ⟨0, b, 0, 0⟩ (addC ⟨0, 0, c, 0⟩ ⟨0, 0, 0, d⟩)) := by simp [addC]
  rw [e, mix4_add, mix4_add, mix4_add, (mix4_one a).1, (mix4_one b).2.1, (mix4_one c).2.2.1, (mix4_one d).2.2.2]
end Go.Proofs.Yteecbjpnnklbpaa.Gf
