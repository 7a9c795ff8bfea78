/- The walks of the package gf and of its reference. -/
import Derived.Test.YteecbjpnnklbpaaBase
import Derived.Test.YteecbjpnnklbpaaGfPlain
import Derived.Test.YteecbjpnnklbpaaRows
import Derived.Outline
import Derived.WalkMore
import Derived.ScopeJumps
import Derived.Laws.BitsLemmas
namespace Go.Proofs.Yteecbjpnnklbpaa.Gf
open Go.RowKit
set_option linter.unusedVariables false

theorem dbl_cell (a : UInt8) : (a.toNat : Int) * (2 : Int) % (256 : Int) = ((a <<< 1).toNat : Int) := by
  rw [UInt8.toNat_shiftLeft]; simp [Nat.shiftLeft_eq]
theorem dbl_cell2 (a : UInt8) : (a.toNat : Int) <<< (1 : Nat) % (256 : Int) = ((a <<< 1).toNat : Int) := by
  rw [Int.shiftLeft_eq]; exact dbl_cell a
theorem half_cell (a : UInt8) : (a.toNat : Int) / (2 : Int) = ((a >>> 1).toNat : Int) := by
  rw [UInt8.toNat_shiftRight]; simp [Nat.shiftRight_eq_div_pow]
theorem mod_cell (a : UInt8) : (a.toNat : Int) % (2 : Int) = ((a &&& 1).toNat : Int) := by
  have h := Nat.and_two_pow_sub_one_eq_mod a.toNat 1
  have h2 : (a &&& 1).toNat = a.toNat % 2 := by rw [UInt8.toNat_and]; exact h
  rw [h2]; omega
theorem bd8 (a : UInt8) : (0 : Int) ≤ (a.toNat : Int) ∧ (a.toNat : Int) ≤ 255 := by have := a.toNat_lt; omega
theorem ge_high : ∀ a : UInt8, (128 ≤ a.toNat) = (a &&& 128 ≠ 0) := fun a => propext ((all8 (p := fun a => 128 ≤ a.toNat ↔ a &&& 128 ≠ 0) (by decide +kernel)) a)

set_option maxHeartbeats 400000 in
theorem twice_any (a : UInt8) (m : Int) (hm : m = (a.toNat : Int)) (w : World) : Calls Try.prog 53 #[.int .u8 m] w fun e w' => e = .returned (.int .u8 ((twice a).toNat : Int)) ∧ w = w' := by
  subst hm
  obtain ⟨b0, b1⟩ := bd8 a
  have Hd := Lib.hid (dbl_cell a)
  have Hx := Lib.hid (show bits .xor .u8 ((a <<< 1).toNat : Int) 27 = ((a <<< 1 ^^^ 27).toNat : Int) from xor8 _ 27)
  have ha : bits .and .u8 (a.toNat : Int) 128 = ((a &&& 128).toNat : Int) := and8 a 128
  by_cases h : a &&& 128 = 0
  · have ht := Lib.hid (show twice a = a <<< 1 from if_pos h)
    rw [h] at ha
    clear h
    go_enter Try.func53, Try.ntmps53
    go_wp2
    go_ret
    exact ⟨ret_int (by rw [ht.out, ← Hd.out]), rfl⟩
  · have ht := Lib.hid (show twice a = (a <<< 1) ^^^ 27 from if_neg h)
    have h' : a &&& 128 = 128 := (high8 a).resolve_left h
    rw [h'] at ha
    clear h h'
    go_enter Try.func53, Try.ntmps53
    go_wp2
    go_ret
    exact ⟨ret_int (by rw [ht.out, ← Hx.out, ← Hd.out]), rfl⟩
set_option maxRecDepth 100000 in
set_option maxHeartbeats 400000 in
theorem rtwice_any (a : UInt8) (m : Int) (hm : m = (a.toNat : Int)) (w : World) : Calls Try.prog 48 #[.int .u8 m] w fun e w' => e = .returned (.int .u8 ((twice a).toNat : Int)) ∧ w = w' := by
  subst hm
  obtain ⟨b0, b1⟩ := bd8 a
  have Hd := Lib.hid (dbl_cell a)
  have Hx := Lib.hid (show bits .xor .u8 ((a <<< 1).toNat : Int) 27 = ((a <<< 1 ^^^ 27).toNat : Int) from xor8 _ 27)
  have hge := ge_high a
  by_cases h : a &&& 128 = 0
  · have ht := Lib.hid (show twice a = a <<< 1 from if_pos h)
    have hl : (a.toNat : Int) < 128 := by
      rw [h] at hge
      have : ¬ 128 ≤ a.toNat := by rw [hge]; simp
      omega
    clear hge h
    go_enter Try.func48, Try.ntmps48
    go_wp2
    go_ret
    exact ⟨ret_int (by rw [ht.out, ← Hd.out]; omega), rfl⟩
  · have ht := Lib.hid (show twice a = (a <<< 1) ^^^ 27 from if_neg h)
    have hl : (128 : Int) ≤ (a.toNat : Int) := by
      have : 128 ≤ a.toNat := by rw [hge]; exact h
      omega
    clear hge h
    go_enter Try.func48, Try.ntmps48
    go_wp2
    go_ret
    exact ⟨ret_int (by rw [ht.out, ← Hx.out, ← Hd.out]), rfl⟩

theorem mulF_zero : ∀ n b s, mulF n 0 b s = s
  | 0, _, _ => rfl
  | n + 1, b, s => by
    show mulF n ((0 : UInt8) >>> 1) _ _ = s
    rw [show (0 : UInt8) >>> 1 = 0 by decide, mulF_zero n]
    exact if_neg (by decide)
theorem mulF_odd (n : Nat) (a b s : UInt8) (h : a &&& 1 = 1) : mulF (n + 1) a b s = mulF n (a >>> 1) (twice b) (s ^^^ b) := by
  show mulF n _ _ _ = _; rw [if_pos h]
theorem mulF_even (n : Nat) (a b s : UInt8) (h : a &&& 1 = 0) : mulF (n + 1) a b s = mulF n (a >>> 1) (twice b) s := by
  show mulF n _ _ _ = _; rw [if_neg (by rw [h]; decide)]
theorem half_lt (a : UInt8) (k : Nat) (h : a.toNat < 2 ^ (k + 1)) : (a >>> 1).toNat < 2 ^ k := by
  have : (a >>> 1).toNat = a.toNat / 2 := by rw [UInt8.toNat_shiftRight]; simp [Nat.shiftRight_eq_div_pow]
  rw [Nat.pow_succ] at h; omega

set_option maxHeartbeats 800000 in
theorem mul_any (a b : UInt8) (m n : Int) (hm : m = (a.toNat : Int)) (hn : n = (b.toNat : Int)) (w : World) : Calls Try.prog 54 #[.int .u8 m, .int .u8 n] w fun e w' => e = .returned (.int .u8 ((mul a b).toNat : Int)) ∧ w = w' := by
  subst hm hn
  go_enter Try.func54, Try.ntmps54
  go_wp2
  go_step3
  go_wp2
  go_step3
  go_wp2
  go_loop [0, 1, 4] (fun x y s => ∃ (k : Nat) (p q r : UInt8), k ≤ 8 ∧ p.toNat < 2 ^ k ∧ x = .int .u8 (p.toNat : Int) ∧ y = .int .u8 (q.toNat : Int) ∧ s = .int .u8 (r.toNat : Int) ∧ Hid (mulF k p q r = mul a b)) (fun x _ _ => (intOf x).toNat)
  case atStart => exact ⟨8, a, b, 0, by omega, a.toNat_lt, rfl, rfl, rfl, rfl⟩
  case round =>
    obtain ⟨k, p, q, r, hk, hp, rfl, rfl, rfl, hm⟩ := hrel
    obtain ⟨p0, p1⟩ := bd8 p
    by_cases hz : p = 0
    · subst hz
      have he := Lib.hid (show r = mul a b by rw [← hm.out, mulF_zero])
      go_wp2
      go_ret
      exact ⟨ret_int (by rw [← he.out]), rfl⟩
    · have t0 : ((p.toNat : Int) == 0) = false := beq8 (b := 0) hz
      obtain ⟨k, rfl⟩ : ∃ j, k = j + 1 := ⟨k - 1, by
        rcases Nat.eq_zero_or_pos k with h | h
        · subst h; exact absurd (UInt8.toNat_inj.1 (show p.toNat = (0 : UInt8).toNat by simpa using hp)) hz
        · omega⟩
      have hpos : 0 < p.toNat := by
        rcases Nat.eq_zero_or_pos p.toNat with h | h
        · exact absurd (UInt8.toNat_inj.1 h) hz
        · exact h
      have hnx := half_lt p k hp
      have hc := half_cell p
      have ha : bits .and .u8 (p.toNat : Int) 1 = ((p &&& 1).toNat : Int) := and8 p 1
      rcases low8 p with hl | hl
      · have hm2 := (mulF_even k p q r hl).symm.trans hm.out
        obtain ⟨p', hp'⟩ : ∃ x, x = p >>> 1 := ⟨_, rfl⟩
        rw [← hp'] at hm2 hnx hc
        have hm' := Lib.hid hm2
        rw [hl] at ha
        clear hz hl hp' hm2
        go_wp2_with (go_at_call 53; refine (twice_any _ _ rfl _).mono ?_; rintro e w' ⟨rfl, rfl⟩)
        go_round
        case rel => exact ⟨k, _, _, _, by omega, hnx, rfl, rfl, rfl, hm'⟩
        case measure => simp only [intOf]; omega
      · have hm2 := (mulF_odd k p q r hl).symm.trans hm.out
        obtain ⟨p', hp'⟩ : ∃ x, x = p >>> 1 := ⟨_, rfl⟩
        rw [← hp'] at hm2 hnx hc
        have hm' := Lib.hid hm2
        have hx := xor8 r q
        rw [hl] at ha
        clear hz hl hp' hm2
        go_wp2_with (go_at_call 53; refine (twice_any _ _ rfl _).mono ?_; rintro e w' ⟨rfl, rfl⟩)
        go_round
        case rel => exact ⟨k, _, _, _, by omega, hnx, rfl, rfl, rfl, hm'⟩
        case measure => simp only [intOf]; omega
set_option maxHeartbeats 800000 in
theorem rmul_any (a b : UInt8) (m n : Int) (hm : m = (a.toNat : Int)) (hn : n = (b.toNat : Int)) (w : World) : Calls Try.prog 51 #[.int .u8 m, .int .u8 n] w fun e w' => e = .returned (.int .u8 ((mul a b).toNat : Int)) ∧ w = w' := by
  subst hm hn
  go_enter Try.func51, Try.ntmps51
  go_wp2
  go_loop [0, 1, 5, 6] (fun x y s i => ∃ (k : Nat) (p q r : UInt8), k ≤ 8 ∧ i = .int .i64 k ∧ x = .int .u8 (p.toNat : Int) ∧ y = .int .u8 (q.toNat : Int) ∧ s = .int .u8 (r.toNat : Int) ∧ Hid (mulF (8 - k) p q r = mul a b)) (fun _ _ _ i => 8 - (intOf i).toNat)
  case atStart => exact ⟨0, a, b, 0, by omega, rfl, rfl, rfl, rfl, rfl⟩
  case round =>
    obtain ⟨k, p, q, r, hk, rfl, rfl, rfl, rfl, hm⟩ := hrel
    obtain ⟨p0, p1⟩ := bd8 p
    by_cases hlt : k < 8
    · have hc := half_cell p
      have hmo := mod_cell p
      have hm2 := hm.out
      rw [show 8 - k = (8 - (k + 1)) + 1 by omega] at hm2
      rcases low8 p with hl | hl
      · have hm3 := (mulF_even _ p q r hl).symm.trans hm2
        obtain ⟨p', hp'⟩ : ∃ x, x = p >>> 1 := ⟨_, rfl⟩
        rw [← hp'] at hm3 hc
        have hm' := Lib.hid hm3
        have ht : ((p.toNat : Int) % 2 == 1) = false := beq_no (by rw [hmo, hl]; decide)
        clear hl hmo hm2 hp' hm3
        go_wp2_with (go_at_call 48; refine (rtwice_any _ _ rfl _).mono ?_; rintro e w' ⟨rfl, rfl⟩)
        go_round
        case rel => exact ⟨k + 1, _, _, _, by omega, by go_num, rfl, rfl, rfl, hm'⟩
        case measure => simp only [intOf]; omega
      · have hm3 := (mulF_odd _ p q r hl).symm.trans hm2
        obtain ⟨p', hp'⟩ : ∃ x, x = p >>> 1 := ⟨_, rfl⟩
        rw [← hp'] at hm3 hc
        have hm' := Lib.hid hm3
        have ht : ((p.toNat : Int) % 2 == 1) = true := beq_yes (by rw [hmo, hl]; decide)
        have hx := xor8 r q
        clear hl hmo hm2 hp' hm3
        go_wp2_with (go_at_call 48; refine (rtwice_any _ _ rfl _).mono ?_; rintro e w' ⟨rfl, rfl⟩)
        go_round
        case rel => exact ⟨k + 1, _, _, _, by omega, by go_num, rfl, rfl, rfl, hm'⟩
        case measure => simp only [intOf]; omega
    · obtain rfl : k = 8 := by omega
      have he := Lib.hid (show r = mul a b by rw [← hm.out]; rfl)
      go_wp2
      go_ret
      exact ⟨ret_int (by rw [← he.out]), rfl⟩

/-- how often is multiplied -/
def expo (n : Int) : Nat := (if 255 < n then (n - 1) % 255 + 1 else n).toNat
set_option maxHeartbeats 800000 in
theorem rpower_any (a : UInt8) (m n : Int) (hm : m = (a.toNat : Int)) (h0 : -9223372036854775808 ≤ n) (h1 : n ≤ 9223372036854775807) (w : World) : Calls Try.prog 50 #[.int .u8 m, .int .i64 n] w fun e w' => e = .returned (.int .u8 ((pow a (expo n)).toNat : Int)) ∧ w = w' := by
  subst hm
  by_cases hn : 255 < n
  · have hb0 := Int.emod_nonneg (n - 1) (by omega : (255 : Int) ≠ 0)
    have hb1 := Int.emod_lt_of_pos (n - 1) (by omega : (0 : Int) < 255)
    have he := Lib.hid (show (expo n : Int) = (n - 1) % 255 + 1 by unfold expo; rw [if_pos hn]; omega)
    go_enter Try.func50, Try.ntmps50
    go_wp2
    go_loop [5, 6] (fun s i => ∃ k : Nat, (k : Int) ≤ (n - 1) % 255 + 1 ∧ i = .int .i64 k ∧ s = .int .u8 ((pow a k).toNat : Int)) (fun _ i => ((n - 1) % 255 + 1 - intOf i).toNat)
    case atStart => exact ⟨0, by omega, rfl, rfl⟩
    case round =>
      obtain ⟨k, hk, rfl, rfl⟩ := hrel
      by_cases hlt : (k : Int) < (n - 1) % 255 + 1
      · go_wp2_with (go_at_call 51; refine (rmul_any _ _ _ _ rfl rfl _).mono ?_; rintro e w' ⟨rfl, rfl⟩)
        go_round
        case rel => exact ⟨k + 1, by omega, by go_num, rfl⟩
        case measure => simp only [intOf]; omega
      · have hk' := Lib.hid (show expo n = k by have := he.out; omega)
        go_wp2
        go_ret
        exact ⟨ret_int (by rw [hk'.out]), rfl⟩
  · have he := Lib.hid (show expo n = n.toNat by unfold expo; rw [if_neg hn])
    go_enter Try.func50, Try.ntmps50
    go_wp2
    go_loop [5, 6] (fun s i => ∃ k : Nat, k ≤ n.toNat ∧ i = .int .i64 k ∧ s = .int .u8 ((pow a k).toNat : Int)) (fun _ i => n.toNat - (intOf i).toNat)
    case atStart => exact ⟨0, by omega, rfl, rfl⟩
    case round =>
      obtain ⟨k, hk, rfl, rfl⟩ := hrel
      by_cases hlt : (k : Int) < n
      · go_wp2_with (go_at_call 51; refine (rmul_any _ _ _ _ rfl rfl _).mono ?_; rintro e w' ⟨rfl, rfl⟩)
        go_round
        case rel => exact ⟨k + 1, by omega, by go_num, rfl⟩
        case measure => simp only [intOf]; omega
      · have hk' := Lib.hid (show expo n = k by rw [he.out]; omega)
        go_wp2
        go_ret
        exact ⟨ret_int (by rw [hk'.out]), rfl⟩

theorem i64_and1 (n : Int) : bits .and .i64 n 1 = n % 2 := by
  have h1 : (BitVec.ofInt 64 1).toNat = 2 ^ 1 - 1 := by decide
  have key : (BitVec.ofInt 64 n &&& BitVec.ofInt 64 1).toNat = (n % ((2 ^ 64 : Nat) : Int)).toNat % 2 ^ 1 := by
    rw [BitVec.toNat_and, BitVec.toNat_ofInt, h1, Nat.and_two_pow_sub_one_eq_mod]
  show IntKind.i64.wrap ((BitVec.ofInt 64 n &&& BitVec.ofInt 64 1).toNat : Nat) = n % 2
  rw [key, IntKind.wrap_i64]
  omega
theorem pow_even (p s : UInt8) (n : Nat) (h : n % 2 = 0) : mul s (pow p n) = mul s (pow (mul p p) (n / 2)) := by
  rw [pow_sq, show 2 * (n / 2) = n by omega]
theorem pow_odd (p s : UInt8) (n : Nat) (h : n % 2 = 1) : mul s (pow p n) = mul (mul s p) (pow (mul p p) (n / 2)) := by
  rw [pow_sq, ← mul_assoc]
  congr 1
  have e : n = 1 + 2 * (n / 2) := by omega
  rw [show pow p n = pow p (1 + 2 * (n / 2)) by rw [← e], pow_add]
  show mul (mul 1 p) _ = _
  rw [one_mul]

/-- what holds at the label -/
def AtNext (e : UInt8) (w : World) (a' : Act) (w' : World) : Prop :=
  w = w' ∧ ∃ (x y o u2 u3 u4 u6 u7 u8 u9 u10 u11 u12 u13 u14 u15 u16 u17 u18 u19 u20 u21 u22 u23 u24 u25 : Value),
    a' = { tmps := #[x, y, u2, u3, u4, o, u6, u7, u8, u9, u10, u11, u12, u13, u14, u15, u16, u17, u18, u19, u20, u21, u22, u23, u24, u25], defers := [] } ∧
      ∃ (p s : UInt8) (z : Int), x = .int .u8 (p.toNat : Int) ∧ y = .int .i64 z ∧ o = .int .u8 (s.toNat : Int) ∧ z ≤ 255 ∧ mul s (pow p z.toNat) = e
theorem next_round (e p s : UInt8) (z : Int) (hz : z ≤ 255) (he : mul s (pow p z.toNat) = e) : (z < 1 → s = e) ∧ (1 ≤ z → z % 2 = 1 → mul (mul s p) (pow (mul p p) (z / 2).toNat) = e) ∧ (1 ≤ z → z % 2 ≠ 1 → mul s (pow (mul p p) (z / 2).toNat) = e) := by
  refine ⟨fun h => ?_, fun h1 h2 => ?_, fun h1 h2 => ?_⟩
  · rw [show z.toNat = 0 by omega] at he; rw [← he]; exact (mul_one s).symm
  · rw [← he, pow_odd p s z.toNat (by omega), show (z / 2).toNat = z.toNat / 2 by omega]
  · rw [← he, pow_even p s z.toNat (by omega), show (z / 2).toNat = z.toNat / 2 by omega]

set_option maxRecDepth 100000 in
set_option maxHeartbeats 1600000 in
theorem power_any (a : UInt8) (m n : Int) (hm : m = (a.toNat : Int)) (h0 : -9223372036854775808 ≤ n) (h1 : n ≤ 9223372036854775807) (w : World) : Calls Try.prog 49 #[.int .u8 m, .int .i64 n] w fun e w' => e = .returned (.int .u8 ((pow a (expo n)).toNat : Int)) ∧ w = w' := by
  subst hm
  obtain ⟨e, he⟩ : ∃ e, e = pow a (expo n) := ⟨_, rfl⟩
  rw [← he]
  have He := Lib.hid he
  clear he
  go_enter Try.func49, Try.ntmps49
  go_wp2
  refine wp_scope_jumps 0 (AtNext e w) (fun a' _ => (intOf (a'.tmps.getD 1 undef)).toNat) rfl ?_ ?_
  · by_cases hn : 255 < n
    · have hb0 := Int.emod_nonneg (n - 1) (by omega : (255 : Int) ≠ 0)
      have hb1 := Int.emod_lt_of_pos (n - 1) (by omega : (0 : Int) < 255)
      have hr := Lib.hid (next_round e a 1 ((n - 1) % 255 + 1) (by omega) (by rw [He.out, one_mul]; unfold expo; rw [if_pos hn]))
      have ha := i64_and1 (((n - 1) % 255 + 1))
      by_cases h2 : (((n - 1) % 255 + 1)) % 2 = 1
      · have ht : (((n - 1) % 255 + 1) % 2 == 1) = true := beq_yes h2
        have hnx := Lib.hid (hr.out.2.1 (by omega) h2)
        clear h2
        go_wp2_with fail
        go_step3
        go_wp2_with fail
        refine (mul_any 1 a _ _ (by rfl) rfl _).mono ?_
        rintro e1 w1 ⟨rfl, rfl⟩
        go_wp2_with fail
        refine (mul_any a a _ _ rfl rfl _).mono ?_
        rintro e1 w1 ⟨rfl, rfl⟩
        go_wp2_with fail
        go_step3
        exact ⟨rfl, rfl, _, _, _, _, _, _, _, _, _, _, _, _, _, _, _, _, _, _, _, _, _, _, _, _, _, _, rfl, mul a a, mul 1 a, ((n - 1) % 255 + 1) / 2, rfl, rfl, rfl, by omega, hnx.out⟩
      · have ht : (((n - 1) % 255 + 1) % 2 == 1) = false := beq_no h2
        have hnx := Lib.hid (hr.out.2.2 (by omega) h2)
        clear h2
        go_wp2_with fail
        go_step3
        go_wp2_with fail
        refine (mul_any a a _ _ rfl rfl _).mono ?_
        rintro e1 w1 ⟨rfl, rfl⟩
        go_wp2_with fail
        go_step3
        exact ⟨rfl, rfl, _, _, _, _, _, _, _, _, _, _, _, _, _, _, _, _, _, _, _, _, _, _, _, _, _, _, rfl, mul a a, 1, ((n - 1) % 255 + 1) / 2, rfl, rfl, rfl, by omega, hnx.out⟩
    · have hr := Lib.hid (next_round e a 1 n (by omega) (by rw [He.out, one_mul]; unfold expo; rw [if_neg hn]))
      by_cases h1 : n < 1
      · have hs := Lib.hid (hr.out.1 h1)
        go_wp2_with fail
        go_step3
        go_wp2_with fail
        simp only [Exit.jump]
        go_ret
        exact ⟨ret_int (by rw [← hs.out]; try rfl), rfl⟩
      · have h3 : 1 ≤ n := by omega
        have ha := i64_and1 (n)
        by_cases h2 : n % 2 = 1
        · have ht : (n % 2 == 1) = true := beq_yes h2
          have hnx := Lib.hid (hr.out.2.1 (by omega) h2)
          clear h2
          go_wp2_with fail
          go_step3
          go_wp2_with fail
          refine (mul_any 1 a _ _ (by rfl) rfl _).mono ?_
          rintro e1 w1 ⟨rfl, rfl⟩
          go_wp2_with fail
          refine (mul_any a a _ _ rfl rfl _).mono ?_
          rintro e1 w1 ⟨rfl, rfl⟩
          go_wp2_with fail
          go_step3
          exact ⟨rfl, rfl, _, _, _, _, _, _, _, _, _, _, _, _, _, _, _, _, _, _, _, _, _, _, _, _, _, _, rfl, mul a a, mul 1 a, n / 2, rfl, rfl, rfl, by omega, hnx.out⟩
        · have ht : (n % 2 == 1) = false := beq_no h2
          have hnx := Lib.hid (hr.out.2.2 (by omega) h2)
          clear h2
          go_wp2_with fail
          go_step3
          go_wp2_with fail
          refine (mul_any a a _ _ rfl rfl _).mono ?_
          rintro e1 w1 ⟨rfl, rfl⟩
          go_wp2_with fail
          go_step3
          exact ⟨rfl, rfl, _, _, _, _, _, _, _, _, _, _, _, _, _, _, _, _, _, _, _, _, _, _, _, _, _, _, rfl, mul a a, 1, n / 2, rfl, rfl, rfl, by omega, hnx.out⟩
  · rintro a' w' ⟨rfl, x, y, o, u2, u3, u4, u6, u7, u8, u9, u10, u11, u12, u13, u14, u15, u16, u17, u18, u19, u20, u21, u22, u23, u24, u25, rfl, p, s, z, rfl, rfl, rfl, hz, hpe⟩
    have hr := Lib.hid (next_round e p s z hz hpe)
    clear hpe
    by_cases h1 : z < 1
    · have hs := Lib.hid (hr.out.1 h1)
      go_wp2_with fail
      simp only [Exit.jump]
      go_ret
      exact ⟨ret_int (by rw [← hs.out]; try rfl), rfl⟩
    · have h3 : 1 ≤ z := by omega
      have ha := i64_and1 (z)
      by_cases h2 : z % 2 = 1
      · have ht : (z % 2 == 1) = true := beq_yes h2
        have hnx := Lib.hid (hr.out.2.1 (by omega) h2)
        clear h2
        go_wp2_with fail
        refine (mul_any s p _ _ (by rfl) rfl _).mono ?_
        rintro e1 w1 ⟨rfl, rfl⟩
        go_wp2_with fail
        refine (mul_any p p _ _ rfl rfl _).mono ?_
        rintro e1 w1 ⟨rfl, rfl⟩
        go_wp2_with fail
        go_step3
        exact ⟨rfl, ⟨rfl, _, _, _, _, _, _, _, _, _, _, _, _, _, _, _, _, _, _, _, _, _, _, _, _, _, _, rfl, mul p p, mul s p, z / 2, rfl, rfl, rfl, by omega, hnx.out⟩, show (z / 2).toNat < z.toNat by omega⟩
      · have ht : (z % 2 == 1) = false := beq_no h2
        have hnx := Lib.hid (hr.out.2.2 (by omega) h2)
        clear h2
        go_wp2_with fail
        refine (mul_any p p _ _ rfl rfl _).mono ?_
        rintro e1 w1 ⟨rfl, rfl⟩
        go_wp2_with fail
        go_step3
        exact ⟨rfl, ⟨rfl, _, _, _, _, _, _, _, _, _, _, _, _, _, _, _, _, _, _, _, _, _, _, _, _, _, _, rfl, mul p p, s, z / 2, rfl, rfl, rfl, by omega, hnx.out⟩, show (z / 2).toNat < z.toNat by omega⟩
theorem expo254 : expo 254 = 254 := by decide
set_option maxRecDepth 100000 in
set_option maxHeartbeats 800000 in
theorem rinverse_any (a : UInt8) (m : Int) (hm : m = (a.toNat : Int)) (w : World) : Calls Try.prog 45 #[.int .u8 m] w fun e w' => e = .returned (.int .u8 ((inv a).toNat : Int)) ∧ w = w' := by
  subst hm
  go_enter Try.func45, Try.ntmps45
  go_wp2
  go_loop [3] (fun i => ∃ k : Nat, k ≤ 256 ∧ i = .int .i64 k ∧ Hid (∀ j : Nat, j < k → mul a (UInt8.ofNat j) ≠ 1)) (fun i => 256 - (intOf i).toNat)
  case atStart => exact ⟨0, by omega, rfl, fun j hj => absurd hj (by omega)⟩
  case round =>
    obtain ⟨k, hk, rfl, hno⟩ := hrel
    by_cases hlt : k < 256
    · have hb : (k : Int) % 256 = ((UInt8.ofNat k).toNat : Int) := by
        rw [UInt8.toNat_ofNat']; omega
      have hk8 : (k : Int) = ((UInt8.ofNat k).toNat : Int) := by rw [← hb]; omega
      by_cases h : mul a (UInt8.ofNat k) = 1
      · have ht : (((mul a (UInt8.ofNat k)).toNat : Int) == 1) = true := beq_yes (by rw [h]; rfl)
        have hi := Lib.hid (inv_only h)
        have Hk := Lib.hid hk8
        clear hb hk8 h
        go_wp2_with (go_at_call 51; refine (rmul_any a (UInt8.ofNat k) _ _ rfl Hk.out _).mono ?_; rintro e w' ⟨rfl, rfl⟩)
        go_ret
        exact ⟨ret_int (by rw [← hi.out]; exact Hk.out), rfl⟩
      · have ht : (((mul a (UInt8.ofNat k)).toNat : Int) == 1) = false := beq8 (b := 1) h
        have hno' := Lib.hid (show ∀ j : Nat, j < k + 1 → mul a (UInt8.ofNat j) ≠ 1 from fun j hj => by
          rcases Nat.lt_or_ge j k with e | e
          · exact hno.out j e
          · obtain rfl : j = k := by omega
            exact h)
        have Hk := Lib.hid hk8
        clear hb hk8 h
        go_wp2_with (go_at_call 51; refine (rmul_any a (UInt8.ofNat k) _ _ rfl Hk.out _).mono ?_; rintro e w' ⟨rfl, rfl⟩)
        go_round
        case rel => exact ⟨k + 1, by omega, by go_num, hno'⟩
        case measure => simp only [intOf]; omega
    · obtain rfl : k = 256 := by omega
      have hz := Lib.hid (show inv a = 0 by
        by_cases ha : a = 0
        · rw [ha]; exact inv_zero
        · exact absurd (mul_inv a ha) (by
            have := hno.out (inv a).toNat (inv a).toNat_lt
            rwa [show UInt8.ofNat (inv a).toNat = inv a from UInt8.toNat_inj.1 (by simp)] at this))
      go_wp2
      go_ret
      exact ⟨ret_int (by rw [hz.out]; rfl), rfl⟩
end Go.Proofs.Yteecbjpnnklbpaa.Gf
