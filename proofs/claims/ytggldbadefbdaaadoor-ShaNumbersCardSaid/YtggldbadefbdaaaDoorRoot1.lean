/- The walk of the reference's prime. -/
import Derived.Test.YtggldbadefbdaaaDoorRootPlain
import Derived.Test.YtggldbadefbdaaaDoorSha
namespace Go.Proofs.YtggldbadefbdaaaDoor.Sha
open Go.RowKit
set_option linter.unusedVariables false
set_option maxRecDepth 100000
theorem wrapU {x : Int} (h0 : 0 ≤ x) (h1 : x < 18446744073709551616) : IntKind.u64.wrap x = x := by
  simp [IntKind.wrap, IntKind.signed, IntKind.bits]
  omega
theorem primeF_step {f n t : Nat} (hf : f ≠ 0) : primeF f n t = if isAt n n then (if t = 0 then n else primeF (f - 1) (n + 1) (t - 1)) else primeF (f - 1) (n + 1) t := by
  obtain ⟨g, rfl⟩ : ∃ g, f = g + 1 := ⟨f - 1, by omega⟩
  rfl
set_option maxHeartbeats 400000 in
theorem prime_any (t : Nat) (ht : t ≤ 1000) (w : World) : Calls Tryd.prog 59 #[.int .i64 (t : Int)] w fun e w' => e = .returned (.int .u64 (primeN t : Int)) ∧ w = w' := by
  obtain ⟨R, hR⟩ : ∃ R, R = primeN t := ⟨_, rfl⟩
  have hR' : primeF (400 - 2) 2 t = R := by rw [hR]; rfl
  rw [← hR]
  clear hR
  have HR := Lib.hid hR'
  clear hR'
  go_enter Tryd.func59, Tryd.ntmps59
  go_wp2
  go_loopw [0, 3] (fun tt nn wr => ∃ t n : Nat, n ≤ 400 ∧ 2 ≤ n ∧ t ≤ 1000 ∧ tt = .int .i64 (t : Int) ∧ nn = .int .u64 (n : Int) ∧ Hid (primeF (400 - n) n t = R) ∧ w = wr) (fun _ nn _ => 400 - (intOf nn).toNat)
  case atStart => exact ⟨t, 2, by omega, by omega, ht, rfl, rfl, HR, rfl⟩
  case round =>
    obtain ⟨t, n, hn4, hn2, ht', rfl, rfl, hp, rfl⟩ := hrel
    by_cases hlt : n < 400
    · have hnI : (n : Int) < 400 := by omega
      have hwn : IntKind.u64.wrap ((n : Int) + 1) = ((n + 1 : Nat) : Int) := by rw [wrapU (by omega) (by omega)]; rfl
      have hst := Lib.hid (hp.out.symm.trans (primeF_step (by omega)))
      have Hlt := Lib.hid (show n < 400 ∧ 2 ≤ n by omega)
      clear hlt hn4 hn2
      go_wp2
      go_loopw [4, 5] (fun is d wx => ∃ k : Nat, k ≤ n ∧ 2 ≤ k ∧ d = .int .u64 (k : Int) ∧ is = .bool (isAt n k) ∧ w = wx) (fun _ d _ => n - (intOf d).toNat)
      case atStart => exact ⟨2, by have := Hlt.out; omega, by omega, rfl, rfl, rfl⟩
      case round =>
        obtain ⟨k, hk, hk2, rfl, rfl, rfl⟩ := hrel
        by_cases hkn : k < n
        · have hkI : (k : Int) < (n : Int) := by omega
          have hk0 : ¬ (k : Int) = 0 := by omega
          have tm : ((n : Int)).tmod (k : Int) = ((n % k : Nat) : Int) := by rw [Int.tmod_eq_emod_of_nonneg (by omega)]; rfl
          have tm' : (n : Int) % (k : Int) = ((n % k : Nat) : Int) := rfl
          have hwk : IntKind.u64.wrap ((k : Int) + 1) = ((k + 1 : Nat) : Int) := by have := Hlt.out; rw [wrapU (by omega) (by omega)]; rfl
          have his := Lib.hid (show isAt n (k + 1) = (isAt n k && !(n % k == 0)) by show (isAt n k && (decide (k < 2) || !(n % k == 0))) = _; rw [decide_eq_false (by omega), Bool.false_or])
          obtain ⟨q, hq⟩ : ∃ q, q = n % k := ⟨_, rfl⟩
          have hqw : IntKind.u64.wrap (q : Int) = (q : Int) := wrapU (by omega) (by have := Hlt.out; have := Nat.mod_lt n (show 0 < k by omega); omega)
          rw [← hq] at tm tm' his
          obtain ⟨v, hv⟩ : ∃ v, v = isAt n k := ⟨_, rfl⟩
          rw [← hv] at his ⊢
          clear hq hv
          by_cases hz : q = 0
          · have hb : ((q : Int) == 0) = true := beq_yes (by omega)
            have hi2 := Lib.hid (show isAt n (k + 1) = false by rw [his.out, hz]; simp)
            subst hz
            go_wp2
            go_roundw
            case rel => exact ⟨k + 1, by omega, by omega, by go_num, by rw [hi2.out], by first | rfl | trivial⟩
            case measure => simp [intOf]; omega
          · have hb : ((q : Int) == 0) = false := beq_no (by omega)
            have hi2 := Lib.hid (show isAt n (k + 1) = v by rw [his.out]; simp [hz])
            clear hz
            go_wp2
            go_roundw
            case rel => exact ⟨k + 1, by omega, by omega, by go_num, by rw [hi2.out], by first | rfl | trivial⟩
            case measure => simp [intOf]; omega
        · obtain rfl : k = n := by omega
          have hkI : ¬ (k : Int) < (k : Int) := by omega
          obtain ⟨v, hv⟩ : ∃ v, v = isAt k k := ⟨_, rfl⟩
          rw [← hv] at hst ⊢
          clear hv
          cases v
          · have hst2 := Lib.hid (show R = primeF (400 - (k + 1)) (k + 1) t by rw [hst.out, show 400 - (k + 1) = 400 - k - 1 by omega]; rfl)
            go_wp2
            go_roundw
            case rel => exact ⟨t, k + 1, by have := Hlt.out; omega, by omega, ht', rfl, by go_num, Lib.hid hst2.out.symm, by first | rfl | trivial⟩
            case measure => have := Hlt.out; simp [intOf]; omega
          · by_cases ht0 : t = 0
            · subst ht0
              have hst2 := Lib.hid (show R = k by rw [hst.out]; simp)
              go_wp2
              go_ret
              exact ⟨by rw [hst2.out]; rfl, rfl⟩
            · have ht0b : ((t : Int) == 0) = false := beq_no (by omega)
              have hst2 := Lib.hid (show R = primeF (400 - (k + 1)) (k + 1) (t - 1) by rw [hst.out, show 400 - (k + 1) = 400 - k - 1 by omega]; exact if_neg ht0)
              have hwt : IntKind.i64.wrap ((t : Int) - 1) = ((t - 1 : Nat) : Int) := by rw [IntKind.wrap_i64]; omega
              go_wp2
              go_roundw
              case rel => exact ⟨t - 1, k + 1, by have := Hlt.out; omega, by omega, by omega, by first | rfl | go_num, by go_num, Lib.hid hst2.out.symm, by first | rfl | trivial⟩
              case measure => have := Hlt.out; simp [intOf]; omega
    · obtain rfl : n = 400 := by omega
      have hR0 := Lib.hid (show R = 0 by rw [← hp.out]; rfl)
      go_wp2
      go_ret
      exact ⟨by rw [hR0.out]; rfl, rfl⟩
end Go.Proofs.YtggldbadefbdaaaDoor.Sha
