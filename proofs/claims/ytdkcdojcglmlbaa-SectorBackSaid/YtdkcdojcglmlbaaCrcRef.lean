/- The walks of the reference's sums (oublietteref06), and crc.Bytes. -/
import Derived.Test.YtdkcdojcglmlbaaCrc
import Derived.Test.YtdkcdojcglmlbaaNum
namespace Go.Proofs.Ytdkcdojcglmlbaa.Crc
open Go.RowKit
set_option linter.unusedVariables false

theorem rodd (c : UInt32) (h : c.toNat % 2 = 1) : bits .xor .u32 ((c.toNat : Int) / 2) 3988292384 = ((step c).toNat : Int) := by
  have h2 : (c.toNat : Int) / (2 : Int) = ((c >>> 1).toNat : Int) := by rw [half]; omega
  rw [h2, step_odd h]
  exact xor32 (c >>> 1) 3988292384
theorem reven (c : UInt32) (h : c.toNat % 2 = 0) : (c.toNat : Int) / 2 = ((step c).toNat : Int) := by
  have h2 : (c.toNat : Int) / (2 : Int) = ((c >>> 1).toNat : Int) := by rw [half]; omega
  rw [h2, step_even h]

set_option maxHeartbeats 400000 in
theorem rstep_any (c : UInt32) (w : World) : Calls Try.prog 143 #[.int .u32 (c.toNat : Int)] w fun e w' => e = .returned (.int .u32 ((step c).toNat : Int)) ∧ w = w' := by
  have h0 : (0 : Int) ≤ (c.toNat : Int) := by omega
  have h1 : (c.toNat : Int) ≤ 4294967295 := by have := c.toNat_lt; omega
  rcases Nat.mod_two_eq_zero_or_one c.toNat with e | e
  · have ht := beq_no (show (c.toNat : Int) % 2 ≠ 1 by omega)
    have hw := Lib.hid (reven c e)
    clear e
    go_enter Try.func143, Try.ntmps143
    go_wp2
    go_ret
    exact ⟨ret_int hw.out, rfl⟩
  · have ht := beq_yes (show (c.toNat : Int) % 2 = 1 by omega)
    have hw := Lib.hid (rodd c e)
    clear e
    go_enter Try.func143, Try.ntmps143
    go_wp2
    go_ret
    exact ⟨ret_int hw.out, rfl⟩

theorem take_zero_run (c : UInt32) (l : List UInt8) : run c (l.take 0) = c := by simp [run]
set_option maxHeartbeats 800000 in
theorem rrun_any (s : UInt32) (sv : Int) (hs : sv = (s.toNat : Int)) (A : Option Addr) (l : List UInt8) (n cap : Nat) (w : World) (hn : n = l.length) (hr : Rd w w.heap.size A (l.map e8)) (hl : l.length ≤ 1000000000000) :
    Calls Try.prog 133 #[.int .u32 sv, .slice A n cap] w fun e w' => e = .returned (.int .u32 ((run s l).toNat : Int)) ∧ w = w' := by
  subst hn hs
  go_enter Try.func133, Try.ntmps133
  go_wp2
  go_loop [0, 5, 6] (fun c i _ => ∃ k : Nat, k ≤ l.length ∧ i = .int .i64 k ∧ c = .int .u32 ((run s (l.take k)).toNat : Int)) (fun _ i _ => l.length - (intOf i).toNat)
  case atStart => exact ⟨0, by omega, rfl, by rw [take_zero_run]⟩
  case round =>
    obtain ⟨k, hk, rfl, rfl⟩ := hrel
    by_cases hlt : k < l.length
    · obtain ⟨b, off, rfl, hbb, hc⟩ := hr.get (k := k) (by simpa using hlt)
      rw [List.getElem_map] at hc
      have hx0 : (0 : Int) ≤ (l[k].toNat : Int) := by omega
      have hx1 : (l[k].toNat : Int) ≤ 255 := by have := l[k].toNat_lt; omega
      have hx := xor32 (run s (l.take k)) l[k].toUInt32
      rw [UInt8.toNat_toUInt32] at hx
      have hnext := Lib.hid (run_take s l k hlt)
      go_wp2
      go_loop [0, 6] (fun c j => ∃ m : Nat, m ≤ 8 ∧ j = .int .i64 m ∧ c = .int .u32 ((steps m (run s (l.take k) ^^^ l[k].toUInt32)).toNat : Int)) (fun _ j => 8 - (intOf j).toNat)
      case atStart => exact ⟨0, by omega, rfl, rfl⟩
      case round =>
        obtain ⟨m, hm, rfl, rfl⟩ := hrel
        by_cases hm8 : m < 8
        · go_wp2_with (go_at_call 143; refine (rstep_any _ _).mono ?_; rintro e w' ⟨rfl, rfl⟩)
          go_round
          case rel => exact ⟨m + 1, by omega, by go_num, rfl⟩
          case measure => simp [intOf]; omega
        · obtain rfl : m = 8 := by omega
          go_wp2
          go_round
          case rel => exact ⟨k + 1, by omega, by go_num, by rw [hnext.out]; rfl⟩
          case measure => simp [intOf]; omega
    · obtain rfl : k = l.length := by omega
      rw [List.take_length]
      go_wp2
      go_ret
      exact ⟨rfl, rfl⟩

theorem more_zero (l : List UInt8) : more 0 l = run 4294967295 l ^^^ 4294967295 := by unfold more; rw [UInt32.zero_xor]
set_option maxHeartbeats 400000 in
theorem rof_any (A : Option Addr) (l : List UInt8) (n cap : Nat) (w : World) (hn : n = l.length) (hr : Rd w w.heap.size A (l.map e8)) (hl : l.length ≤ 1000000000000) :
    Calls Try.prog 108 #[.slice A n cap] w fun e w' => e = .returned (.int .u32 ((more 0 l).toNat : Int)) ∧ w = w' := by
  subst hn
  have hx := xor32 (run 4294967295 l) 4294967295
  have e1 : ((4294967295 : UInt32).toNat : Int) = 4294967295 := rfl
  rw [e1] at hx
  go_enter Try.func108, Try.ntmps108
  go_wp2_with (go_at_call 133; refine (rrun_any 4294967295 _ e1.symm _ _ _ _ _ rfl hr hl).mono ?_; rintro e w' ⟨rfl, rfl⟩)
  go_ret
  exact ⟨ret_int (by rw [more_zero, UInt32.toNat_xor]; rfl), rfl⟩
/-- the sum as eight bytes -/
def sumB (l : List UInt8) : List UInt8 := Num.putL (more 0 l).toNat 8
theorem wide (x : UInt32) : (x.toNat : Int) = ((x.toUInt64).toNat : Int) := by simp
set_option maxHeartbeats 400000 in
theorem bytes_any (A : Option Addr) (l : List UInt8) (n cap : Nat) (w : World) (hn : n = l.length) (hr : Rd w w.heap.size A (l.map e8)) (hl : l.length ≤ 1000000000000) :
    Calls Try.prog 131 #[.slice A n cap] w fun e w' => RetB 5 w (sumB l) e w' := by
  subst hn
  have h0 : (0 : Int) ≤ ((more 0 l).toNat : Int) := by omega
  have h1 : ((more 0 l).toNat : Int) ≤ 4294967295 := by have := (more 0 l).toNat_lt; omega
  have hw := Lib.hid (wide (more 0 l))
  have hv : sumB l = Num.putL (more 0 l).toUInt64.toNat 8 := by rw [sumB]; simp
  rw [hv]; clear hv
  go_enter Try.func131, Try.ntmps131
  go_wp2_with fail
  refine (of_any _ _ _ _ _ rfl hr hl).mono ?_
  rintro e w1 ⟨rfl, hb1⟩
  go_wp2_with fail
  refine (Num.put_any _ _ hw.out 8 _ (by rfl) (by omega) (by omega) _).mono ?_
  rintro e w2 ⟨A2, c2, rfl, hown, hb2⟩
  go_wp2
  go_ret
  exact RetB.after hb1 hown hb2
set_option maxHeartbeats 400000 in
theorem rbytes_any (A : Option Addr) (l : List UInt8) (n cap : Nat) (w : World) (hn : n = l.length) (hr : Rd w w.heap.size A (l.map e8)) (hl : l.length ≤ 1000000000000) :
    Calls Try.prog 50 #[.slice A n cap] w fun e w' => RetB 5 w (sumB l) e w' := by
  subst hn
  have h0 : (0 : Int) ≤ ((more 0 l).toNat : Int) := by omega
  have h1 : ((more 0 l).toNat : Int) ≤ 4294967295 := by have := (more 0 l).toNat_lt; omega
  have hw := Lib.hid (wide (more 0 l))
  have hv : sumB l = Num.putL (more 0 l).toUInt64.toNat 8 := by rw [sumB]; simp
  rw [hv]; clear hv
  go_enter Try.func50, Try.ntmps50
  go_wp2_with fail
  refine (rof_any _ _ _ _ _ rfl hr hl).mono ?_
  rintro e w1 ⟨rfl, rfl⟩
  go_wp2_with fail
  refine (Num.rput_any _ _ hw.out 8 _ (by rfl) (by omega) (by omega) _).mono ?_
  rintro e w2 ⟨A2, c2, rfl, hown, hb2⟩
  go_wp2
  go_ret
  exact ⟨_, _, rfl, hown, hb2⟩
end Go.Proofs.Ytdkcdojcglmlbaa.Crc
