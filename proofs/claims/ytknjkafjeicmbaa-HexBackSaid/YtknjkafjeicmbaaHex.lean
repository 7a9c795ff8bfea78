/- The walks of the package hex. -/
import Derived.Test.YtknjkafjeicmbaaBase
import Derived.Test.YtknjkafjeicmbaaHexPlain
import Derived.Test.YtknjkafjeicmbaaStr
import Derived.Test.YtknjkafjeicmbaaRows
import Derived.Outline
namespace Go.Proofs.Ytknjkafjeicmbaa.Hex
open Go.RowKit
set_option linter.unusedVariables false

set_option maxRecDepth 100000 in
set_option maxHeartbeats 400000 in
theorem digit_any (n : UInt8) (hn : n.toNat < 16) (m : Int) (hm : m = (n.toNat : Int)) (w : World) : Calls Try.prog 73 #[.int .u8 m] w fun e w' => e = .returned (.int .u8 ((dig n).toNat : Int)) ∧ w = w' := by
  subst hm
  have b0 : (0 : Int) ≤ (n.toNat : Int) := by omega
  have b1 : (n.toNat : Int) < 16 := by omega
  by_cases h : n.toNat < 10
  · have hd := Lib.hid (show (dig n).toNat = 48 + n.toNat by unfold dig; rw [if_pos h, UInt8.toNat_add]; simp; omega)
    have h' : (n.toNat : Int) < 10 := by omega
    clear h
    go_enter Try.func73, Try.ntmps73
    go_wp2
    go_ret
    exact ⟨ret_int (by rw [hd.out]; omega), rfl⟩
  · have hd := Lib.hid (show (dig n).toNat = 87 + n.toNat by unfold dig; rw [if_neg h, UInt8.toNat_add]; simp; omega)
    have h' : (10 : Int) ≤ (n.toNat : Int) := by omega
    clear h
    go_enter Try.func73, Try.ntmps73
    go_wp2
    go_ret
    exact ⟨ret_int (by rw [hd.out]; omega), rfl⟩
theorem info8 : (Try.prog.info? 5).map (fun i => (i.zero, i.size, i.bytes)) = some (some (.int .u8 0), 1, 1) := by kernel_rfl
theorem hi4 (c : UInt8) : (c.toNat : Int) / (16 : Int) = ((c >>> 4).toNat : Int) := by
  rw [UInt8.toNat_shiftRight]; simp [Nat.shiftRight_eq_div_pow]
theorem hi4_lt (c : UInt8) : (c >>> 4).toNat < 16 := by have := hi4 c; have := c.toNat_lt; omega
theorem lo4_lt (c : UInt8) : (c &&& 15).toNat < 16 := by
  have : (c &&& 15).toNat = c.toNat % 16 := by rw [UInt8.toNat_and]; exact Nat.and_two_pow_sub_one_eq_mod c.toNat 4
  omega
set_option maxRecDepth 100000 in
set_option maxHeartbeats 1600000 in
theorem print_any (A : Option Addr) (l : List UInt8) (n cap : Nat) (w : World) (hn : n = l.length) (hr : Rd w w.heap.size A (l.map e8)) (hl : l.length ≤ 1000000000) :
    Calls Try.prog 41 #[.slice A n cap] w fun e w' => e = .returned (.string ⟨(print l).toArray⟩) ∧ Below w.heap.size w w' := by
  subst hn
  obtain ⟨i0, hi0, hz0, hz1, hz2⟩ := info_parts info8
  go_enter Try.func41, Try.ntmps41
  go_wp2_with (at_make; refine wpList_make_own _ rfl _ _ _ rfl w.heap.size 5 i0 _ 1 Try.underlying22 hi0 hz0 hz1 _ _ _ (2 * l.length) rfl rfl (by omega) (by rw [hz2]; omega) (by simp only [maxLen]; omega) (Nat.le_refl _) ?_; intro w1 hown1 hg1)
  have hbw : Below w.heap.size w w1 := (Below.refl _ _).grown hg1 (Nat.le_refl _) (by simp)
  go_loopw [3, 5, 12] (fun v _ i wr => ∃ k : Nat, k ≤ l.length ∧ i = .int .i64 k ∧ wr.ownsRow w.heap.size 5 1 v (2 * k) ((print (l.take k)).map e8) ∧ Below w.heap.size w wr) (fun _ _ i _ => l.length - (intOf i).toNat)
  case atStart => exact ⟨0, by omega, rfl, hown1, hbw⟩
  case round =>
    obtain ⟨k, hk, rfl, hown, hbel⟩ := hrel
    by_cases hlt : k < l.length
    · obtain ⟨b, off, rfl, hbb, hc⟩ := (hr.below hbel).get (k := k) (by simpa using hlt)
      rw [List.getElem_map] at hc
      have Hi := Lib.hid (hi4 l[k])
      have hlo : bits .and .u8 (l[k].toNat : Int) 15 = ((l[k] &&& 15).toNat : Int) := and8 l[k] 15
      have hlo2 := lo4_lt l[k]
      obtain ⟨q, hq⟩ : ∃ q, q = l[k] &&& 15 := ⟨_, rfl⟩
      rw [← hq] at hlo hlo2
      have Hq := Lib.hid hq
      clear hq
      have Ht := Lib.hid (print_take l k hlt)
      go_wp2_with fail
      refine (digit_any (l[k] >>> 4) (hi4_lt _) _ Hi.out _).mono ?_
      rintro e w2 ⟨rfl, rfl⟩
      go_wp2_with fail
      refine (digit_any q hlo2 _ rfl _).mono ?_
      rintro e w2 ⟨rfl, rfl⟩
      go_wp2_with (at_builtin; refine wpList_append_rd _ rfl _ _ _ rfl w.heap.size 5 i0 _ 1 1 Try.underlying22 hi0 hz0 hz1 hz2 rfl (by omega) _ (2 * k) _ rfl (hown.alloc _) _ _ 2 2 [.int .u8 ((dig (l[k] >>> 4)).toNat : Int), .int .u8 ((dig q).toNat : Int)] rfl rfl (Rd.lit wr _ _ _ (wr.heap.size + 1) rfl (by omega)) (by intro u hu; simp at hu; rcases hu with rfl | rfl <;> rfl) (by simp only [maxLen]; omega) (by omega) (le_alloc hbel.size _) ?_; intro v1 w3 hown3 hg3 hat3)
      go_roundw
      case rel =>
        have hx : (print (l.take k)).map e8 ++ [.int .u8 ((dig (l[k] >>> 4)).toNat : Int), .int .u8 ((dig q).toNat : Int)] = (print (l.take (k + 1))).map e8 := by
          rw [Ht.out, Hq.out]; simp [two]
        rw [hx] at hown3
        exact ⟨k + 1, by omega, by go_num, by rw [show 2 * (k + 1) = 2 * k + 2 by omega]; exact hown3, (hbel.alloc hbel.size _).grown hg3 (le_alloc hbel.size _) (fun g hg => own_block hown hg)⟩
      case measure => simp [intOf]; omega
    · obtain rfl : k = l.length := by omega
      rw [List.take_length] at hown
      obtain ⟨A2, c2, rfl⟩ := own_form hown
      have hcv := run_conv_rd (P := Try.prog) 22 9 5 (2 * l.length) c2 (print_len l).symm Try.underlying22 Try.underlying5 Try.underlying9 (Rd.own hown)
      go_wp2
      go_ret
      exact ⟨rfl, hbel⟩
def short (l : List UInt8) : List UInt8 := if l.length ≤ 4 then print l else print (l.take 3) ++ [46, 46]
theorem rd_take {w : World} {B : Nat} {A : Option Addr} {xs : List Value} (h : Rd w B A xs) (k : Nat) : Rd w B A (xs.take k) := by
  intro hne
  have hx : xs ≠ [] := by rintro rfl; exact hne (by simp)
  obtain ⟨b, off, rfl, hb, hc⟩ := h hx
  exact ⟨b, off, rfl, hb, fun i hi => by rw [hc i (by rw [List.length_take] at hi; omega), List.getElem_take]⟩
set_option maxRecDepth 100000 in
set_option maxHeartbeats 800000 in
theorem short_any (A : Option Addr) (l : List UInt8) (n cap : Nat) (w : World) (hn : n = l.length) (hr : Rd w w.heap.size A (l.map e8)) (hl : l.length ≤ 1000000000) (hc : l.length ≤ cap) :
    Calls Try.prog 42 #[.slice A n cap] w fun e w' => e = .returned (.string ⟨(short l).toArray⟩) ∧ Below w.heap.size w w' := by
  subst hn
  by_cases h : l.length ≤ 4
  · have hs := Lib.hid (show short l = print l from if_pos h)
    go_enter Try.func42, Try.ntmps42
    go_wp2_with (go_at_call 41; refine (print_any _ _ _ _ _ rfl hr hl).mono ?_; rintro e w' ⟨rfl, b1⟩)
    go_ret
    exact ⟨by rw [hs.out]; rfl, b1⟩
  · have hs := Lib.hid (show short l = print (l.take 3) ++ [46, 46] from if_neg h)
    go_enter Try.func42, Try.ntmps42
    go_wp2_with fail
    have h3 : (3 : Nat) = (l.take 3).length := by rw [List.length_take]; omega
    have hr3 : Rd w w.heap.size A ((l.take 3).map e8) := by rw [List.map_take]; exact rd_take hr 3
    refine (print_any A (l.take 3) 3 cap w h3 hr3 (by rw [List.length_take]; omega)).mono ?_
    rintro e w1 ⟨rfl, b1⟩
    have hl3 : (print (l.take 3)).length ≤ 6 := by rw [print_len, ← h3]; omega
    clear h3 hr3
    go_wp2
    go_ret
    exact ⟨by rw [hs.out, ← ba_append]; rfl, b1⟩
end Go.Proofs.Ytknjkafjeicmbaa.Hex
