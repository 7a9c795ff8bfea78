/- The walks of the package crc and of the reference's sums: each returns what the plain functions say. -/
import Derived.Test.YtkapamolligmkaaBase
import Derived.Test.YtkapamolligmkaaCrcPlain
import Derived.Test.YtkapamolligmkaaRows
import Derived.Outline
namespace Go.Proofs.Ytkapamolligmkaa.Crc
open Go.RowKit

theorem step_word (c : UInt32) : bits .xor .u32 ((c.toNat : Int) / 2) (bits .and .u32 3988292384 (-bits .and .u32 (c.toNat : Int) 1 % 4294967296)) = ((step c).toNat : Int) := by
  have h1 : bits .and .u32 (c.toNat : Int) 1 = ((c &&& 1).toNat : Int) := and32 c 1
  have h2 : (c.toNat : Int) / (2 : Int) = ((c >>> 1).toNat : Int) := by rw [half]; omega
  have h3 : -((c &&& 1).toNat : Int) % 4294967296 = ((-(c &&& 1)).toNat : Int) := by rcases bit c with e | e <;> rw [e] <;> rfl
  rw [h1, h2, h3]
  have h4 : bits .and .u32 3988292384 ((-(c &&& 1)).toNat : Int) = ((3988292384 &&& -(c &&& 1)).toNat : Int) := and32 3988292384 _
  rw [h4, xor32]; rfl

set_option maxHeartbeats 400000 in
theorem step_any (c : UInt32) (w : World) : Calls Try.prog 63 #[.int .u32 (c.toNat : Int)] w fun e w' => e = .returned (.int .u32 ((step c).toNat : Int)) ∧ w = w' := by
  have h0 : (0 : Int) ≤ (c.toNat : Int) := by omega
  have h1 : (c.toNat : Int) ≤ 4294967295 := by have := c.toNat_lt; omega
  have hw := Lib.hid (step_word c)
  go_enter Try.func63, Try.ntmps63
  go_wp2
  go_ret
  exact ⟨ret_int (by rw [← hw.out]), rfl⟩

set_option maxHeartbeats 400000 in
/-- one byte taken in: the cell that holds the sum -/
theorem byByte_any (c : UInt32) (x : UInt8) (g : Nat) (w : World) (hb : Box w g (.int .u32 (c.toNat : Int))) :
    Calls Try.prog 62 #[.int .u8 (x.toNat : Int), .pointer (some ⟨g, 0, none⟩)] w fun e w' =>
      e = .returned (.tuple #[]) ∧ Box w' g (.int .u32 ((byte c x).toNat : Int)) ∧ w.grownBy w' (some g) := by
  have hc := hb.cell
  have hf := hb.free
  have hx0 : (0 : Int) ≤ (x.toNat : Int) := by omega
  have hx1 : (x.toNat : Int) ≤ 255 := by have := x.toNat_lt; omega
  have hx := xor32 c x.toUInt32
  rw [UInt8.toNat_toUInt32] at hx
  go_enter Try.func62, Try.ntmps62
  go_wp2
  go_loopw [7, 9] (fun i _ wr => ∃ k : Nat, k ≤ 8 ∧ i = .int .i64 k ∧ Box wr g (.int .u32 ((steps k (c ^^^ x.toUInt32)).toNat : Int)) ∧ w.grownBy wr (some g)) (fun i _ _ => 8 - (intOf i).toNat)
  case atStart => exact ⟨0, by omega, rfl, hb.set _, grown_set _ _ _⟩
  case round =>
    obtain ⟨k, hk, rfl, hbr, hg⟩ := hrel
    have hcr := hbr.cell
    have hfr := hbr.free
    by_cases hlt : k < 8
    · go_wp2_with (go_at_call 63; refine (step_any _ _).mono ?_; rintro e w' ⟨rfl, rfl⟩)
      go_roundw
      case rel => exact ⟨k + 1, by omega, by go_num, hbr.set _, grown_trans hg (grown_set _ _ _)⟩
      case measure => simp [intOf]; omega
    · obtain rfl : k = 8 := by omega
      go_wp2
      go_end0
      exact ⟨rfl, hbr, hg⟩

set_option maxHeartbeats 400000 in
theorem more_any (s : UInt32) (A : Option Addr) (l : List UInt8) (n cap : Nat) (w : World) (hn : n = l.length) (hr : Rd w w.heap.size A (l.map e8)) (hl : l.length ≤ 1000000000000) :
    Calls Try.prog 61 #[.int .u32 (s.toNat : Int), .slice A n cap] w fun e w' => e = .returned (.int .u32 ((more s l).toNat : Int)) ∧ Below w.heap.size w w' := by
  subst hn
  have hx := xor32 s 4294967295
  have e1 : ((4294967295 : UInt32).toNat : Int) = 4294967295 := rfl
  rw [e1] at hx
  go_enter Try.func61, Try.ntmps61
  go_wp2
  go_loopw [8, 14, 15, 16, 17, 18, 19, 20, 21] (fun _ i _ _ _ _ _ _ _ wr => ∃ k : Nat, k ≤ l.length ∧ i = .int .i64 k ∧ Box wr w.heap.size (.int .u32 ((run (s ^^^ 4294967295) (l.take k)).toNat : Int)) ∧ Below w.heap.size w wr) (fun _ i _ _ _ _ _ _ _ _ => l.length - (intOf i).toNat)
  case atStart => exact ⟨0, by omega, rfl, by simpa [run] using Box.new w _ _, (Below.refl _ _).alloc (Nat.le_refl _) _⟩
  case round =>
    obtain ⟨k, hk, rfl, hb, hbel⟩ := hrel
    by_cases hlt : k < l.length
    · obtain ⟨b, off, rfl, hbb, hc⟩ := (hr.below hbel).get (k := k) (by simpa using hlt)
      rw [List.getElem_map] at hc
      go_wp2_with (go_at_call 62; refine (byByte_any _ _ _ _ hb).mono ?_; rintro e w' ⟨rfl, hb', hg'⟩)
      go_roundw
      case rel => exact ⟨k + 1, by omega, by go_num, by rw [run_take _ _ _ hlt]; exact hb', hbel.grown hg' hbel.size (by simp)⟩
      case measure => simp [intOf]; omega
    · obtain rfl : k = l.length := by omega
      have hc := hb.cell
      rw [List.take_length] at hc
      have hx2 := xor32 (run (s ^^^ 4294967295) l) 4294967295
      rw [e1] at hx2
      go_wp2
      go_ret
      exact ⟨rfl, hbel⟩

set_option maxHeartbeats 400000 in
theorem of_any (A : Option Addr) (l : List UInt8) (n cap : Nat) (w : World) (hn : n = l.length) (hr : Rd w w.heap.size A (l.map e8)) (hl : l.length ≤ 1000000000000) :
    Calls Try.prog 60 #[.slice A n cap] w fun e w' => e = .returned (.int .u32 ((more 0 l).toNat : Int)) ∧ Below w.heap.size w w' := by
  subst hn
  go_enter Try.func60, Try.ntmps60
  go_wp2_with (go_at_call 61; refine (more_any 0 _ _ _ _ _ rfl hr hl).mono ?_; rintro e w' ⟨rfl, hb⟩)
  go_ret
  exact ⟨rfl, hb⟩
end Go.Proofs.Ytkapamolligmkaa.Crc
