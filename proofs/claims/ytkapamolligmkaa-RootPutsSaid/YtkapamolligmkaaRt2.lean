/- The key above all: root.Put, Erase, Blank, Get, Settle and what they come to. -/
import Derived.Test.YtkapamolligmkaaRt1
import Derived.Deep.RegionHeld3
namespace Go.Proofs.Ytkapamolligmkaa.Rt
open Go.RowKit
open Go.Proofs.Ytkapamolligmkaa.Disk (St DAt Did write_any flush_any read_any New8 Told8)
open Go.Proofs.Ytkapamolligmkaa.Sec (X SymAt text sumOf sumAfter ckS blankB rightF encode_sym decode_sym isBlank_any right_0 xv)
set_option linter.unusedVariables false
set_option maxRecDepth 100000
def xOf (gen : UInt64) (key : List UInt8) : X := ⟨1, 0, 0, gen, key⟩
theorem xOf_right {gen : UInt64} {key : List UInt8} (h : key.length = 32) : rightF (place gen) (xOf gen key) = 0 := by
  have hp := place_ok gen
  exact right_0 (by unfold xOf; simp only []; omega) (by unfold xOf; simp only []; omega)
/-- what stands at the place of a gen that is put -/
def bOf (l : List (List UInt8)) (gen : UInt64) (key : List UInt8) : List UInt8 := text (place gen) (xOf gen key) ++ sumOf l (text (place gen) (xOf gen key))
def lOf (l : List (List UInt8)) (gen : UInt64) (key : List UInt8) : List (List UInt8) := sumAfter l (text (place gen) (xOf gen key))
theorem bOf_len (l : List (List UInt8)) (gen : UInt64) (key : List UInt8) : (bOf l gen key).length = 512 := by
  unfold bOf; rw [List.length_append, Sec.text_len, Sec.sumOf_len]
theorem enc_any (g : Nat) (fp : List Nat) (s : St) (gS bS : Nat) (l : List (List UInt8)) (gen : UInt64) (key : List UInt8) (A : Option Addr) (c : Nat) (w : World) (h : Both w g fp s gS bS l) (hl : l.length ≤ 1000000) (hk : key.length = 32) (hr : Rd w w.heap.size A (key.map e8)) :
    Calls Try.prog 19 #[.pointer (some ⟨gS, 0, none⟩), .int .i64 (place gen), .agg #[.int .i64 1, .int .u64 0, .int .i64 0, .int .u64 (gen.toNat : Int), .slice A 32 c]] w fun e w' =>
      ∃ A' c', e = .returned (.tuple #[.slice A' 512 c', .int .i64 0]) ∧ RdN w' fp A' ((bOf l gen key).map e8) ∧ Both w' g fp s gS bS (lOf l gen key) ∧ Keep [bS] w w' := by
  have he := encode_sym (place gen) gS bS l (xOf gen key) A c w h.sym hl hr (xOf_right hk)
  rw [show (xOf gen key).body.length = 32 from hk] at he
  refine he.mono ?_
  rintro e w' ⟨A', c', he, own, k, sy⟩
  exact ⟨A', c', he, RdN.own own h.disk.lt, h.summed sy k, k⟩
theorem putD_nil (v : Value) (m : Int) (A : Option Addr) (n c : Nat) (w : World) : Calls Try.prog 9 #[.pointer none, v, .int .u64 m, .slice A n c] w fun e w' => e = .returned (.int .i64 1) ∧ w = w' := by
  go_enter Try.func9, Try.ntmps9
  go_wp2
  go_ret
  exact ⟨rfl, rfl⟩
theorem putS_nil (g : Nat) (m : Int) (A : Option Addr) (n c : Nat) (w : World) : Calls Try.prog 9 #[.pointer (some ⟨g, 0, none⟩), .pointer none, .int .u64 m, .slice A n c] w fun e w' => e = .returned (.int .i64 1) ∧ w = w' := by
  go_enter Try.func9, Try.ntmps9
  go_wp2
  go_ret
  exact ⟨rfl, rfl⟩
theorem put_form (g gS : Nat) (m : Int) (A : Option Addr) (n c : Nat) (w : World) (hn : n ≠ 32) : Calls Try.prog 9 #[.pointer (some ⟨g, 0, none⟩), .pointer (some ⟨gS, 0, none⟩), .int .u64 m, .slice A n c] w fun e w' => e = .returned (.int .i64 4) ∧ w = w' := by
  have t0 := bne_yes (show (n : Int) ≠ 32 by omega)
  go_enter Try.func9, Try.ntmps9
  go_wp2
  go_ret
  exact ⟨rfl, rfl⟩
set_option maxHeartbeats 1000000 in
theorem put_any (g : Nat) (fp : List Nat) (s : St) (gS bS : Nat) (l : List (List UInt8)) (gen : UInt64) (key : List UInt8) (A : Option Addr) (c : Nat) (w : World) (h : Both w g fp s gS bS l) (hl : l.length ≤ 1000000) (hs : s.sz ≤ 90000000) (hk : key.length = 32) (hr : Rd w w.heap.size A (key.map e8)) :
    Calls Try.prog 9 #[.pointer (some ⟨g, 0, none⟩), .pointer (some ⟨gS, 0, none⟩), .int .u64 (gen.toNat : Int), .slice A 32 c] w fun e w' => e = .returned (.int .i64 (wr s gen (bOf l gen key)).2) ∧ Turn w g fp gS bS (wr s gen (bOf l gen key)).1 (lOf l gen key) w' := by
  have HE := Lib.hid (enc_any g fp s gS bS l gen key A c w h hl hk hr)
  have hW := fun A' c' W hD hr' => wr_any g fp s gen _ rfl A' 512 c' (bOf l gen key) W hD hs (bOf_len l gen key).symm hr'
  obtain ⟨R, hR⟩ : ∃ r, r = wr s gen (bOf l gen key) := ⟨_, rfl⟩
  rw [← hR] at hW ⊢
  obtain ⟨b, hb⟩ : ∃ r, r = bOf l gen key := ⟨_, rfl⟩
  rw [← hb] at HE hW
  obtain ⟨l', hl'⟩ : ∃ r, r = lOf l gen key := ⟨_, rfl⟩
  rw [← hl'] at HE ⊢
  have HW := Lib.hid hW
  clear hW hR hb hl' hk
  go_enter Try.func9, Try.ntmps9
  go_wp2_with (first
    | (go_at_call 26; refine (root_any gen _ (by rfl) _).mono ?_; rintro e w' ⟨rfl, rfl⟩)
    | (go_at_call 19; refine (HE.out).mono ?_; rintro e w' ⟨A1, c1, rfl, hr1, hB1, k1⟩)
    | (go_at_call 27; refine (HW.out _ _ _ hB1.disk hr1).mono ?_; rintro e w' ⟨rfl, fp2, hD2, k2, f2⟩))
  go_ret
  exact ⟨rfl, fp2, hB1.did hD2 k2 f2, keepT (keepB k1) (Fresh.refl _ _) (keepF k2), fun j hj => (f2 j hj).imp id (fun h => Nat.le_trans k1.size h)⟩
theorem erase_nil (m : Int) (w : World) : Calls Try.prog 11 #[.pointer none, .int .u64 m] w fun e w' => e = .returned (.int .i64 1) ∧ w = w' := by
  go_enter Try.func11, Try.ntmps11
  go_wp2
  go_ret
  exact ⟨rfl, rfl⟩
set_option maxHeartbeats 1000000 in
theorem erase_any (g : Nat) (fp : List Nat) (s : St) (gen : UInt64) (w : World) (h : DAt w g fp s) (hs : s.sz ≤ 90000000) :
    Calls Try.prog 11 #[.pointer (some ⟨g, 0, none⟩), .int .u64 (gen.toNat : Int)] w (Did w g fp (wr s gen Disk.zero512)) := by
  have hB := Sec.blank_any w
  have hW := fun A' c' W hD hr' => wr_any g fp s gen _ rfl A' 512 c' Disk.zero512 W hD hs Disk.zero512_len.symm hr'
  obtain ⟨R, hR⟩ : ∃ r, r = wr s gen Disk.zero512 := ⟨_, rfl⟩
  rw [← hR] at hW ⊢
  rw [show Sec.zero512 = Disk.zero512 from rfl] at hB
  obtain ⟨z, hz⟩ : ∃ z, z = Disk.zero512 := ⟨_, rfl⟩
  have hzl : z.length = 512 := by rw [hz]; exact Disk.zero512_len
  rw [← hz] at hW hB
  unfold RetB at hB
  rw [hzl] at hB
  have HB := Lib.hid hB
  have HW := Lib.hid hW
  clear hB hW hR hz hzl
  go_enter Try.func11, Try.ntmps11
  go_wp2_with (first
    | (go_at_call 30; refine (HB.out).mono ?_; rintro e w' ⟨A1, c1, rfl, own1, b1⟩)
    | (go_at_call 27; refine (HW.out _ _ _ (h.on b1) (RdN.own own1 h.lt)).mono ?_; rintro e w' ⟨rfl, fp2, hD2, k2, f2⟩))
  go_ret
  exact ⟨rfl, fp2, hD2, k2.of_below5 b1, f2.of_size b1⟩
def blank (s : St) (gen : UInt64) : Bool × Int := (decide ((Disk.read s (place gen)).2 = 0) && blankB (Disk.read s (place gen)).1, (Disk.read s (place gen)).2)
theorem blank_nil (m : Int) (w : World) : Calls Try.prog 12 #[.pointer none, .int .u64 m] w fun e w' => e = .returned (.tuple #[.bool false, .int .i64 1]) ∧ w = w' := by
  go_enter Try.func12, Try.ntmps12
  go_wp2
  go_ret2
  exact ⟨rfl, rfl⟩
set_option maxHeartbeats 1000000 in
theorem blank_any (g : Nat) (fp : List Nat) (s : St) (gen : UInt64) (w : World) (h : DAt w g fp s) (hs : s.sz ≤ 90000000) :
    Calls Try.prog 12 #[.pointer (some ⟨g, 0, none⟩), .int .u64 (gen.toNat : Int)] w fun e w' => e = .returned (.tuple #[.bool (blank s gen).1, .int .i64 (blank s gen).2]) ∧ Below w.heap.size w w' := by
  have hR := read_any g fp s (place gen) w h (by omega)
  unfold blank
  obtain ⟨r, hr⟩ : ∃ r, r = Disk.read s (place gen) := ⟨_, rfl⟩
  rw [← hr] at hR ⊢
  have HR := Lib.hid hR
  clear hr hR
  by_cases h0 : r.2 = 0
  · have t0 := beq_yes h0
    rw [show decide (r.2 = 0) = true by simpa using h0, Bool.true_and]
    have HI := Lib.hid (fun A c W h1 => isBlank_any A r.1 r.1.length c W rfl h1)
    have H0 := Lib.hid h0
    clear h0
    go_enter Try.func12, Try.ntmps12
    go_wp2_with (first
      | (go_at_call 26; refine (root_any gen _ (by rfl) _).mono ?_; rintro e w' ⟨rfl, rfl⟩)
      | (go_at_call 28; refine HR.out.mono ?_; rintro e w1 ⟨v, rfl, hN, b1⟩; obtain ⟨A1, c1, rfl, _, _, rd1⟩ := hN.rdN (fp := []) (by simp)))
    go_wp2_with (first
      | (go_at_call 31; refine (HI.out _ _ _ rd1.rd).mono ?_; rintro e w' ⟨rfl, b2⟩))
    go_ret2
    exact ⟨rfl, bt b1 b2⟩
  · have t0 := beq_no h0
    rw [show decide (r.2 = 0) = false by simpa using h0, Bool.false_and]
    go_enter Try.func12, Try.ntmps12
    go_wp2_with (first
      | (go_at_call 26; refine (root_any gen _ (by rfl) _).mono ?_; rintro e w' ⟨rfl, rfl⟩)
      | (go_at_call 28; refine HR.out.mono ?_; rintro e w1 ⟨v, rfl, hN, b1⟩; obtain ⟨A1, c1, rfl, _, _, rd1⟩ := hN.rdN (fp := []) (by simp)))
    go_ret2
    exact ⟨rfl, b1⟩
end Go.Proofs.Ytkapamolligmkaa.Rt
