/- The suite of real sums: New, Real, none, real, Sum, Check. -/
import Derived.Test.YtkapamolligmkaaSec1
namespace Go.Proofs.Ytkapamolligmkaa.Sec
open Go.RowKit
open Go.Proofs.Ytkapamolligmkaa.Num (putL getN)
set_option linter.unusedVariables false
set_option maxRecDepth 100000
/-- a suite: of real sums, or of terms; of these the texts that were summed, in their order -/
inductive Su where
  | real
  | sym (l : List (List UInt8))
theorem three {w : World} {g : Nat} {v0 v1 v2 : Value} {t : TypeId} (h : w.heap[g]? = some (.cells #[v0, v1, v2] t (0, 0))) : w.cell? ⟨g, 0, none⟩ = some v0 ∧ w.cell? ⟨g, 1, none⟩ = some v1 ∧ w.cell? ⟨g, 2, none⟩ = some v2 := by
  refine ⟨?_, ?_, ?_⟩ <;> simp [World.cell?, h]
/-- a suite of real sums lies at block g -/
def RealAt (w : World) (g : Nat) : Prop := ∃ k, w.heap[g]? = some (.cells #[.pointer none, .map none, .pointer (some ⟨k, 0, none⟩)] 71 (0, 0))
theorem RealAt.on {w w' : World} {g : Nat} (h : RealAt w g) (b : Below w.heap.size w w') : RealAt w' g := h.elim fun k h => ⟨k, (b.block g (lt_of_block h)).trans h⟩
theorem RealAt.lt {w : World} {g : Nat} (h : RealAt w g) : g < w.heap.size := h.elim fun k h => lt_of_block h
theorem sNone_real (w : World) (g : Nat) (h : RealAt w g) : Calls Try.prog 53 #[.pointer (some ⟨g, 0, none⟩)] w fun e w' => e = .returned (.bool false) ∧ w = w' := by
  obtain ⟨k, h⟩ := h
  obtain ⟨c0, c1, c2⟩ := three h
  go_enter Try.func53, Try.ntmps53
  go_wp2
  go_ret
  exact ⟨rfl, rfl⟩
theorem sReal_real (w : World) (g : Nat) (h : RealAt w g) : Calls Try.prog 54 #[.pointer (some ⟨g, 0, none⟩)] w fun e w' => e = .returned (.bool true) ∧ w = w' := by
  obtain ⟨k, h⟩ := h
  obtain ⟨c0, c1, c2⟩ := three h
  go_enter Try.func54, Try.ntmps54
  go_wp2
  go_ret
  exact ⟨rfl, rfl⟩
theorem sum_real (w : World) (g : Nat) (h : RealAt w g) (A : Option Addr) (l : List UInt8) (n c : Nat) (hn : n = l.length) (hr : Rd w w.heap.size A (l.map e8)) (hl : l.length ≤ 1000000) :
    Calls Try.prog 40 #[.pointer (some ⟨g, 0, none⟩), .slice A n c] w (RetB 5 w (Crc.sumB l)) := by
  subst hn
  go_enter Try.func40, Try.ntmps40
  go_wp2_with fail
  refine (sNone_real w g h).mono ?_
  rintro e w1 ⟨rfl, rfl⟩
  go_wp2_with fail
  refine (sReal_real w g h).mono ?_
  rintro e w1 ⟨rfl, rfl⟩
  go_wp2_with fail
  refine (Crc.bytes_any A l _ c w rfl hr (by omega)).mono ?_
  rintro e w2 ⟨A2, c2, rfl, own2, b2⟩
  go_wp2
  go_ret
  exact ⟨_, _, rfl, own2, b2⟩
theorem check_real (w : World) (g : Nat) (h : RealAt w g) (A B : Option Addr) (l m : List UInt8) (n c o d : Nat) (hn : n = l.length) (ho : o = m.length) (hr : Rd w w.heap.size A (l.map e8)) (hs : Rd w w.heap.size B (m.map e8)) (hl : l.length ≤ 1000000) :
    Calls Try.prog 37 #[.pointer (some ⟨g, 0, none⟩), .slice A n c, .slice B o d] w fun e w' => e = .returned (.bool (R1.sameB (Crc.sumB l) m)) ∧ Below w.heap.size w w' := by
  subst hn ho
  go_enter Try.func37, Try.ntmps37
  go_wp2_with fail
  refine (sNone_real w g h).mono ?_
  rintro e w1 ⟨rfl, rfl⟩
  go_wp2_with fail
  refine (sReal_real w g h).mono ?_
  rintro e w1 ⟨rfl, rfl⟩
  go_wp2_with fail
  refine (Crc.bytes_any A l _ c w rfl hr (by omega)).mono ?_
  rintro e w2 ⟨A2, c2, rfl, own2, b2⟩
  go_wp2_with fail
  refine (nsame_any A2 B (Crc.sumB l) m _ _ c2 d w2 rfl rfl (Rd.own own2) (hs.on b2)).mono ?_
  rintro e w3 ⟨rfl, rfl⟩
  go_wp2
  go_ret
  exact ⟨rfl, b2⟩
end Go.Proofs.Ytkapamolligmkaa.Sec
