/- The walks of wire.Reader: Text, Left, Fault, End, Read, and nil readers. -/
import Derived.Test.YtdkcdojcglmlbaaRead
namespace Go.Proofs.Ytdkcdojcglmlbaa.Read
open Go.RowKit
set_option linter.unusedVariables false
set_option maxRecDepth 100000

def GotS (w : World) (g : Nat) (m l : List UInt8) (f : Int) (e : Ending) (w' : World) : Prop := e = .returned (.string ⟨m.toArray⟩) ∧ RAt w' g l f ∧ Keep [g] w w'
set_option maxHeartbeats 400000 in
theorem text_of (g : Nat) (l l' m : List UInt8) (f f' : Int) (z : Int) (w : World) (h : Calls Try.prog 43 #[.pointer (some ⟨g, 0, none⟩), .int .i64 z] w (GotB w g m l' f')) :
    Calls Try.prog 86 #[.pointer (some ⟨g, 0, none⟩), .int .i64 z] w (GotS w g m l' f') := by
  have Hk := Lib.hid h
  clear h
  go_enter Try.func86, Try.ntmps86
  go_wp2_with fail
  refine (Hk.out).mono ?_
  rintro e w1 ⟨h1, h2, A, c, rfl, h3⟩
  have hcv := run_conv_rd (P := Try.prog) 26 9 5 m.length c rfl Try.underlying26 Try.underlying5 Try.underlying9 (Rd.own h3)
  have H1 := Lib.hid h1
  have H2 := Lib.hid h2
  clear h1 h2 h3 Hk
  go_wp2
  go_ret
  exact ⟨rfl, H1.out, H2.out⟩
set_option maxHeartbeats 400000 in
theorem left_any (g : Nat) (l : List UInt8) (f : Int) (w : World) (hr : RAt w g l f) :
    Calls Try.prog 27 #[.pointer (some ⟨g, 0, none⟩)] w fun e w' => e = .returned (.int .i64 (l.length : Int)) ∧ w = w' := by
  obtain ⟨A, c, hh, hrd, hc, hm⟩ := hr
  obtain ⟨c0, c1, f0, f1⟩ := cell_two hh
  clear hh
  go_enter Try.func27, Try.ntmps27
  go_wp2
  go_ret
  exact ⟨rfl, rfl⟩
set_option maxHeartbeats 400000 in
theorem fault_any (g : Nat) (l : List UInt8) (f : Int) (w : World) (hr : RAt w g l f) :
    Calls Try.prog 28 #[.pointer (some ⟨g, 0, none⟩)] w fun e w' => e = .returned (.int .i64 f) ∧ w = w' := by
  obtain ⟨A, c, hh, hrd, hc, hm⟩ := hr
  obtain ⟨c0, c1, f0, f1⟩ := cell_two hh
  clear hh
  go_enter Try.func28, Try.ntmps28
  go_wp2
  go_ret
  exact ⟨rfl, rfl⟩
def endF (l : List UInt8) (f : Int) : Int := if f = 0 ∧ 0 < l.length then 4 else f
set_option maxHeartbeats 400000 in
theorem end_any (g : Nat) (l : List UInt8) (f : Int) (w : World) (hr : RAt w g l f) :
    Calls Try.prog 29 #[.pointer (some ⟨g, 0, none⟩)] w fun e w' => e = .returned (.int .i64 (endF l f)) ∧ w = w' := by
  have hr' := hr
  obtain ⟨A, c, hh, hrd, hc, hm⟩ := hr
  obtain ⟨c0, c1, f0, f1⟩ := cell_two hh
  clear hh
  by_cases hf : f = 0
  · subst hf
    by_cases hl : 0 < l.length
    · have He := Lib.hid (show endF l 0 = 4 from if_pos ⟨rfl, hl⟩)
      go_enter Try.func29, Try.ntmps29
      go_wp2
      go_ret
      exact ⟨ret_int He.out.symm, rfl⟩
    · have He := Lib.hid (show endF l 0 = 0 from if_neg (by omega))
      go_enter Try.func29, Try.ntmps29
      go_wp2_with fail
      refine (fault_any g l 0 _ hr').mono ?_
      rintro e w1 ⟨rfl, rfl⟩
      go_wp2
      go_ret
      exact ⟨ret_int He.out.symm, rfl⟩
  · have He := Lib.hid (show endF l f = f from if_neg (by omega))
    have hne := beq_no hf
    clear hf
    go_enter Try.func29, Try.ntmps29
    go_wp2_with fail
    refine (fault_any g l f _ hr').mono ?_
    rintro e w1 ⟨rfl, rfl⟩
    go_wp2
    go_ret
    exact ⟨ret_int He.out.symm, rfl⟩
set_option maxHeartbeats 400000 in
theorem read_any (A : Option Addr) (l : List UInt8) (n c : Nat) (w : World) (hn : n = l.length) (hr : Rd w w.heap.size A (l.map e8)) (hl : l.length ≤ 1000000000000) :
    Calls Try.prog 24 #[.slice A n c] w fun e w' => ∃ g, e = .returned (.pointer (some ⟨g, 0, none⟩)) ∧ RAt w' g l 0 ∧ w.heap.size ≤ g ∧ Below w.heap.size w w' := by
  subst hn
  go_enter Try.func24, Try.ntmps24
  go_wp2_with fail
  refine (Sl.clone_any A l _ c _ rfl hr hl).mono ?_
  rintro e w1 ⟨A1, c1, rfl, h1, h2⟩
  obtain ⟨hcl, hcm⟩ := own_cap h1
  have hrd := Rd.own h1
  have hle := h2.size
  have hfin := Lib.hid (show RAt (w1.alloc (.cells #[.slice A1 l.length c1, .int .i64 0] 127)) w1.heap.size l 0 from ⟨A1, c1, heap_alloc_new w1 _, hrd.below (b1alloc _ _), hcl, hcm⟩)
  clear h1
  go_wp2
  go_ret
  exact ⟨_, rfl, hfin.out, hle, bt h2 (b1alloc _ _)⟩
end Go.Proofs.Ytdkcdojcglmlbaa.Read
