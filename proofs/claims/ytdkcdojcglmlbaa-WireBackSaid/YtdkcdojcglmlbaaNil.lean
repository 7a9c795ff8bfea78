/- The walks of nil writers and nil readers. -/
import Derived.Test.YtdkcdojcglmlbaaRead2
import Derived.Test.YtdkcdojcglmlbaaWire
namespace Go.Proofs.Ytdkcdojcglmlbaa.Nil
open Go.RowKit
open Go.Proofs.Ytdkcdojcglmlbaa.Read
set_option linter.unusedVariables false
set_option maxRecDepth 100000

set_option maxHeartbeats 400000 in
theorem put_nil (v : Value) (w : World) : Calls Try.prog 91 #[.pointer none, v] w fun e w' => e = .returned (.tuple #[]) ∧ w = w' := by
  go_enter Try.func91, Try.ntmps91
  go_wp2
  go_end0
  exact ⟨rfl, rfl⟩
set_option maxHeartbeats 400000 in
theorem byteW_nil (z : Int) (w : World) : Calls Try.prog 39 #[.pointer none, .int .u8 z] w fun e w' => e = .returned (.tuple #[]) ∧ Below w.heap.size w w' := by
  go_enter Try.func39, Try.ntmps39
  go_wp2_with (go_at_call 91; refine (put_nil _ _).mono ?_; rintro e w' ⟨rfl, rfl⟩)
  go_end0
  exact ⟨rfl, b1alloc _ _⟩
set_option maxHeartbeats 400000 in
theorem numberW_nil (n : UInt64) (z : Int) (hz : z = (n.toNat : Int)) (s : Int) (hs0 : -9223372036854775808 ≤ s) (hs1 : s ≤ 9223372036854775807) (w : World) : Calls Try.prog 76 #[.pointer none, .int .u64 z, .int .i64 s] w fun e w' => e = .returned (.tuple #[]) ∧ Below w.heap.size w w' := by
  subst hz
  go_enter Try.func76, Try.ntmps76
  go_wp2_with fail
  refine (Num.putz_any n _ (by rfl) s hs0 hs1 _).mono ?_
  rintro e w1 ⟨A, c, rfl, ho, b1⟩
  go_wp2_with (go_at_call 91; refine (put_nil _ _).mono ?_; rintro e w' ⟨rfl, rfl⟩)
  go_end0
  exact ⟨rfl, b1⟩
set_option maxHeartbeats 400000 in
theorem textW_nil (w : World) : Calls Try.prog 40 #[.pointer none, .string ⟨#[97]⟩] w fun e w' => e = .returned (.tuple #[]) ∧ Below w.heap.size w w' := by
  obtain ⟨c, w1, hrun, b1, hsz, hc, hcell⟩ := run_conv_new (P := Try.prog) w 9 26 5 [97] Try.underlying9 Try.underlying26 Try.underlying5
  clear hcell
  have hb : Calls Try.prog 77 #[.pointer none, .slice (some ⟨w.heap.size, 0, none⟩) 1 c] w1 fun e w' => e = .returned (.tuple #[]) ∧ Below w1.heap.size w1 w' := by
    simp only [List.length_cons, List.length_nil] at hc
    go_enter Try.func77, Try.ntmps77
    go_wp2_with fail
    refine (numberW_nil 1 1 (by rfl) 2 (by omega) (by omega) _).mono ?_
    rintro e w2 ⟨rfl, b2⟩
    go_wp2_with (go_at_call 91; refine (put_nil _ _).mono ?_; rintro e w' ⟨rfl, rfl⟩)
    go_end0
    exact ⟨rfl, b2⟩
  go_enter Try.func40, Try.ntmps40
  go_wp2_with (go_at_call 77; refine (hb).mono ?_; rintro e w' ⟨rfl, b2⟩)
  go_end0
  exact ⟨rfl, bt b1 b2⟩
set_option maxHeartbeats 400000 in
theorem out_nil (w : World) : Calls Try.prog 20 #[.pointer none] w fun e w' => e = .returned (.slice none 0 0) ∧ w = w' := by
  go_enter Try.func20, Try.ntmps20
  go_wp2
  go_ret
  exact ⟨rfl, rfl⟩
set_option maxHeartbeats 400000 in
theorem left_nil (w : World) : Calls Try.prog 27 #[.pointer none] w fun e w' => e = .returned (.int .i64 0) ∧ w = w' := by
  go_enter Try.func27, Try.ntmps27
  go_wp2
  go_ret
  exact ⟨rfl, rfl⟩
set_option maxHeartbeats 400000 in
theorem fault_nil (w : World) : Calls Try.prog 28 #[.pointer none] w fun e w' => e = .returned (.int .i64 1) ∧ w = w' := by
  go_enter Try.func28, Try.ntmps28
  go_wp2
  go_ret
  exact ⟨rfl, rfl⟩
set_option maxHeartbeats 400000 in
theorem end_nil (w : World) : Calls Try.prog 29 #[.pointer none] w fun e w' => e = .returned (.int .i64 1) ∧ w = w' := by
  go_enter Try.func29, Try.ntmps29
  go_wp2_with (go_at_call 28; refine (fault_nil _).mono ?_; rintro e w' ⟨rfl, rfl⟩)
  go_ret
  exact ⟨rfl, rfl⟩
theorem box2 (w : World) (o : Obj) (t : TypeId) (v : Value) : Box ((w.alloc o).alloc (.cells #[v] t)) (w.heap.size + 1) v := by
  have := Box.new (w.alloc o) t v
  simpa using this
theorem box3 (w : World) (o o' : Obj) (t : TypeId) (v : Value) : Box (((w.alloc o).alloc o').alloc (.cells #[v] t)) (w.heap.size + 2) v := by
  have := Box.new ((w.alloc o).alloc o') t v
  simpa using this
set_option maxHeartbeats 400000 in
theorem byteR_nil (w : World) : Calls Try.prog 41 #[.pointer none] w fun e w' => e = .returned (.int .u8 0) ∧ Below w.heap.size w w' := by
  have hmf : ∀ (fn : Fn) (first cap : Array Value) (w : World), (Instr.makeFunc fn first cap).run Try.prog w = .ok (.func fn first cap) w := fun _ _ _ _ => rfl
  go_enter Try.func41, Try.ntmps41
  go_wp2_with fail
  have hbq := box2 w (.cells #[.pointer none] 50) 5 (.int .u8 0)
  refine (field_nil 93 _ _).mono ?_
  rintro e w1 ⟨rfl, b⟩
  have h1 := hbq.below b hbq.lt
  have hfin := Lib.hid (bset (bt (b2alloc w _ _) b) (o := 0) (show w.heap.size ≤ w.heap.size + 1 by omega) (.int .u8 0))
  have hqc := h1.cell
  have hqf := h1.free
  clear b hbq
  go_wp2
  refine bodyPost_ret (v := .int .u8 0) (by simp [results, Try.results41, go_sem, hqc]) rfl ⟨rfl, hfin.out⟩
set_option maxHeartbeats 400000 in
theorem numberR_nil (z : Int) (w : World) : Calls Try.prog 42 #[.pointer none, .int .i64 z] w fun e w' => e = .returned (.int .u64 0) ∧ Below w.heap.size w w' := by
  have hmf : ∀ (fn : Fn) (first cap : Array Value) (w : World), (Instr.makeFunc fn first cap).run Try.prog w = .ok (.func fn first cap) w := fun _ _ _ _ => rfl
  go_enter Try.func42, Try.ntmps42
  go_wp2_with fail
  have hbq := box3 w (.cells #[.pointer none] 50) (.cells #[.int .i64 z] 3) 30 (.int .u64 0)
  refine (field_nil 95 _ _).mono ?_
  rintro e w1 ⟨rfl, b⟩
  have h1 := hbq.below b hbq.lt
  have hfin := Lib.hid (bset (bt (b3alloc w _ _ _) b) (o := 0) (show w.heap.size ≤ w.heap.size + 2 by omega) (.int .u64 0))
  have hqc := h1.cell
  have hqf := h1.free
  clear b hbq
  go_wp2
  refine bodyPost_ret (v := .int .u64 0) (by simp [results, Try.results42, go_sem, hqc]) rfl ⟨rfl, hfin.out⟩
set_option maxHeartbeats 400000 in
theorem bytesR_nil (z : Int) (w : World) : Calls Try.prog 43 #[.pointer none, .int .i64 z] w fun e w' => e = .returned (.slice none 0 0) ∧ Below w.heap.size w w' := by
  have hmf : ∀ (fn : Fn) (first cap : Array Value) (w : World), (Instr.makeFunc fn first cap).run Try.prog w = .ok (.func fn first cap) w := fun _ _ _ _ => rfl
  go_enter Try.func43, Try.ntmps43
  go_wp2_with fail
  have hbq := box3 w (.cells #[.pointer none] 50) (.cells #[.int .i64 z] 3) 26 (.slice none 0 0)
  refine (field_nil 97 _ _).mono ?_
  rintro e w1 ⟨rfl, b⟩
  have h1 := hbq.below b hbq.lt
  have hfin := Lib.hid (bset (bt (b3alloc w _ _ _) b) (o := 0) (show w.heap.size ≤ w.heap.size + 2 by omega) (.slice none 0 0))
  have hqc := h1.cell
  have hqf := h1.free
  clear b hbq
  go_wp2
  refine bodyPost_ret (v := .slice none 0 0) (by simp [results, Try.results43, go_sem, hqc]) rfl ⟨rfl, hfin.out⟩
end Go.Proofs.Ytdkcdojcglmlbaa.Nil
