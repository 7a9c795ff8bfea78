/- The epochs that are kept: Kept; is a number among them. -/
import Derived.Test.YtdkcdojcglmlbaaCollect
namespace Go.Proofs.Ytdkcdojcglmlbaa.Pol
open Go.RowKit Go.Shelf
set_option linter.unusedVariables false
set_option maxRecDepth 100000
theorem epochs_any (e o s : Int) (t : List UInt8) (w : World) : Calls Try.prog 110 #[hdr e o s t] w fun E w' => E = .returned (.func (.func 135) #[] #[.pointer (some ⟨w.heap.size, 0, none⟩)]) ∧
    Bl w' w.heap.size 42 [.int .i64 e, .int .i64 o, .int .i64 s, .string ⟨t.toArray⟩] ∧ Below w.heap.size w w' := by
  unfold hdr
  go_enter Try.func110, Try.ntmps110
  go_wp2
  go_ret
  exact ⟨rfl, heap_alloc_new w _, b1alloc _ _⟩
theorem collect_any (H : Nat) (e o s : Int) (t : List UInt8) (ht : t.length ≤ 300) (w : World) (hH : Bl w H 42 [.int .i64 e, .int .i64 o, .int .i64 s, .string ⟨t.toArray⟩]) (hm : keptN e o s t ≤ 100000) :
    Calls Try.prog 109 #[.func (.func 135) #[] #[.pointer (some ⟨H, 0, none⟩)]] w fun E w' => ∃ v, E = .returned v ∧ w'.ownsRow w.heap.size 3 1 v (keptL e o s t).length ((keptL e o s t).map (Value.int .i64)) ∧ Below w.heap.size w w' := by
  have h := Lib.hid (appendSeq_any H e o s t ht w hH hm)
  obtain ⟨L, hL⟩ : ∃ L, L = keptL e o s t := ⟨_, rfl⟩
  rw [← hL] at h ⊢
  clear hL hH
  go_enter Try.func109, Try.ntmps109
  go_wp2_with (go_at_call 134; refine (h.out).mono ?_; rintro e1 w1 ⟨v1, rfl, own1, b1⟩)
  go_ret
  exact ⟨_, rfl, own1, b1⟩
theorem kept_any (e o s : Int) (t : List UInt8) (ht : t.length ≤ 300) (w : World) (hm : keptN e o s t ≤ 100000) :
    Calls Try.prog 55 #[hdr e o s t] w fun E w' => ∃ v, E = .returned v ∧ w'.ownsRow w.heap.size 3 1 v (keptL e o s t).length ((keptL e o s t).map (Value.int .i64)) ∧ Below w.heap.size w w' := by
  have h1 := fun w => epochs_any e o s t w
  have h2 := fun H w hH => collect_any H e o s t ht w hH hm
  obtain ⟨L, hL⟩ : ∃ L, L = keptL e o s t := ⟨_, rfl⟩
  simp only [← hL] at h2
  rw [← hL]
  clear hL
  unfold hdr at h1 ⊢
  have H1 := Lib.hid h1
  have H2 := Lib.hid h2
  clear h1 h2
  go_enter Try.func55, Try.ntmps55
  go_wp2_with (first
    | (go_at_call 110; refine (H1.out _).mono ?_; rintro e1 w1 ⟨rfl, hH1, b1'⟩; simp at hH1; have bb1 := bt (b1 _ _) b1')
    | (go_at_call 109; refine (H2.out _ _ hH1).mono ?_; rintro e2 w2 ⟨v2, rfl, own2, b2⟩))
  go_ret
  exact ⟨_, rfl, own_base own2 bb1.size, bt bb1 b2⟩
end Go.Proofs.Ytdkcdojcglmlbaa.Pol
