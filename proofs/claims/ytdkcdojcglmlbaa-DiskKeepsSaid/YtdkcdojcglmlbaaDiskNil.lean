/- What a disk that is nil says. -/
import Derived.Test.YtdkcdojcglmlbaaKo3
namespace Go.Proofs.Ytdkcdojcglmlbaa.Disk
open Go.RowKit
set_option linter.unusedVariables false
set_option maxRecDepth 100000
theorem go_any (w : World) (g : Nat) (fp : List Nat) (s t : St) (x : Value) (y : Act') (Ak : Option Addr) (ck : Nat) (hD : DAt w g fp s) (hx : RAt w fp x t) (hokt : ok t) (ht : t.sz ≤ 900000) (hs : s.sz ≤ 900000) (hkr : RdN w fp Ak (y.keep.map (Value.int .i64))) (hkl : y.keep.length ≤ 20) (hs0 : 0 ≤ y.size) (hs1 : y.size ≤ 600) (hok : y.ok) :
    Calls Try.prog 66 #[.pointer (some ⟨g, 0, none⟩), x, .agg #[.int .i64 y.kind, .int .i64 y.place, .int .i64 y.size, .int .i64 y.n, .int .i64 y.at', .int .u8 (y.fill.toNat : Int), .slice Ak y.keep.length ck]] w (Gone w g fp (act s y)) := by
  obtain ⟨kind, place, size, nn, at', fill, keep⟩ := y
  obtain ⟨_, h1, h2, h3, h4, h5⟩ := hok
  simp only [] at hkr hkl hs0 hs1 h1 h2 h3 h4 h5 ⊢
  have hx : RAt w ([] ++ fp) x t := hx
  have hex : ∀ j ∈ ([] : List Nat), j < w.heap.size := fun j hj => by cases hj
  by_cases k0 : kind = 0
  · subst k0
    exact go0 w g fp s t x place size nn at' fill keep Ak ck [] hex hD hx hokt ht hs hkr hkl hs0 hs1 h1 h3 h4 h5
  by_cases k1 : kind = 1
  · subst k1
    exact go1 w g fp s t x place size nn at' fill keep Ak ck [] hex hD hx hokt ht hs hkr hkl hs0 hs1 h1 h3 h4 h5
  by_cases k2 : kind = 2
  · subst k2
    by_cases hff : ((read t place).2 == (read s place).2) = true
    · exact go2a w g fp s t x place size nn at' fill keep Ak ck [] hex hD hx hokt ht hs hkr hkl hs0 hs1 h1 h3 h4 h5 hff
    · exact go2b w g fp s t x place size nn at' fill keep Ak ck [] hex hD hx hokt ht hs hkr hkl hs0 hs1 h1 h3 h4 h5 (by simpa using hff)
  by_cases k3 : kind = 3
  · subst k3
    exact go3 w g fp s t x place size nn at' fill keep Ak ck [] hex hD hx hokt ht hs hkr hkl hs0 hs1 h1 h3 h4 h5
  by_cases k4 : kind = 4
  · subst k4
    exact go4 w g fp s t x place size nn at' fill keep Ak ck [] hex hD hx hokt ht hs hkr hkl hs0 hs1 h1 h3 h4 h5
  have hact : act s ⟨kind, place, size, nn, at', fill, keep⟩ = (put s place (List.replicate size.toNat fill)).1 := by unfold act; simp [k0, k1, k2, k3, k4]
  rw [hact]
  exact go5 w g fp s t x kind place size nn at' fill keep Ak ck [] hex hD hx hokt ht hs hkr hkl hs0 hs1 h1 h3 h4 h5 k0 k1 k2 k3 k4
theorem size_nil (w : World) : Calls Try.prog 69 #[.pointer none] w fun e w' => e = .returned (.int .i64 0) ∧ Below w.heap.size w w' := by
  go_enter Try.func69, Try.ntmps69
  go_wp2
  go_ret
  exact ⟨rfl, Below.refl _ _⟩
theorem calls_nil (w : World) : Calls Try.prog 68 #[.pointer none] w fun e w' => e = .returned (.int .i64 0) ∧ Below w.heap.size w w' := by
  go_enter Try.func68, Try.ntmps68
  go_wp2
  go_ret
  exact ⟨rfl, Below.refl _ _⟩
theorem write_nil (p : Int) (w : World) : Calls Try.prog 34 #[.pointer none, .int .i64 p, .slice none 0 0] w fun e w' => e = .returned (.int .i64 1) ∧ Below w.heap.size w w' := by
  go_enter Try.func34, Try.ntmps34
  go_wp2_with (first | (go_at_call 67; refine (down_nil _).mono ?_; rintro e w1 ⟨rfl, rfl⟩) | (go_at_call 87; refine (asked_nil _ _).mono ?_; rintro e w1 ⟨rfl, rfl⟩))
  go_ret
  exact ⟨rfl, Below.refl _ _⟩
theorem flush_nil (w : World) : Calls Try.prog 73 #[.pointer none] w fun e w' => e = .returned (.int .i64 1) ∧ Below w.heap.size w w' := by
  go_enter Try.func73, Try.ntmps73
  go_wp2
  go_ret
  exact ⟨rfl, Below.refl _ _⟩
theorem put_nil (p : Int) (w : World) : Calls Try.prog 32 #[.pointer none, .int .i64 p, .slice none 0 0] w fun e w' => e = .returned (.int .i64 1) ∧ Below w.heap.size w w' := by
  go_enter Try.func32, Try.ntmps32
  go_wp2_with (first | (go_at_call 87; refine (asked_nil _ _).mono ?_; rintro e w1 ⟨rfl, rfl⟩))
  go_ret
  exact ⟨rfl, Below.refl _ _⟩
theorem read_nil (p : Int) (w : World) : Calls Try.prog 75 #[.pointer none, .int .i64 p] w fun e w' => e = .returned (.tuple #[.slice none 0 0, .int .i64 1]) ∧ Below w.heap.size w w' := by
  go_enter Try.func75, Try.ntmps75
  go_wp2_with fail
  go_step3
  go_wp2_with (first | (go_at_call 67; refine (down_nil _).mono ?_; rintro e w1 ⟨rfl, rfl⟩) | (go_at_call 87; refine (asked_nil _ _).mono ?_; rintro e w1 ⟨rfl, rfl⟩))
  rw [Exit.noGoto_ret]
  refine bodyPost_ret (v := .tuple #[.slice none 0 0, .int .i64 1]) (by simp [results, Try.results75, go_sem]) rfl ?_
  exact ⟨rfl, b3alloc _ _ _ _⟩
theorem restart_nil (w : World) : Calls Try.prog 35 #[.pointer none, .slice none 0 0, .int .i64 0, .int .i64 0] w fun e w' => e = .returned (.tuple #[]) ∧ Below w.heap.size w w' := by
  go_enter Try.func35, Try.ntmps35
  go_wp2
  refine bodyPost_ret (results_none rfl _ _ _) rfl ?_
  exact ⟨rfl, b1alloc _ _⟩
theorem history_nil (w : World) : Calls Try.prog 37 #[.pointer none] w fun e w' => e = .returned (.slice none 0 0) ∧ Below w.heap.size w w' := by
  go_enter Try.func37, Try.ntmps37
  go_wp2
  go_ret
  exact ⟨rfl, Below.refl _ _⟩
theorem pending_nil (w : World) : Calls Try.prog 71 #[.pointer none] w fun e w' => e = .returned (.slice none 0 0) ∧ Below w.heap.size w w' := by
  go_enter Try.func71, Try.ntmps71
  go_wp2
  go_ret
  exact ⟨rfl, Below.refl _ _⟩
end Go.Proofs.Ytdkcdojcglmlbaa.Disk
