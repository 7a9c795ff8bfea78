/- The law's do, for any act; what an act leaves in size. -/
import Derived.Test.YtdkcdojcglmlbaaDo3
namespace Go.Proofs.Ytdkcdojcglmlbaa.Disk
open Go.RowKit
set_option linter.unusedVariables false
theorem sz_act (s : St) (a : Act') : (act s a).sz ≤ s.sz + 2 := by
  unfold act
  split
  · exact sz_write _ _ _
  · split
    · exact Nat.le_trans (sz_flush s) (by omega)
    · split
      · omega
      · split
        · exact Nat.le_add_right _ _
        · split
          · exact Nat.le_trans (sz_restart _ _ _ _) (by omega)
          · exact Nat.le_trans (sz_put _ _ _) (by omega)
theorem size_act (s : St) (a : Act') : (act s a).size = s.size := by
  unfold act
  split
  · unfold write
    split
    · rfl
    · split
      · rfl
      · split
        · rfl
        · rw [(burn_lists _).2.2]
  · split
    · unfold flush
      split
      · rfl
      · split
        · exact (burn_lists s).2.2
        · exact (burn_lists s).2.2
    · split
      · rfl
      · split
        · rfl
        · split
          · rfl
          · unfold put
            split
            · rfl
            · split <;> rfl
theorem sz_acts : ∀ (l : List Act') (s : St), (l.foldl act s).sz ≤ s.sz + 2 * l.length
  | [], s => by simp
  | a :: l, s => by
    have h1 := sz_acts l (act s a)
    have h2 := sz_act s a
    rw [List.foldl_cons, List.length_cons]; omega
theorem size_acts : ∀ (l : List Act') (s : St), (l.foldl act s).size = s.size
  | [], s => rfl
  | a :: l, s => by rw [List.foldl_cons, size_acts l, size_act]
theorem do_any (w : World) (g : Nat) (fp : List Nat) (s : St) (x : Value) (y : Act') (Ak : Option Addr) (ck : Nat) (ex : List Nat) (hex : ∀ j ∈ ex, j < w.heap.size) (hD : DAt w g fp s) (hx : RAt w (ex ++ fp) x s) (hs : s.sz ≤ 900000) (hkr : RdN w fp Ak (y.keep.map (Value.int .i64))) (hkl : y.keep.length ≤ 20) (hs0 : 0 ≤ y.size) (hs1 : y.size ≤ 600) (hok : y.ok) :
    Calls Try.prog 66 #[.pointer (some ⟨g, 0, none⟩), x, .agg #[.int .i64 y.kind, .int .i64 y.place, .int .i64 y.size, .int .i64 y.n, .int .i64 y.at', .int .u8 (y.fill.toNat : Int), .slice Ak y.keep.length ck]] w (Done w g ex fp (act s y)) := by
  obtain ⟨kind, place, size, nn, at', fill, keep⟩ := y
  obtain ⟨_, h1, h2, h3, h4, h5⟩ := hok
  simp only [] at hkr hkl hs0 hs1 h1 h2 h3 h4 h5 ⊢
  by_cases k0 : kind = 0
  · subst k0
    exact do0 w g fp s x place size nn at' fill keep Ak ck ex hex hD hx hs hkr hkl hs0 hs1 h1 h3 h4 h5
  by_cases k1 : kind = 1
  · subst k1
    exact do1 w g fp s x place size nn at' fill keep Ak ck ex hex hD hx hs hkr hkl hs0 hs1 h1 h3 h4 h5
  by_cases k2 : kind = 2
  · subst k2
    exact do2 w g fp s x place size nn at' fill keep Ak ck ex hex hD hx hs hkr hkl hs0 hs1 h1 h3 h4 h5
  by_cases k3 : kind = 3
  · subst k3
    exact do3 w g fp s x place size nn at' fill keep Ak ck ex hex hD hx hs hkr hkl hs0 hs1 h1 h3 h4 h5
  by_cases k4 : kind = 4
  · subst k4
    exact do4 w g fp s x place size nn at' fill keep Ak ck ex hex hD hx hs hkr hkl hs0 hs1 h1 h3 h4 h5
  have hact : act s ⟨kind, place, size, nn, at', fill, keep⟩ = (put s place (List.replicate size.toNat fill)).1 := by unfold act; simp [k0, k1, k2, k3, k4]
  rw [hact]
  exact do5 w g fp s x kind place size nn at' fill keep Ak ck ex hex hD hx hs hkr hkl hs0 hs1 h1 h3 h4 h5 k0 k1 k2 k3 k4
end Go.Proofs.Ytdkcdojcglmlbaa.Disk
