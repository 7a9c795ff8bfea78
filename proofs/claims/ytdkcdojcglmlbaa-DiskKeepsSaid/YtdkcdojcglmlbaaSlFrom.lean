/- 'x[m:]' of bytes, up to its very end. -/
import Derived.Test.YtdkcdojcglmlbaaBase
import Derived.Test.YtdkcdojcglmlbaaRows
import Derived.Outline
namespace Go.Proofs.Ytdkcdojcglmlbaa
open Go.RowKit
set_option linter.unusedVariables false
theorem slice_from (b off : Nat) (n c m : Nat) (hm : m ≤ n) (hc : n ≤ c) (hcm : c ≤ maxLen) : ∃ B, (B = some ⟨b, off + m, none⟩ ∨ (m = c ∧ n = m)) ∧ ∀ W : World, (Instr.slice 26 (.slice (some ⟨b, off, none⟩) n c) (some (.int .i64 (m : Int))) none none).run Try.prog W = .ok (.slice B (n - m) (c - m)) W := by
  unfold maxLen at hcm
  have h1 : (m : Int) ≤ (n : Int) := by omega
  have h2 : (n : Int) ≤ (c : Int) := by omega
  have h3 : (m : Int) ≤ (c : Int) := by omega
  by_cases h : m = c
  · have hn : n = m := by omega
    subst h hn
    refine ⟨some ⟨b, off, none⟩, .inr ⟨rfl, rfl⟩, fun W => ?_⟩
    simp [Instr.slice, run_underlying Try.underlying26, go_sem, h1]
  · have hc2 : ¬ c = m := by omega
    refine ⟨some ⟨b, off + m, none⟩, .inl rfl, fun W => ?_⟩
    simp [Instr.slice, run_underlying Try.underlying26, go_sem, h1, h3, hc2, h]
end Go.Proofs.Ytdkcdojcglmlbaa
