/- What pending and history tell, as rows that are read. -/
import Derived.Test.YtdkcdojcglmlbaaDo4
import Derived.Test.YtdkcdojcglmlbaaRDisk6
import Derived.Test.YtdkcdojcglmlbaaOpenAct
namespace Go.Proofs.Ytdkcdojcglmlbaa.Disk
open Go.RowKit
set_option linter.unusedVariables false
set_option maxRecDepth 100000
theorem NewW.row {w w' : World} {l : List Wr} {v : Value} (h : NewW w w' l v) : WRow w' [] v l := by
  obtain ⟨acs, own, hE⟩ := h
  obtain ⟨A, c, rfl⟩ := own_form own
  have hone : ∀ u ∈ acs, u.oneCell' = true := by
    intro u hu
    obtain ⟨j, hj, rfl⟩ := List.getElem_of_mem hu
    have hlen : acs.length = l.length * 2 := own.1
    obtain ⟨u0, u1, h0, h1, hEnt⟩ := hE (j / 2) (by omega)
    obtain ⟨e0, b, off, cc, cs, t, e1, _⟩ := hEnt
    rcases Nat.mod_two_eq_zero_or_one j with e | e
    · have : j / 2 * 2 = j := by omega
      rw [this, List.getElem?_eq_getElem hj] at h0
      injection h0 with h0
      rw [h0, e0]; rfl
    · have : j / 2 * 2 + 1 = j := by omega
      rw [this, List.getElem?_eq_getElem hj] at h1
      injection h1 with h1
      rw [h1, e1]; rfl
  refine ⟨A, c, acs, rfl, (own_caps own).1, (own_caps own).2, own.1, hone, RdN.own2 own (by simp), fun i hi => ?_⟩
  obtain ⟨u0, u1, h0, h1, hEnt⟩ := hE i hi
  obtain ⟨e0, b, off, cc, cs, t, e1, _, hc1, hc2, hb, _, hrg⟩ := hEnt
  subst e0 e1
  exact ⟨_, cc, h0, h1, hc1, hc2, fun _ => ⟨b, off, rfl, lt_of_block hb, by simp, fun j hj => hrg j _ (List.getElem?_eq_getElem hj)⟩⟩
end Go.Proofs.Ytdkcdojcglmlbaa.Disk
