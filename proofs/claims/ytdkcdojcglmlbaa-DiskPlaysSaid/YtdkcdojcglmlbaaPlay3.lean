/- DiskPlays: what one round leaves behind, once the law's own copy is turned. -/
import Derived.Test.YtdkcdojcglmlbaaPlay2
namespace Go.Proofs.Ytdkcdojcglmlbaa.Disk
open Go.ChangeShapes Go.WideShapes Go.ChangeAt Go.RowKit Go.Joins
set_option linter.unusedVariables false
theorem RAt.rows {w : World} {fp : List Nat} {s : St} {n vk vw vh f c d : Value} (h : RAt w fp (.agg #[n, vk, vw, vh, f, c, d]) s) : WRow w fp vk s.all ∧ WRow w fp vw s.pend ∧ WRow w fp vh s.all := by
  obtain ⟨a, b, e, h1, h2, h3, h4⟩ := h
  simp only [rvL, Value.agg.injEq, List.toArray, Array.mk.injEq, List.cons.injEq] at h1
  obtain ⟨_, rfl, rfl, rfl, _⟩ := h1
  exact ⟨h2, h3, h4⟩
theorem mid_end {w wr we wf : World} {g T7 : Nat} {fq fq5 : List Nat} {s5 : St} {u0 u1 u2 u3 u4 u5 u6 v0 v1 v2 v3 v4 v5 v6 : Value} (z7 : BlkT we T7 108 [u0, u1, u2, u3, u4, u5, u6])
    (hX5 : RAt we (T7 :: fq5) (.agg #[v0, v1, v2, v3, v4, v5, v6]) s5) (hDw : DAt we g fq5 s5) (kW : Keep fq wr we) (fW : Fresh wr fq fq5) (hn7 : T7 ∉ fq5) (hge : ∀ j ∈ fq, w.heap.size ≤ j) (bel : Below w.heap.size w wr) (hT : w.heap.size ≤ T7)
    (he : wf = ((((((we.setCell ⟨T7, 0, none⟩ v0).setCell ⟨T7, 1, none⟩ v1).setCell ⟨T7, 2, none⟩ v2).setCell ⟨T7, 3, none⟩ v3).setCell ⟨T7, 4, none⟩ v4).setCell ⟨T7, 5, none⟩ v5).setCell ⟨T7, 6, none⟩ v6) :
    BlkT wf T7 108 [v0, v1, v2, v3, v4, v5, v6] ∧ RAt wf (T7 :: fq5) (.agg #[v0, v1, v2, v3, v4, v5, v6]) s5 ∧ DAt wf g fq5 s5 ∧ Below w.heap.size w wf ∧ (∀ j ∈ fq5, w.heap.size ≤ j) := by
  obtain ⟨j1, j2, j3, j4⟩ := seven_set (fq := [T7]) z7 (by simp) v0 v1 v2 v3 v4 v5 v6 wf he
  have bE : Below w.heap.size w we := bel.trans (kW.below hge bel.size)
  refine ⟨j1, hX5.keep (fp' := T7 :: fq5) (j3.more (fun j hj => by rw [List.mem_singleton] at hj; simp [hj])) (Fresh.refl _ _), hDw.keep j3 (fun j hj e => by rw [List.mem_singleton] at e; subst e; exact hn7 hj), j4 _ _ bE hT, fW.ge hge bel.size⟩
theorem three_of {wf W : World} {T7 : Nat} {t : TypeId} {v0 v1 v2 v3 v4 v5 v6 : Value} (h : BlkT wf T7 t [v0, v1, v2, v3, v4, v5, v6]) (b : Below wf.heap.size wf W) : W.cell? ⟨T7, 2, none⟩ = some v2 ∧ W.cell? ⟨T7, 5, none⟩ = some v5 ∧ W.cell? ⟨T7, 6, none⟩ = some v6 := by
  have h' : BlkT W T7 t [v0, v1, v2, v3, v4, v5, v6] := (b.block _ (lt_of_block h)).trans h
  obtain ⟨_, _, h2, _, _, h5, h6, _⟩ := sevenT h'
  exact ⟨h2, h5, h6⟩
end Go.Proofs.Ytdkcdojcglmlbaa.Disk
