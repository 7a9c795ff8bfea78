/- The walk of disk.Write. -/
import Derived.Test.YtkapamolligmkaaDisk2
import Derived.Test.YtkapamolligmkaaSteps
namespace Go.Proofs.Ytkapamolligmkaa.Disk
open Go.RowKit
set_option linter.unusedVariables false
set_option maxRecDepth 100000

/-- what a method does that tells a fault -/
def Did (w : World) (g : Nat) (fp : List Nat) (r : St × Int) (e : Ending) (w' : World) : Prop := e = .returned (.int .i64 r.2) ∧ ∃ fp', DAt w' g fp' r.1 ∧ Keep fp w w' ∧ Fresh w fp fp'
theorem Did.same {w : World} {g : Nat} {fp : List Nat} {r : St × Int} {f : Int} (h : DAt w g fp r.1) (hf : f = r.2) : Did w g fp r (.returned (.int .i64 f)) w := ⟨by rw [hf], fp, h, Keep.refl _ _, Fresh.refl _ _⟩
theorem wcells_len {x : Wr} (h : x.2.length = 512) : (wcells x).length = 513 := by simp [wcells, h]
theorem wcells_one (x : Wr) : ∀ v ∈ wcells x, v.oneCell' = true := by
  intro v hv
  simp only [wcells, List.mem_cons] at hv
  rcases hv with rfl | hv
  · rfl
  · exact e8_one _ v hv
theorem infoW : (Try.prog.info? 89).map (fun i => (i.zero, i.size, i.bytes)) = some (some (arrV (wcells (0, zero512))), 513, 520) := by kernel_rfl
theorem built_wait (p : Int) (b : List UInt8) (hb : b.length = 512) (w : World) : (Instr.build 89 #[(0, .int .i64 p), (1, .agg (b.map e8).toArray)]).run Try.prog w = .ok (arrV (.int .i64 p :: b.map e8)) w := by
  refine run_build w _ _ _ ?_
  have h1 : Try.prog.built 89 [(0, .int .i64 p), (1, .agg (b.map e8).toArray)] = Instr.fill ((#[(0, 1), (1, 512)] : Array (Nat × Nat))[·]?) (arrV (wcells (0, zero512))).cells [(0, .int .i64 p), (1, .agg (b.map e8).toArray)] := by kernel_rfl
  show Try.prog.built 89 [(0, .int .i64 p), (1, .agg (b.map e8).toArray)] = _
  rw [h1, fill_two _ _ _ _ (by rfl) (by simp [Value.cells, hb]) (by simp [Value.cells, arrV, wcells, zero512, hb])]
  simp [Value.cells]
theorem arrayAt_any (A : Option Addr) (c : Nat) (w : World) : (Instr.arrayAt 83 (.slice A 512 c)).run Try.prog w = .ok (.pointer A) w := by
  simp [Instr.arrayAt, run_underlying Try.underlying83, go_sem]
/-- a pending write more -/
theorem push_fin {g g3 c3 : Nat} {fp : List Nat} {s : St} {vk vp va : Value} {acs : List Value} {x : Wr} {w w3 : World} (h : Lies w g fp s vk vp va acs)
    (own3 : w3.ownsRow 0 89 513 (.slice (some ⟨g3, 0, none⟩) (s.pend.length + 1) c3) (s.pend.length + 1) (pcells s.pend ++ wcells x)) (hg3 : w.grownBy w3 vp.ownBlock)
    (hat : (Value.slice (some ⟨g3, 0, none⟩) (s.pend.length + 1) c3).ownBlock = vp.ownBlock ∨ (Value.slice (some ⟨g3, 0, none⟩) (s.pend.length + 1) c3).ownBlock = some (w.heap.size + 1)) (hx : okW s.size x) :
    ∃ fp', Lies (w3.setCell ⟨g, 1, none⟩ (.slice (some ⟨g3, 0, none⟩) (s.pend.length + 1) c3)) g fp' { s with pend := s.pend ++ [x] } vk (.slice (some ⟨g3, 0, none⟩) (s.pend.length + 1) c3) va acs ∧ Keep fp w (w3.setCell ⟨g, 1, none⟩ (.slice (some ⟨g3, 0, none⟩) (s.pend.length + 1) c3)) ∧ Fresh w fp fp' := by
  obtain ⟨v3, hv3⟩ : ∃ v3, v3 = Value.slice (some ⟨g3, 0, none⟩) (s.pend.length + 1) c3 := ⟨_, rfl⟩
  have hv3b : v3.ownBlock = some g3 := by rw [hv3]; rfl
  rw [← hv3] at own3 hat ⊢
  have k3 : Keep fp w w3 := Keep.of_grown hg3 (fun j e => h.inP j e)
  have k34 : Keep fp w3 (w3.setCell ⟨g, 1, none⟩ v3) := (Keep.refl fp w3).set (.inl h.inG) _
  have k14 := k3.trans k34 (Fresh.refl _ _)
  have hPg := own_type h.pend h.blk (by decide)
  have hAg := own_type h.all h.blk (by decide)
  have hKg := own_type h.kept h.blk (by decide)
  have hgl := lt_of_block h.blk
  have e3 : w3.heap[g]? = _ := (hg3.block g hgl (fun e => hPg e.symm)).trans h.blk
  have h3g := own_type own3 e3 (by decide)
  have hown : ∀ {v : Value} {e : TypeId} {size n : Nat} {xs : List Value}, w.ownsRow 0 e size v n xs → 89 ≠ e → v.ownBlock ≠ some g → (w3.setCell ⟨g, 1, none⟩ v3).ownsRow 0 e size v n xs := fun {v e size n xs} ho hne hng =>
    own_grown (own_grown ho hg3 (fun k hk e2 => by
      rcases ho.2 with ⟨hv, _⟩ | ⟨q, cap, cur, hv, _, hh, _⟩
      · rw [hv] at hk; simp [Value.ownBlock] at hk
      · have : q = k := by rw [hv] at hk; simpa [Value.ownBlock] using hk
        subst this
        exact own_type h.pend hh hne e2)) (grown_set _ _ _) (fun k hk e2 => hng (by rw [hk]; exact e2.symm))
  refine ⟨g3 :: fp, ⟨?_, hown h.kept (by decide) hKg, ?_, hown h.all (by decide) hAg, ?_, by simp [h.inG], fun j hj => by simp [h.inK j hj], fun j hj => by rw [hv3b] at hj; injection hj with hj; simp [hj], fun j hj => by simp [h.inA j hj], ?_, ?_⟩, k14, ?_⟩
  · simp [World.setCell, Array.getElem?_modify, e3]
  · have hpc : pcells (s.pend ++ [x]) = pcells s.pend ++ wcells x := by simp [pcells]
    rw [hpc]
    simp only [List.length_append, List.length_singleton]
    exact own_grown own3 (grown_set _ _ _) (fun k hk e => h3g (by rw [hk]; exact e.symm))
  · intro i hi
    obtain ⟨q, c, q1, q2, q3, q4, q5, q6, q7⟩ := h.told i hi
    refine ⟨q, c, q1, q2, ?_, by simp [q4], q5, q6, q7⟩
    refine (heap_setCell_other w3 _ q v3 ?_).trans ((hg3.block q (h.lt q q4) (fun e => own_type h.pend q3 (by decide) e.symm)).trans q3)
    intro e
    have e' : q = g := e
    subst e'
    have := h.blk
    unfold BlkT at q3
    rw [q3] at this
    injection this with this
    injection this with e1 e2 e3
    exact absurd e2 (by decide)
  · intro j hj
    simp only [List.mem_cons] at hj
    rcases hj with rfl | hj
    · have hs4 : (w3.setCell ⟨g, 1, none⟩ v3).heap.size = w3.heap.size := by simp [World.setCell]
      rw [hs4]; exact (own3.lt _ hv3b).2
    · exact Nat.lt_of_lt_of_le (h.lt j hj) k14.size
  · exact ⟨h.ok.size, fun y hy => by
      rcases List.mem_append.1 hy with hy | hy
      · exact h.ok.pend y hy
      · rw [List.mem_singleton] at hy; subst hy; exact hx, h.ok.all, h.ok.fuse⟩
  · intro j hj
    simp only [List.mem_cons] at hj
    rcases hj with rfl | hj
    · rcases hat with e | e
      · rw [hv3b] at e; exact .inl (h.inP _ e.symm)
      · rw [hv3b] at e; injection e with e; exact .inr (by omega)
    · exact .inl hj
end Go.Proofs.Ytkapamolligmkaa.Disk
