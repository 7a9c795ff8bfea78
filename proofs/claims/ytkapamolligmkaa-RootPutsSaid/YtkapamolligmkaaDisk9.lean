/- The walks of disk.History and disk.Pending. -/
import Derived.Test.YtkapamolligmkaaDisk8
import Derived.Test.YtkapamolligmkaaSlices
namespace Go.Proofs.Ytkapamolligmkaa.Disk
open Go.RowKit
set_option linter.unusedVariables false
set_option maxRecDepth 100000

theorem undrew {B : Nat} {w w' : World} (h : Below B w.drew w') : Below B w w' := ⟨h.os, h.tape, h.output, h.size, h.block⟩
/-- an element of a new slice of writes: a place, and a slice of bytes that lie in a block of their own -/
def Ent (w : World) (n0 : Nat) (x : Wr) (u0 u1 : Value) : Prop := u0 = .int .i64 (x.1 : Int) ∧ ∃ b off c cs t, u1 = .slice (some ⟨b, off, none⟩) x.2.length c ∧ n0 ≤ b ∧ x.2.length ≤ c ∧ c ≤ maxLen ∧ w.heap[b]? = some (.cells cs t (0, 0)) ∧ 110 ≠ t ∧ w.rangeAt b off (x.2.map e8)
def Ents (w : World) (n0 : Nat) (l : List Wr) (acs : List Value) : Prop := ∀ i (h : i < l.length), ∃ u0 u1, acs[i * 2]? = some u0 ∧ acs[i * 2 + 1]? = some u1 ∧ Ent w n0 l[i] u0 u1
/-- a new slice of writes comes back -/
def NewW (w w' : World) (l : List Wr) (v : Value) : Prop := ∃ acs, w'.ownsRow w.heap.size 110 2 v l.length acs ∧ Ents w' w.heap.size l acs
theorem Ent.turn {w w' : World} {n0 : Nat} {x : Wr} {u0 u1 : Value} (h : Ent w n0 x u0 u1) (hb : ∀ (j : Nat) (cs : Array Value) (t : TypeId), w.heap[j]? = some (Obj.cells cs t (0, 0)) → 110 ≠ t → w'.heap[j]? = w.heap[j]?) : Ent w' n0 x u0 u1 := by
  obtain ⟨rfl, b, off, c, cs, t, h1, h2, h3, h4, h5, h6, h7⟩ := h
  exact ⟨rfl, b, off, c, cs, t, h1, h2, h3, h4, (hb b cs t h5 h6).trans h5, h6, fun j v hv => (World.cell?_of_block (hb b cs t h5 h6)).trans (h7 j v hv)⟩
theorem Ents.turn {w w' : World} {n0 : Nat} {l : List Wr} {acs : List Value} (h : Ents w n0 l acs) (hb : ∀ (j : Nat) (cs : Array Value) (t : TypeId), w.heap[j]? = some (Obj.cells cs t (0, 0)) → 110 ≠ t → w'.heap[j]? = w.heap[j]?) : Ents w' n0 l acs := fun i hi => by
  obtain ⟨u0, u1, h1, h2, h3⟩ := h i hi
  exact ⟨u0, u1, h1, h2, h3.turn hb⟩
theorem Ents.on {w w' : World} {n0 : Nat} {l : List Wr} {acs : List Value} (h : Ents w n0 l acs) (b : Below w.heap.size w w') : Ents w' n0 l acs := h.turn fun j cs t hj _ => b.block j (lt_of_block hj)
theorem Ents.grown {w w' : World} {n0 n base : Nat} {l : List Wr} {acs : List Value} {v : Value} {xs : List Value} (h : Ents w n0 l acs) (ho : w.ownsRow base 110 2 v n xs) (hg : w.grownBy w' v.ownBlock) : Ents w' n0 l acs :=
  h.turn fun j cs t hj ht => hg.block j (lt_of_block hj) (fun e => own_type ho hj ht e.symm)
theorem Ent.on {w w' : World} {n0 : Nat} {x : Wr} {u0 u1 : Value} (h : Ent w n0 x u0 u1) (b : Below w.heap.size w w') : Ent w' n0 x u0 u1 := h.turn fun j cs t hj _ => b.block j (lt_of_block hj)
theorem Ent.grown {w w' : World} {n0 n base : Nat} {x : Wr} {u0 u1 : Value} {v : Value} {xs : List Value} (h : Ent w n0 x u0 u1) (ho : w.ownsRow base 110 2 v n xs) (hg : w.grownBy w' v.ownBlock) : Ent w' n0 x u0 u1 :=
  h.turn fun j cs t hj ht => hg.block j (lt_of_block hj) (fun e => own_type ho hj ht e.symm)
theorem Ents.snoc {w : World} {n0 : Nat} {l : List Wr} {acs : List Value} {x : Wr} {u0 u1 : Value} (h : Ents w n0 l acs) (hl : acs.length = l.length * 2) (hx : Ent w n0 x u0 u1) : Ents w n0 (l ++ [x]) (acs ++ [u0, u1]) := fun i hi => by
  simp only [List.length_append, List.length_singleton] at hi
  by_cases e : i < l.length
  · obtain ⟨v0, v1, h1, h2, h3⟩ := h i e
    exact ⟨v0, v1, by rw [List.getElem?_append_left (by omega)]; exact h1, by rw [List.getElem?_append_left (by omega)]; exact h2, by simp only [List.getElem_append_left e]; exact h3⟩
  · obtain rfl : i = l.length := by omega
    exact ⟨u0, u1, by rw [List.getElem?_append_right (by omega)]; simp [hl], by rw [List.getElem?_append_right (by omega)]; simp [hl, Nat.add_sub_cancel_left], by simpa using hx⟩
theorem told_range {w : World} {g : Nat} {fp : List Nat} {s : St} {vk vp : Value} {acs : List Value} {ga ca : Nat} (h : Lies w g fp s vk vp (.slice (some ⟨ga, 0, none⟩) s.all.length ca) acs) (k : Nat) (hk : k < s.all.length) :
    ∃ b c, w.rangeAt ga (k * 2) [.int .i64 (s.all[k].1 : Int), .slice (some ⟨b, 0, none⟩) 512 c] ∧ BlkT w b 83 (s.all[k].2.map e8) := by
  obtain ⟨b, c, h1, h2, h3, _⟩ := h.told k hk
  refine ⟨b, c, own_range h.all (fun j hj => ?_), h3⟩
  match j, hj with
  | 0, _ => exact h1
  | 1, _ => exact h2
theorem Ent.own {w3 : World} {n0 base : Nat} {x : Wr} {A : Option Addr} {c : Nat} (h : w3.ownsRow base 5 1 (.slice A x.2.length c) x.2.length (x.2.map e8)) (hl : x.2.length = 512) (hb : n0 ≤ base) (hc : x.2.length ≤ c) (hcm : c ≤ maxLen) : Ent w3 n0 x (.int .i64 (x.1 : Int)) (.slice A x.2.length c) := by
  obtain ⟨g3, c3, e, hg⟩ := own_some h (by omega)
  injection e with e1 e2 e3
  subst e1 e3
  obtain ⟨cs, hcs⟩ := own_blk h
  exact ⟨rfl, g3, 0, c, cs, 5, rfl, by omega, hc, hcm, hcs, by decide, own_range h (fun j hj => by rw [Nat.zero_add])⟩
theorem own_caps {w : World} {base : Nat} {e : TypeId} {size n c : Nat} {A : Option Addr} {xs : List Value} (h : w.ownsRow base e size (.slice A n c) n xs) : n ≤ c ∧ c ≤ maxLen := by
  rcases h.2 with ⟨hv, _⟩ | ⟨g, cap, cur, hv, _, _, hnc, hcm, _⟩
  · injection hv with h1 h2 h3; subst h2 h3; exact ⟨Nat.le_refl _, by unfold maxLen; omega⟩
  · injection hv with h1 h2 h3; subst h3; exact ⟨hnc, hcm⟩
end Go.Proofs.Ytkapamolligmkaa.Disk
