/- What was summed: a map of texts to their numbers, as a list of texts in their order. -/
import Derived.Test.YtkapamolligmkaaSec6
import Derived.Maps.OwnSet
import Derived.Maps.Views
import Derived.StringKeys
namespace Go.Proofs.Ytkapamolligmkaa.Sec
open Go.RowKit
open Go.Proofs.Ytkapamolligmkaa.Num (putL getN)
set_option linter.unusedVariables false
set_option maxRecDepth 100000
/-- block b is a map in which each text of l has its place in l -/
def SumsAt (w : World) (b : Nat) (l : List (List UInt8)) : Prop := ∃ (n : Nat) (D : DataW Unit), w.ownsMap Try.prog 9 (plainElem Try.prog 3) b n D ∧ n ≤ l.length ∧ Maps.size D = l.length ∧ (∀ s, Maps.has D (.string s) = decide (s ∈ l)) ∧
  ∀ s, s ∈ l → D.atKey (.string s) (.lit (.int .i64 0)) = .lit (.int .i64 (l.idxOf s : Int))
theorem keyed : Maps.Keyed Try.prog 9 := Maps.string_keyed Try.underlying9
theorem key_of {l : List UInt8} (h : l.length ≤ 1000000) : keyOf Try.prog 9 (.string ⟨l.toArray⟩) = some (.string l) := by
  have := Go.WideMaps.keyOf_string_mk (P := Try.prog) Try.underlying9 (s := ⟨l.toArray⟩) (by simp [ByteArray.size, maxLen]; omega)
  simpa using this
theorem keyLit (s : List UInt8) : WideAt.IsKeyLit (.string s) := by simp [WideAt.IsKeyLit]
theorem zeroInt (w : World) : (zeroValue 3).run Try.prog w = .ok (.int .i64 0) w := by kernel_rfl
theorem SumsAt.made (w : World) : SumsAt (w.alloc (.map #[] 0)) w.heap.size [] :=
  ⟨0, _, World.ownsMap_made w _ _ _, Nat.le_refl _, rfl, fun s => by simp [Maps.has], fun s hs => by cases hs⟩
theorem SumsAt.lt {w : World} {b : Nat} {l : List (List UInt8)} (h : SumsAt w b l) : b < w.heap.size := by obtain ⟨n, D, h, _⟩ := h; exact h.lt
theorem SumsAt.kept {w w' : World} {b : Nat} {l : List (List UInt8)} {r : Option Nat} (h : SumsAt w b l) (g : w.grownBy w' r) (hne : some b ≠ r) : SumsAt w' b l := by
  obtain ⟨n, D, h, h2⟩ := h; exact ⟨n, D, h.kept g hne, h2⟩
theorem SumsAt.on {w w' : World} {b : Nat} {l : List (List UInt8)} (h : SumsAt w b l) (k : Below w.heap.size w w') : SumsAt w' b l := h.kept (below_grown k none) (by simp)
theorem SumsAt.look {w : World} {b : Nat} {l : List (List UInt8)} (h : SumsAt w b l) (T : List UInt8) (hT : T.length ≤ 1000000) :
    ∃ c : Int, (Instr.lookup 66 (.map (some b)) (.string ⟨T.toArray⟩) true).run Try.prog w = .ok (.tuple #[.int .i64 c, .bool (decide (T ∈ l))]) w ∧ (T ∈ l → c = (l.idxOf T : Int)) := by
  obtain ⟨n, D, h, hn, hs, hh, ha⟩ := h
  obtain ⟨v, ps, hrun, hv⟩ := h.look_ok keyed Try.underlying66 (zeroInt w) (plainElem_int Try.underlying3 (by decide)) (key_of hT)
  obtain ⟨c, rfl, hc, _⟩ := plainElem_int_inv Try.underlying3 hv
  rw [hh] at hrun
  refine ⟨c, hrun, fun hm => ?_⟩
  simp only [Prod.mk.injEq] at hc
  have h2 := hc.1
  rw [ha T hm] at h2
  injection h2 with h2
  injection h2 with h2 h3
  exact h3.symm
theorem SumsAt.len {w : World} {b : Nat} {l : List (List UInt8)} (h : SumsAt w b l) (ty : TypeId) : (Builtin.len_ #[66] ty #[.map (some b)]).run Try.prog w = .ok (.int .i64 (l.length : Int)) w := by
  obtain ⟨n, D, h, hn, hs, hh, ha⟩ := h
  rw [← hs]
  exact h.len Try.underlying66 ty
theorem SumsAt.put {w : World} {b : Nat} {l : List (List UInt8)} (h : SumsAt w b l) (T : List UInt8) (hT : T.length ≤ 1000000) (hn : T ∉ l) (hl : l.length ≤ 1000000) :
    ∃ w', (Instr.mapUpdate 66 (.map (some b)) (.string ⟨T.toArray⟩) (.int .i64 (l.length : Int))).run Try.prog w = .ok () w' ∧ SumsAt w' b (l ++ [T]) ∧ w.grownBy w' (some b) := by
  obtain ⟨n, D, h, hnl, hs, hh, ha⟩ := h
  obtain ⟨w', hrun, hown, hg⟩ := h.update keyed Try.underlying66 (by unfold maxLen; omega) (key_of hT) (plainElem_int Try.underlying3 (a := (l.length : Int)) (by simp [Lit.wf, IntKind.min, IntKind.max, IntKind.signed, IntKind.bits]; omega))
  have hm := h.isMap
  have ht := h.tidy keyed
  refine ⟨w', hrun, ⟨n + 1, _, hown, by simp; omega, ?_, ?_, ?_⟩, hg⟩
  · rw [Maps.size_put ht, hh, hs]; simp [hn]
  · intro s
    by_cases e : s = T
    · subst e; rw [Maps.has_put_same hm (keyLit _)]; simp
    · rw [Maps.has_put_other (by intro e2; injection e2 with e2; exact e e2), hh]; simp [e]
  · intro s hsm
    by_cases e : s = T
    · subst e; rw [Maps.atKey_put_same hm (keyLit _), List.idxOf_append, if_neg hn]; simp
    · have hsl : s ∈ l := by rcases List.mem_append.1 hsm with h1 | h1; exact h1; exact absurd (List.mem_singleton.1 h1) e
      rw [Maps.atKey_put_other (by intro e2; injection e2 with e2; exact e e2), ha s hsl, List.idxOf_append, if_pos hsl]
end Go.Proofs.Ytkapamolligmkaa.Sec
