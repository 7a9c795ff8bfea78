/- The laws' example: the sum of no bytes. -/
import Derived.Test.YtggldbadefbdaaaDoorShaS
namespace Go.Proofs.YtggldbadefbdaaaDoor.Sha
open Go.RowKit
set_option linter.unusedVariables false
set_option maxRecDepth 100000
theorem sum_nil : (sum []).take 4 = [0xe3, 0xb0, 0xc4, 0x42] := by decide +kernel
theorem take4_at {l : List UInt8} {a b c d : UInt8} (h : l.take 4 = [a, b, c, d]) : l[0]? = some a ∧ l[1]? = some b ∧ l[2]? = some c ∧ l[3]? = some d := by
  have g : ∀ i, i < 4 → l[i]? = [a, b, c, d][i]? := fun i hi => by rw [← h, List.getElem?_take, if_pos hi]
  exact ⟨g 0 (by omega), g 1 (by omega), g 2 (by omega), g 3 (by omega)⟩
/-- the first four bytes of a slice that reads so -/
theorem rd4 {w : World} {A : Option Addr} {l : List UInt8} {a b c d : UInt8} (hr : Rd w w.heap.size A (l.map e8)) (h : l.take 4 = [a, b, c, d]) :
    ∃ g o, A = some ⟨g, o, none⟩ ∧ w.cell? ⟨g, o, none⟩ = some (e8 a) ∧ w.cell? ⟨g, o + 1, none⟩ = some (e8 b) ∧ w.cell? ⟨g, o + 2, none⟩ = some (e8 c) ∧ w.cell? ⟨g, o + 3, none⟩ = some (e8 d) := by
  obtain ⟨h0, h1, h2, h3⟩ := take4_at h
  have hne : l.map e8 ≠ [] := by intro e; simp at e; subst e; simp at h0
  obtain ⟨g, o, rfl, hlt, hc⟩ := hr hne
  have key : ∀ i x, l[i]? = some x → w.cell? ⟨g, o + i, none⟩ = some (e8 x) := fun i x hx => by
    obtain ⟨hi, rfl⟩ := List.getElem?_eq_some_iff.1 hx
    rw [hc i (by simpa using hi)]
    simp
  exact ⟨g, o, rfl, key 0 a h0, key 1 b h1, key 2 c h2, key 3 d h3⟩
set_option maxHeartbeats 400000 in
theorem alive_any (w : World) (hk : Tab w) : Calls Tryd.prog 13 #[] w fun e w' => e = .returned (.bool true) ∧ Below w.heap.size w w' := by
  have hs := sum_nil
  have hl := sum_len []
  go_enter Tryd.func13, Tryd.ntmps13
  go_wp2_with fail
  refine (sum_any none [] 0 0 w rfl (Rd.nil _ _ _) (by simp) hk).mono ?_
  rintro e w1 ⟨A, c, rfl, own1, bw1⟩
  obtain ⟨g, o, rfl, c0, c1, c2, c3⟩ := rd4 (Rd.own own1) hs
  rw [hl]
  clear own1 hs hl
  go_wp2
  go_ret
  exact ⟨rfl, bw1⟩
end Go.Proofs.YtggldbadefbdaaaDoor.Sha
