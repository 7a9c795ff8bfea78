/- How a slice of acts comes in as an argument. -/
import Derived.Test.YtdkcdojcglmlbaaAct
namespace Go.Proofs.Ytdkcdojcglmlbaa.Disk
open Go.ChangeShapes Go.WideShapes Go.ChangeAt Go.RowKit Go.Joins Go.Deep
set_option linter.unusedVariables false
set_option maxRecDepth 100000
theorem ints_of1 {E : Type} {P : Program} {w : World} {held : Bool} {enc : TypeId × Value → E} {t e : TypeId} {fuel : Nat} {v : Value} {yy : DataW E × List MemPlace}
    (ht : P.underlying t = some (.slice e)) (he : P.underlying e = some (.int .i64)) (hc : P.cellsOf e = 1) (h : DataW.trod enc P w 0 (fun _ => true) held fuel t [v] = some yy) :
    ∃ (A : Option Addr) (l : List Int) (c : Nat), v = .slice A l.length c ∧ Rd w w.heap.size A (l.map (Value.int .i64)) ∧ l.length ≤ c ∧ c ≤ maxLen ∧ ∀ n ∈ l, inI n := by
  have h0 := h
  rcases open_ints ht he hc h with ⟨hcs, _⟩ | ⟨x, l, c, zs, hcs, _, hl, hm, hz, _, hcell, hwz⟩
  · simp only [List.cons.injEq, and_true] at hcs
    exact ⟨none, [], 0, hcs, Rd.nil _ _ _, by simp, by unfold maxLen; omega, fun n hn => by cases hn⟩
  · simp only [List.cons.injEq, and_true] at hcs
    subst hcs
    obtain ⟨A, hA⟩ : ∃ A, A = some x := ⟨_, rfl⟩
    have h' : DataW.trod enc P w 0 (fun _ => true) held fuel t (Value.slice A l c).cells.toList = some yy := by rw [hA]; exact h0
    obtain ⟨ll, h1, h2, h3, h4, h5⟩ := ints_of rfl ht he hc h'
    subst h1
    exact ⟨A, ll, c, by rw [hA], h2, h3, h4, h5⟩
theorem acts_of {A : Option Addr} {len cap : Nat} {H : Type} {enc : TypeId × Value → H} {w : World} {held : Bool} {fuel : Nat} {x : DataW H × List MemPlace}
    (h : DataW.trod enc Try.prog w 0 (fun _ => true) held fuel 105 (Value.slice A len cap).cells.toList = some x) :
    ∃ l : List Act', l.length = len ∧ Acts w w.heap.size A l ∧ len ≤ cap ∧ cap ≤ maxLen := by
  rcases open_slice_fields Try.underlying105 Try.underlying113 (by kernel_rfl) (by kernel_rfl) h with hcs | ⟨a, l', c', m, hcs, _, hl, hm, hmm, hi⟩
  · simp [Value.cells] at hcs
    obtain ⟨rfl, rfl, rfl⟩ := hcs
    exact ⟨[], rfl, fun h => absurd rfl h, by omega, by unfold maxLen; omega⟩
  · simp [Value.cells] at hcs
    obtain ⟨rfl, rfl, rfl⟩ := hcs
    simp only [if_true] at hmm
    subst hmm
    have key : ∀ i, i < len → ∃ f : Act', ∃ b off, a = ⟨b, off, none⟩ ∧ b < w.heap.size ∧ ∃ a' c', w.cell? ⟨b, off + i * 7, none⟩ = some (.int .i64 f.kind) ∧ w.cell? ⟨b, off + i * 7 + 1, none⟩ = some (.int .i64 f.place) ∧
        w.cell? ⟨b, off + i * 7 + 2, none⟩ = some (.int .i64 f.size) ∧ w.cell? ⟨b, off + i * 7 + 3, none⟩ = some (.int .i64 f.n) ∧ w.cell? ⟨b, off + i * 7 + 4, none⟩ = some (.int .i64 f.at') ∧ w.cell? ⟨b, off + i * 7 + 5, none⟩ = some (.int .u8 (f.fill.toNat : Int)) ∧
        w.cell? ⟨b, off + i * 7 + 6, none⟩ = some (.slice a' f.keep.length c') ∧ Rd w w.heap.size a' (f.keep.map (Value.int .i64)) ∧ f.keep.length ≤ c' ∧ c' ≤ maxLen ∧ f.ok := by
      intro i hil
      obtain ⟨ys, n, hf⟩ := hi i (by omega)
      obtain ⟨v0, y0, c0, _, t0⟩ := hf 0 _ rfl
      obtain ⟨v1, y1, c1, _, t1⟩ := hf 1 _ rfl
      obtain ⟨v2, y2, c2, _, t2⟩ := hf 2 _ rfl
      obtain ⟨v3, y3, c3, _, t3⟩ := hf 3 _ rfl
      obtain ⟨v4, y4, c4, _, t4⟩ := hf 4 _ rfl
      obtain ⟨v5, y5, c5, _, t5⟩ := hf 5 _ rfl
      obtain ⟨v6, y6, c6, _, t6⟩ := hf 6 _ rfl
      obtain ⟨k0, e0, _, u0⟩ := DataW.trod_int Try.underlying3 t0
      obtain ⟨k1, e1, _, u1⟩ := DataW.trod_int Try.underlying3 t1
      obtain ⟨k2, e2, _, u2⟩ := DataW.trod_int Try.underlying3 t2
      obtain ⟨k3, e3, _, u3⟩ := DataW.trod_int Try.underlying3 t3
      obtain ⟨k4, e4, _, u4⟩ := DataW.trod_int Try.underlying3 t4
      obtain ⟨k5, e5, _, u5⟩ := DataW.trod_int Try.underlying5 t5
      obtain ⟨A6, l6, c6', e6, r6, q6, m6, o6⟩ := ints_of1 Try.underlying58 Try.underlying3 (by kernel_rfl) t6
      simp only [List.cons.injEq, and_true] at e0 e1 e2 e3 e4 e5
      subst e0 e1 e2 e3 e4 e5 e6
      obtain ⟨k5', rfl⟩ := wf8 u5
      obtain ⟨b, off, spot⟩ := a
      have hspot : spot = none := by
        obtain ⟨_, _, hf0⟩ := hi 0 (by omega)
        obtain ⟨_, _, c00, _, _⟩ := hf0 0 _ rfl
        exact World.cell?_spot c00
      subst hspot
      rw [Addr.add_lit] at c0 c1 c2 c3 c4 c5 c6
      have hb : b < w.heap.size := by
        rcases Nat.lt_or_ge b w.heap.size with h | h
        · exact h
        · simp [World.cell?, Array.getElem?_eq_none h] at c0
      exact ⟨⟨k0, k1, k2, k3, k4, k5', l6⟩, b, off, rfl, hb, A6, c6', c0, c1, c2, c3, c4, c5, c6, r6, q6, m6, wfi u0, wfi u1, wfi u2, wfi u3, wfi u4, o6⟩
    obtain ⟨l, hll, hp⟩ := choose_list key
    refine ⟨l, hll, fun hne => ?_, hl, hm⟩
    have hpos : 0 < l.length := by cases l; exact absurd rfl hne; simp
    obtain ⟨b, off, rfl, hb, _⟩ := hp 0 hpos
    refine ⟨b, off, rfl, hb, fun i hi => ?_⟩
    obtain ⟨b', off', e, _, h2⟩ := hp i hi
    injection e with e1 e2 _
    subst e1 e2
    exact h2
end Go.Proofs.Ytdkcdojcglmlbaa.Disk
