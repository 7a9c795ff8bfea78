/- Parts of blocks: laws for rows of 4 and 16 bytes within one of 240. -/
import Derived.Test.YteecbjpnnklbpaaAes7
namespace Go.Proofs.Yteecbjpnnklbpaa.Aes
open Go.RowKit
open Go.Proofs.Yteecbjpnnklbpaa.Gf
set_option linter.unusedVariables false
set_option maxRecDepth 100000
def zero240 : List UInt8 := List.replicate 240 0
theorem zero240_len : zero240.length = 240 := List.length_replicate ..
theorem size240 {l : List UInt8} {t : TypeId} (h : (Try.prog.info? t).map (·.size) = some 240) (hl : l.length = 240) : (Try.prog.info? t).map (·.size) = some (vb l).length := by rw [vb_len, hl]; exact h
theorem range_sub {w : World} {g o : Nat} {L l : List UInt8} (h : Blk w g (vb L)) (hb : o + l.length ≤ L.length) (hl : ∀ j, j < l.length → L.getD (o + j) 0 = l.getD j 0) : w.rangeAt g o (vb l) := fun j v hv => by
  have hj : j < l.length := by have := (List.getElem?_eq_some_iff.1 hv).1; rwa [vb_len] at this
  rw [Blk.byte h (k := o + j) (by omega), hl j hj]
  simp [vb, List.getElem?_eq_getElem hj] at hv
  simp [List.getD, List.getElem?_eq_getElem hj, hv]
theorem there_sub {w : World} {g o n : Nat} {xs : List Value} (h : Blk w g xs) (hb : o + n ≤ xs.length) : w.there g o n := fun j hj => by
  rw [h.cell (show o + j < xs.length by omega)]
  exact ⟨rfl, h.free _⟩
theorem splice_part {F Z : List UInt8} {N : Nat} (hF : F.length = N) (hZ : Z.length = N) : ∀ (l : List UInt8) (o : Nat), o + l.length ≤ N → (∀ j, j < l.length → F.getD (o + j) 0 = l.getD j 0) → splice (vb (part F Z o)) o (vb l) = vb (part F Z (o + l.length))
  | [], o, _, _ => rfl
  | x :: l, o, hb, h => by
    have h0 := h 0 (by simp)
    rw [Nat.add_zero] at h0
    rw [List.length_cons] at hb
    have hs := part_set F Z o N hF hZ (by omega)
    rw [h0, show (x :: l).getD 0 0 = x from rfl] at hs
    show splice ((vb (part F Z o)).set o (e8 x)) (o + 1) (vb l) = _
    rw [vb_set, hs, splice_part hF hZ l (o + 1) (by omega) (fun j hj => by
      have := h (j + 1) (by simp; omega)
      rw [show o + (j + 1) = o + 1 + j by omega] at this
      exact this), List.length_cons]
    congr 2; omega
theorem part_new {F Z : List UInt8} {N : Nat} (hF : F.length = N) (k i : Nat) (hi : i < k) (hk : k ≤ N) : (part F Z k).getD i 0 = F.getD i 0 := by
  rw [part, List.getD_eq_getElem?_getD, List.getD_eq_getElem?_getD, List.getElem?_append_left (by simp [hF]; omega), List.getElem?_take, if_pos hi]
theorem wpList_storeMid {w : World} {ops : Array Oper} {rest : List Oper} {o : Oper} {a : Act} {Q : Exit → Act → World → Prop} (hgd : o.guard = none) (t : TypeId) (x y : Operand) (ho : o.op = .store t x y)
    {g off : Nat} (hx : a.eval x = .pointer (some ⟨g, off, none⟩)) {xs ys : List Value} (hy : a.eval y = arrV ys) (hb : Blk w g xs) (hl : off + ys.length ≤ xs.length) (h1 : ∀ v ∈ ys, v.oneCell' = true) (hi : (Try.prog.info? t).map (·.size) = some ys.length)
    (h : ∀ w1, Blk w1 g (splice xs off ys) → w.grownBy w1 (some g) → wpList Try.prog ops Q rest (a.put o.dst undef) w1) : wpList Try.prog ops Q (o :: rest) a w :=
  wpList_store_mid hgd t x y ho g off ys.toArray hx hy (by simpa using there_sub hb hl) (by simpa using hi) (all_oneCell_toArray h1) (h _ (by simpa using hb.setCells ys off) (setCells_grown g ys.toArray.toList off w))
theorem col_at (F : List UInt8) (i : Nat) : ∀ j, j < 4 → F.getD (4 * i + j) 0 = (colL (colOf F i)).getD j 0 := fun j hj => by
  match j, hj with
  | 0, _ => rfl
  | 1, _ => rfl
  | 2, _ => rfl
  | 3, _ => rfl
theorem colOf_part {F Z : List UInt8} {N : Nat} (hF : F.length = N) (k i : Nat) (hi : 4 * i + 4 ≤ k) (hk : k ≤ N) : colOf (part F Z k) i = colOf F i := by
  unfold colOf
  rw [part_new hF k _ (by omega) hk, part_new hF k _ (by omega) hk, part_new hF k _ (by omega) hk, part_new hF k _ (by omega) hk]
theorem range_colAt {w : World} {g : Nat} {L : List UInt8} (h : Blk w g (vb L)) (i : Nat) (hb : 4 * i + 4 ≤ L.length) : w.rangeAt g (4 * i) (vb (colL (colOf L i))) :=
  range_sub h hb (fun j hj => col_at L i j hj)
theorem range_keyAt {w : World} {g : Nat} {L : List UInt8} (h : Blk w g (vb L)) (i : Nat) (hL : L.length = 240) (hb : i < 15) : w.rangeAt g (16 * i) (vb (keyAt L i)) :=
  range_sub h (by rw [keyAt_len L i hL hb]; omega) (fun j hj => by
    rw [keyAt_len L i hL hb] at hj
    simp [keyAt, List.getD, List.getElem?_take, hj, List.getElem?_drop])
/-- a row within a row of rows -/
theorem run_index_col (F : List UInt8) (hF : F.length = 240) (i : Nat) (hi : i < 60) (w : World) : (Instr.index 53 (arrV (vb F)) (.int .i64 (i : Int))).run Try.prog w = .ok (arrV (vb (colL (colOf F i)))) w := by
  have hb : (0 : Int) ≤ (i : Int) ∧ (i : Int) < (60 : Int) := by omega
  obtain ⟨inf, hinf, hsz⟩ := Option.map_eq_some_iff.1 size4
  have hex : List.take 4 (List.drop (i * 4) (vb F)) = vb (colL (colOf F i)) := by
    apply List.ext_getElem
    · simp [vb_len, hF, colL]; omega
    · intro j h1 h2
      have hj : j < 4 := by simpa [vb, colL] using h2
      have := col_at F i j hj
      have hk : 4 * i + j < F.length := by omega
      have e2 : (vb (colL (colOf F i)))[j]'h2 = e8 ((colL (colOf F i)).getD j 0) := by
        simp [vb, List.getD, List.getElem?_eq_getElem (show j < (colL (colOf F i)).length from hj)]
      rw [e2, ← this]
      simp only [List.getElem_take, List.getElem_drop, vb, List.getElem_map, Nat.mul_comm i 4]
      simp [List.getD, List.getElem?_eq_getElem hk]
  unfold arrV
  simp [Instr.index, run_underlying Try.underlying53, asIntOf, hb, go_sem, part, isAgg, run_underlying Try.underlying51, sizeOf, typeInfo, hinf, hsz, hex, hi]
end Go.Proofs.Yteecbjpnnklbpaa.Aes
