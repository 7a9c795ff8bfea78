/- The walks of num.Pad, num.Xor, bytes.Repeat (64 times one byte), bytes.Equal, and of the reference's Pad. -/
import Derived.Test.YtkapamolligmkaaArr2
import Derived.Test.YtkapamolligmkaaMacPlain
import Derived.Test.YtkapamolligmkaaStr
import Derived.Test.YtkapamolligmkaaRef01
import Derived.Test.YtkapamolligmkaaRows
import Derived.Outline
import Derived.Lib.MakeNoZero
import Derived.Laws.Entries
namespace Go.Proofs.Ytkapamolligmkaa.Mac
open Go.RowKit
set_option linter.unusedVariables false
set_option maxRecDepth 100000
theorem info8 : (Try.prog.info? 5).map (fun i => (i.zero, i.size, i.bytes)) = some (some (.int .u8 0), 1, 1) := by kernel_rfl
theorem size8 : (Try.prog.info? 5).map (·.size) = some 1 := by kernel_rfl

theorem splice_len : ∀ (cs xs : List Value) (o : Nat), (splice xs o cs).length = xs.length
  | [], _, _ => rfl
  | v :: r, xs, o => by rw [splice, splice_len r]; simp
theorem splice_get : ∀ (cs xs : List Value) (o i : Nat), o + cs.length ≤ xs.length → (splice xs o cs)[i]? = if o ≤ i ∧ i < o + cs.length then cs[i - o]? else xs[i]?
  | [], xs, o, i, _ => by
    rw [splice, if_neg (by intro h; simp at h; omega)]
  | v :: r, xs, o, i, h => by
    simp only [List.length_cons] at h
    rw [splice, splice_get r (xs.set o v) (o + 1) i (by simp; omega)]
    by_cases h1 : o + 1 ≤ i ∧ i < o + 1 + r.length
    · rw [if_pos h1, if_pos (by simp only [List.length_cons]; omega), show i - o = (i - (o + 1)) + 1 by omega, List.getElem?_cons_succ]
    · rw [if_neg h1]
      by_cases h2 : i = o
      · subst h2
        rw [if_pos (by simp only [List.length_cons]; omega), List.getElem?_set_self (by omega)]
        simp
      · rw [if_neg (by simp only [List.length_cons]; omega), List.getElem?_set_ne (by omega)]
theorem splice_front (xs cs : List Value) (h : cs.length ≤ xs.length) : splice xs 0 cs = cs ++ xs.drop cs.length := by
  apply List.ext_getElem?
  intro i
  rw [splice_get cs xs 0 i (by omega)]
  by_cases h1 : i < cs.length
  · rw [if_pos (by omega), List.getElem?_append_left h1]; simp
  · rw [if_neg (by omega), List.getElem?_append_right (by omega), List.getElem?_drop, show cs.length + (i - cs.length) = i by omega]

/-- many cells of a row of the call's own -/
theorem own_setCells {base : Nat} {e : TypeId} {size g n cap : Nat} : ∀ (cs : List Value) (o : Nat) {w : World} {xs : List Value}, w.ownsRow base e size (.slice (some ⟨g, 0, none⟩) n cap) n xs → (w.setCells g o cs).ownsRow base e size (.slice (some ⟨g, 0, none⟩) n cap) n (splice xs o cs)
  | [], _, _, _, h => h
  | v :: r, o, _, _, h => own_setCells r (o + 1) (World.ownsRow.stored h o v).1
theorem own_at {w : World} {base : Nat} {e : TypeId} {g n cap : Nat} {xs : List Value} (h : w.ownsRow base e 1 (.slice (some ⟨g, 0, none⟩) n cap) n xs) {k : Nat} (hk : k < n) : ∃ v, w.cell? ⟨g, k, none⟩ = some v := by
  have hl := h.1
  exact ⟨_, (World.ownsRow.cellAt h k (by omega)).trans (List.getElem?_eq_getElem (show k < xs.length by omega))⟩
section
variable {P : Program}
/-- the builtin copy into the front of a row of the call's own -/
theorem wpList_copyO {w : World} {ops : Array Oper} {rest : List Oper} {o : Oper} {a : Act} {Q : Exit → Act → World → Prop} (hgd : o.guard = none) (d s : Operand) (t t' : TypeId)
    (ho : o.op = .call { callee := .builtin .copy, args := #[d, s], argTypes := #[t, t'] }) {g n cap : Nat} {A : Option Addr} {sLen sCap : Nat} (hd : a.eval d = .slice (some ⟨g, 0, none⟩) n cap) (hs : a.eval s = .slice A sLen sCap)
    {e : TypeId} (hu : P.underlying t = some (.slice e)) (hi : (P.info? e).map (·.size) = some 1) {base : Nat} {xs : List Value} (hown : w.ownsRow base e 1 (.slice (some ⟨g, 0, none⟩) n cap) n xs)
    {B : Nat} {news : List Value} (hl : news.length = sLen) (hr : Rd w B A news) (h1 : ∀ v ∈ news, v.oneCell' = true)
    (h : ∀ w1 r, w1.ownsRow base e 1 (.slice (some ⟨g, 0, none⟩) n cap) n (news.take n ++ xs.drop (news.take n).length) → w.grownBy w1 (some g) → wpList P ops Q rest (a.put o.dst (.int .i64 r)) w1) : wpList P ops Q (o :: rest) a w := by
  have hxl : xs.length = n := by have := hown.1; omega
  refine wpList_plain hgd fun K hK => ?_
  by_cases h0 : Nat.min sLen n = 0
  · have hr := run_copy_none (P := P) w t t' o.type e (some ⟨g, 0, none⟩) A n cap sLen sCap hu hi h0
    unfold Oper.wp execOp
    simp only [ho, resolve, invoke, builtin, Sem.run_bind, Sem.run_pure, Result.andThen_ok, List.map_toArray, List.map_cons, List.map_nil, hd, hs, hr]
    have ht : news.take n = [] := by
      apply List.eq_nil_of_length_eq_zero
      rw [List.length_take, hl, Nat.min_comm]; exact h0
    refine hK _ _ (h _ _ ?_ ⟨rfl, rfl, rfl, Nat.le_refl _, fun _ _ _ => rfl⟩)
    rw [ht]; simpa using hown
  · have hne : news ≠ [] := by rintro rfl; simp at hl; subst hl; simp at h0
    obtain ⟨b, off, rfl, _, hc⟩ := hr hne
    have hcl : (news.take n).length = Nat.min sLen n := by rw [List.length_take, hl]; exact Nat.min_comm _ _
    have hle : (news.take n).length ≤ n := by rw [List.length_take]; omega
    have hr := run_copy_cells (P := P) w t t' o.type e g 0 n cap ⟨b, off, none⟩ sLen sCap (news.take n) hu hi hcl
      (fun j v hv => by
        obtain ⟨hj, rfl⟩ := List.getElem?_eq_some_iff.1 hv
        rw [List.length_take] at hj
        rw [Addr.add_lit, hc j (by omega), List.getElem_take])
      (fun j hj => by
        rw [Nat.zero_add, World.ownsRow.cellAt hown j (by omega), List.getElem?_eq_getElem (show j < xs.length by omega)]; simp)
      (fun j _ => by rw [Nat.zero_add]; exact World.ownsRow.frozenAt hown j) (fun v hv => h1 v (List.mem_of_mem_take hv))
    unfold Oper.wp execOp
    simp only [ho, resolve, invoke, builtin, Sem.run_bind, Sem.run_pure, Result.andThen_ok, List.map_toArray, List.map_cons, List.map_nil, hd, hs, hr]
    have := own_setCells (news.take n) 0 hown
    rw [splice_front _ _ (by omega)] at this
    exact hK _ _ (h _ _ this (setCells_grown g _ 0 w))
end
theorem padTo_cells (l : List UInt8) (s : Nat) : ((l.map e8).take s ++ (List.replicate s (.int .u8 0)).drop ((l.map e8).take s).length) = (padTo l s).map e8 := by
  unfold padTo
  rw [List.map_append, List.map_take, List.drop_replicate]
  congr 1
  rw [List.map_replicate]
  congr 1
  rw [List.length_take, List.length_map]; omega
set_option maxHeartbeats 400000 in
theorem npad_any (A : Option Addr) (l : List UInt8) (n c s : Nat) (z : Int) (hz : z = (s : Int)) (w : World) (hn : n = l.length) (h1 : 1 ≤ s) (h2 : s ≤ 65536) (hr : Rd w w.heap.size A (l.map e8)) :
    Calls Try.prog 39 #[.slice A n c, .int .i64 z] w fun e w' => RetB 5 w (padTo l s) e w' := by
  subst hn hz
  obtain ⟨i0, hi0, hz0, hz1, hz2⟩ := info_parts info8
  have h1' : ((s : Int) < 1) = False := by simp; omega
  have h2' : (65536 < (s : Int)) = False := by simp; omega
  go_enter Try.func39, Try.ntmps39
  go_wp2_with (first
    | ((with_reducible show wpList _ _ _ (⟨some 13, _, _, _, _, _⟩ :: _) _ _); refine wpList_makeN rfl _ _ _ rfl Try.underlying23 hi0 hz0 hz1 s s rfl rfl rfl rfl (Nat.le_refl _) (by rw [hz2]; omega) (by unfold maxLen; omega) ?_; intro w1 hown1 bw1 hs1)
    | ((with_reducible show wpList _ _ _ (⟨some 16, _, _, _, _, _⟩ :: _) _ _); refine wpList_copyO rfl _ _ _ _ rfl rfl rfl Try.underlying23 size8 hown1 (by simp) (hr.on bw1) (e8_one _) ?_; intro w2 r2 hown2 hg2)
    | fail)
  go_ret
  rw [padTo_cells] at hown2
  exact RetB.mk hown2 rfl (below_row bw1 hg2 (Nat.le_refl _) bw1.size)
/-- the first k bytes are laid in -/
def laidIn (l : List UInt8) (s k : Nat) : List UInt8 := l.take k ++ List.replicate (s - k) 0
theorem laidIn_len (l : List UInt8) (s k : Nat) (h : k ≤ s) (hl : k ≤ l.length) : (laidIn l s k).length = s := by simp [laidIn]; omega
theorem laidIn_set (l : List UInt8) (s k : Nat) (h : k < s) (hl : k < l.length) : (laidIn l s k).set k l[k] = laidIn l s (k + 1) := by
  unfold laidIn
  rw [show s - k = (s - (k + 1)) + 1 by omega, List.replicate_succ, List.set_append_right _ _ (by simp; omega)]
  rw [List.length_take, Nat.min_eq_left (Nat.le_of_lt hl), Nat.sub_self, List.set_cons_zero, List.take_succ_eq_append_getElem hl, List.append_assoc]
  rfl
theorem laidIn_all (l : List UInt8) (s k : Nat) (h : k = min s l.length) : laidIn l s k = padTo l s := by
  subst h
  unfold laidIn padTo
  by_cases hs : s ≤ l.length
  · rw [Nat.min_eq_left hs, show s - s = 0 by omega, show s - l.length = 0 by omega]
  · rw [Nat.min_eq_right (by omega), List.take_of_length_le (Nat.le_refl _), List.take_of_length_le (by omega)]
set_option maxHeartbeats 400000 in
theorem equal_any (A B : Option Addr) (l m : List UInt8) (n o c d : Nat) (w : World) (hn : n = l.length) (ho : o = m.length) (hr : Rd w w.heap.size A (l.map e8)) (hs : Rd w w.heap.size B (m.map e8)) :
    Calls Try.prog 48 #[.slice A n c, .slice B o d] w fun e w' => e = .returned (.bool (R1.sameB l m)) ∧ w = w' := by
  subst hn ho
  have h1 := run_conv_rd (P := Try.prog) 23 9 5 l.length c rfl Try.underlying23 Try.underlying5 Try.underlying9 hr
  have h2 := run_conv_rd (P := Try.prog) 23 9 5 m.length d rfl Try.underlying23 Try.underlying5 Try.underlying9 hs
  go_enter Try.func48, Try.ntmps48
  go_wp2
  go_ret
  exact ⟨ret_bool (by unfold R1.sameB; by_cases h : l = m <;> simp [h]), rfl⟩
end Go.Proofs.Ytkapamolligmkaa.Mac
