/- Texts of this claim, joined: Str, Slices, Mac1, Xor, Mac2, Mac3, Mac4, Mac5. -/
import Derived.Test.YteecbjpnnklbpaaDoorGA
import Derived.Laws.IdiomStrings
import Derived.Lib.ConvBytes
import Derived.Test.YteecbjpnnklbpaaDoorRows
import Derived.Outline
import Derived.WalkSpells
import Derived.Test.YteecbjpnnklbpaaDoorGE
import Derived.Lib.MakeNoZero
import Derived.Laws.Entries
import Derived.Test.YteecbjpnnklbpaaDoorGF
import Derived.Deep.RegionWith
/- A slice of bytes turned into a string, nil and empty ones too; a string turned into a new slice of bytes. -/
namespace Go.Proofs.YteecbjpnnklbpaaDoor
open Go.RowKit

theorem run_conv_rd {P : Program} {w : World} {B : Nat} {A : Option Addr} {l : List UInt8} (src dst e : TypeId) (n c : Nat) (hn : n = l.length) (hs : P.underlying src = some (.slice e)) (he : P.underlying e = some (.int .u8)) (hd : P.underlying dst = some .string)
    (hr : Rd w B A (l.map e8)) : (convert src dst (.slice A n c)).run P w = .ok (.string ⟨l.toArray⟩) w := by
  subst hn
  cases A with
  | none =>
    have hl : l = [] := by
      cases l with
      | nil => rfl
      | cons a l => obtain ⟨b, off, h, _⟩ := hr (by simp); cases h
    subst hl
    simp [convert, run_underlying hs, run_underlying he, run_underlying hd, go_sem]
    rfl
  | some a =>
    refine run_convert_bytes_back w src dst e a c l hs he hd fun j hj => ?_
    obtain ⟨b, off, h, _, hc⟩ := hr (by intro h; simp at h; subst h; exact absurd hj (by simp))
    injection h with h
    subst h
    rw [Addr.add_lit, hc j (by simpa using hj), List.getElem_map]
theorem ba_append (a b : List UInt8) : (⟨a.toArray⟩ ++ ⟨b.toArray⟩ : ByteArray) = ⟨(a ++ b).toArray⟩ := by
  apply ByteArray.ext
  simp
/-- the bytes of a string, in new memory -/
theorem run_conv_new {P : Program} (w : World) (src dst e : TypeId) (l : List UInt8) (hs : P.underlying src = some .string) (hd : P.underlying dst = some (.slice e)) (he : P.underlying e = some (.int .u8)) :
    ∃ c w', (convert src dst (.string ⟨l.toArray⟩)).run P w = .ok (.slice (some ⟨w.heap.size, 0, none⟩) l.length c) w' ∧ Below w.heap.size w w' ∧ w.heap.size < w'.heap.size ∧ l.length ≤ c ∧
      ∀ i (h : i < (l.map e8).length), w'.cell? ⟨w.heap.size, 0 + i, none⟩ = some (l.map e8)[i] := by
  refine ⟨_, _, Lib.run_convert_string_bytes w src dst e ⟨l.toArray⟩ hs hd he, ⟨rfl, rfl, rfl, ?_, fun j hj => Lib.bytesWorld_at_old w e _ j hj⟩, ?_, ?_, fun i hi => ?_⟩
  · rw [Lib.bytesWorld_size]; omega
  · rw [Lib.bytesWorld_size]; omega
  · have := grownCap_ge w l.length 0 e
    simpa [ByteArray.size] using this
  · have hi' : i < l.length := by simpa using hi
    rw [Nat.zero_add, Lib.bytesWorld_cell w e _ i (by simpa [ByteArray.size] using hi')]
    simp [List.getD, hi']
end Go.Proofs.YteecbjpnnklbpaaDoor

/- The walks of the library's slices at bytes. -/
namespace Go.Proofs.YteecbjpnnklbpaaDoor.Sl
open Go.RowKit
set_option linter.unusedVariables false
set_option maxRecDepth 100000

theorem info8 : (Tryd.prog.info? 5).map (fun i => (i.zero, i.size, i.bytes)) = some (some (.int .u8 0), 1, 1) := by kernel_rfl
theorem own_empty (w : World) (e : TypeId) (base : Nat) (hb : base ≤ w.heap.size) : (w.alloc (.cells #[] e)).ownsRow base e 1 (.slice (some ⟨w.heap.size, 0, none⟩) 0 0) 0 [] :=
  ⟨by simp, .inr ⟨w.heap.size, 0, #[], rfl, hb, heap_alloc_new w _, by simp, by simp [maxLen], by simp, by simp⟩⟩

end Go.Proofs.YteecbjpnnklbpaaDoor.Sl

/- The walks of num.Pad, num.Xor, bytes.Repeat (64 times one byte), bytes.Equal, and of the reference's Pad. -/
namespace Go.Proofs.YteecbjpnnklbpaaDoor.Mac
open Go.RowKit
set_option linter.unusedVariables false
set_option maxRecDepth 100000
theorem info8 : (Tryd.prog.info? 5).map (fun i => (i.zero, i.size, i.bytes)) = some (some (.int .u8 0), 1, 1) := by kernel_rfl
theorem size8 : (Tryd.prog.info? 5).map (·.size) = some 1 := by kernel_rfl

theorem splice_len : ∀ (cs xs : List Value) (o : Nat), (splice xs o cs).length = xs.length
  | [], _, _ => rfl
  | v :: r, xs, o => by rw [splice, splice_len r]; simp
theorem splice_get : ∀ (cs xs : List Value) (o i : Nat), o + cs.length ≤ xs.length → (splice xs o cs)[i]? = if o ≤ i ∧ i < o + cs.length then cs[i - o]? else xs[i]?
  | [], xs, o, i, _ => by
    rw [splice, if_neg (by intro h; simp at h; omega)]
  | v :: r, xs, o, i, h => by
    simp only [List.length_cons] at h
    rw [splice, splice_get r (xs.set o v) (o + 1) i (by simp; omega)]
    by_cases h1 : o + 1 ≤ i ∧ i < o + 1 + r.length
    · rw [if_pos h1, if_pos (by simp only [List.length_cons]; omega), show i - o = (i - (o + 1)) + 1 by omega, List.getElem?_cons_succ]
    · rw [if_neg h1]
      by_cases h2 : i = o
      · subst h2
        rw [if_pos (by simp only [List.length_cons]; omega), List.getElem?_set_self (by omega)]
        simp
      · rw [if_neg (by simp only [List.length_cons]; omega), List.getElem?_set_ne (by omega)]
theorem splice_front (xs cs : List Value) (h : cs.length ≤ xs.length) : splice xs 0 cs = cs ++ xs.drop cs.length := by
  apply List.ext_getElem?
  intro i
  rw [splice_get cs xs 0 i (by omega)]
  by_cases h1 : i < cs.length
  · rw [if_pos (by omega), List.getElem?_append_left h1]; simp
  · rw [if_neg (by omega), List.getElem?_append_right (by omega), List.getElem?_drop, show cs.length + (i - cs.length) = i by omega]

/-- many cells of a row of the call's own -/
theorem own_setCells {base : Nat} {e : TypeId} {size g n cap : Nat} : ∀ (cs : List Value) (o : Nat) {w : World} {xs : List Value}, w.ownsRow base e size (.slice (some ⟨g, 0, none⟩) n cap) n xs → (w.setCells g o cs).ownsRow base e size (.slice (some ⟨g, 0, none⟩) n cap) n (splice xs o cs)
  | [], _, _, _, h => h
  | v :: r, o, _, _, h => own_setCells r (o + 1) (World.ownsRow.stored h o v).1
theorem own_at {w : World} {base : Nat} {e : TypeId} {g n cap : Nat} {xs : List Value} (h : w.ownsRow base e 1 (.slice (some ⟨g, 0, none⟩) n cap) n xs) {k : Nat} (hk : k < n) : ∃ v, w.cell? ⟨g, k, none⟩ = some v := by
  have hl := h.1
  exact ⟨_, (World.ownsRow.cellAt h k (by omega)).trans (List.getElem?_eq_getElem (show k < xs.length by omega))⟩
section
variable {P : Program}
/-- the builtin copy into the front of a row of the call's own -/
theorem wpList_copyO {w : World} {ops : Array Oper} {rest : List Oper} {o : Oper} {a : Act} {Q : Exit → Act → World → Prop} (hgd : o.guard = none) (d s : Operand) (t t' : TypeId)
    (ho : o.op = .call { callee := .builtin .copy, args := #[d, s], argTypes := #[t, t'] }) {g n cap : Nat} {A : Option Addr} {sLen sCap : Nat} (hd : a.eval d = .slice (some ⟨g, 0, none⟩) n cap) (hs : a.eval s = .slice A sLen sCap)
    {e : TypeId} (hu : P.underlying t = some (.slice e)) (hi : (P.info? e).map (·.size) = some 1) {base : Nat} {xs : List Value} (hown : w.ownsRow base e 1 (.slice (some ⟨g, 0, none⟩) n cap) n xs)
    {B : Nat} {news : List Value} (hl : news.length = sLen) (hr : Rd w B A news) (h1 : ∀ v ∈ news, v.oneCell' = true)
    (h : ∀ w1 r, w1.ownsRow base e 1 (.slice (some ⟨g, 0, none⟩) n cap) n (news.take n ++ xs.drop (news.take n).length) → w.grownBy w1 (some g) → wpList P ops Q rest (a.put o.dst (.int .i64 r)) w1) : wpList P ops Q (o :: rest) a w := by
  have hxl : xs.length = n := by have := hown.1; omega
  refine wpList_plain hgd fun K hK => ?_
  by_cases h0 : Nat.min sLen n = 0
  · have hr := run_copy_none (P := P) w t t' o.type e (some ⟨g, 0, none⟩) A n cap sLen sCap hu hi h0
    unfold Oper.wp execOp
    simp only [ho, resolve, invoke, builtin, Sem.run_bind, Sem.run_pure, Result.andThen_ok, List.map_toArray, List.map_cons, List.map_nil, hd, hs, hr]
    have ht : news.take n = [] := by
      apply List.eq_nil_of_length_eq_zero
      rw [List.length_take, hl, Nat.min_comm]; exact h0
    refine hK _ _ (h _ _ ?_ ⟨rfl, rfl, rfl, Nat.le_refl _, fun _ _ _ => rfl⟩)
    rw [ht]; simpa using hown
  · have hne : news ≠ [] := by rintro rfl; simp at hl; subst hl; simp at h0
    obtain ⟨b, off, rfl, _, hc⟩ := hr hne
    have hcl : (news.take n).length = Nat.min sLen n := by rw [List.length_take, hl]; exact Nat.min_comm _ _
    have hle : (news.take n).length ≤ n := by rw [List.length_take]; omega
    have hr := run_copy_cells (P := P) w t t' o.type e g 0 n cap ⟨b, off, none⟩ sLen sCap (news.take n) hu hi hcl
      (fun j v hv => by
        obtain ⟨hj, rfl⟩ := List.getElem?_eq_some_iff.1 hv
        rw [List.length_take] at hj
        rw [Addr.add_lit, hc j (by omega), List.getElem_take])
      (fun j hj => by
        rw [Nat.zero_add, World.ownsRow.cellAt hown j (by omega), List.getElem?_eq_getElem (show j < xs.length by omega)]; simp)
      (fun j _ => by rw [Nat.zero_add]; exact World.ownsRow.frozenAt hown j) (fun v hv => h1 v (List.mem_of_mem_take hv))
    unfold Oper.wp execOp
    simp only [ho, resolve, invoke, builtin, Sem.run_bind, Sem.run_pure, Result.andThen_ok, List.map_toArray, List.map_cons, List.map_nil, hd, hs, hr]
    have := own_setCells (news.take n) 0 hown
    rw [splice_front _ _ (by omega)] at this
    exact hK _ _ (h _ _ this (setCells_grown g _ 0 w))
end
theorem padTo_cells (l : List UInt8) (s : Nat) : ((l.map e8).take s ++ (List.replicate s (.int .u8 0)).drop ((l.map e8).take s).length) = (padTo l s).map e8 := by
  unfold padTo
  rw [List.map_append, List.map_take, List.drop_replicate]
  congr 1
  rw [List.map_replicate]
  congr 1
  rw [List.length_take, List.length_map]; omega
set_option maxHeartbeats 400000 in
theorem npad_any (A : Option Addr) (l : List UInt8) (n c s : Nat) (z : Int) (hz : z = (s : Int)) (w : World) (hn : n = l.length) (h1 : 1 ≤ s) (h2 : s ≤ 65536) (hr : Rd w w.heap.size A (l.map e8)) :
    Calls Tryd.prog 93 #[.slice A n c, .int .i64 z] w fun e w' => RetB 5 w (padTo l s) e w' := by
  subst hn hz
  obtain ⟨i0, hi0, hz0, hz1, hz2⟩ := info_parts info8
  have h1' : ((s : Int) < 1) = False := by simp; omega
  have h2' : (65536 < (s : Int)) = False := by simp; omega
  go_enter Tryd.func93, Tryd.ntmps93
  go_wp2_with (first
    | ((with_reducible show wpList _ _ _ (⟨some 13, _, _, _, _, _⟩ :: _) _ _); refine wpList_makeN rfl _ _ _ rfl Tryd.underlying37 hi0 hz0 hz1 s s rfl rfl rfl rfl (Nat.le_refl _) (by rw [hz2]; omega) (by unfold maxLen; omega) ?_; intro w1 hown1 bw1 hs1)
    | ((with_reducible show wpList _ _ _ (⟨some 16, _, _, _, _, _⟩ :: _) _ _); refine wpList_copyO rfl _ _ _ _ rfl rfl rfl Tryd.underlying37 size8 hown1 (by simp) (hr.on bw1) (e8_one _) ?_; intro w2 r2 hown2 hg2)
    | fail)
  go_ret
  rw [padTo_cells] at hown2
  exact RetB.mk hown2 rfl (below_row bw1 hg2 (Nat.le_refl _) bw1.size)
/-- the first k bytes are laid in -/
def laidIn (l : List UInt8) (s k : Nat) : List UInt8 := l.take k ++ List.replicate (s - k) 0
theorem laidIn_len (l : List UInt8) (s k : Nat) (h : k ≤ s) (hl : k ≤ l.length) : (laidIn l s k).length = s := by simp [laidIn]; omega
theorem laidIn_set (l : List UInt8) (s k : Nat) (h : k < s) (hl : k < l.length) : (laidIn l s k).set k l[k] = laidIn l s (k + 1) := by
  unfold laidIn
  rw [show s - k = (s - (k + 1)) + 1 by omega, List.replicate_succ, List.set_append_right _ _ (by simp; omega)]
  rw [List.length_take, Nat.min_eq_left (Nat.le_of_lt hl), Nat.sub_self, List.set_cons_zero, List.take_succ_eq_append_getElem hl, List.append_assoc]
  rfl
theorem laidIn_all (l : List UInt8) (s k : Nat) (h : k = min s l.length) : laidIn l s k = padTo l s := by
  subst h
  unfold laidIn padTo
  by_cases hs : s ≤ l.length
  · rw [Nat.min_eq_left hs, show s - s = 0 by omega, show s - l.length = 0 by omega]
  · rw [Nat.min_eq_right (by omega), List.take_of_length_le (Nat.le_refl _), List.take_of_length_le (by omega)]
set_option maxHeartbeats 400000 in
theorem rpad_any (A : Option Addr) (l : List UInt8) (n c s : Nat) (z : Int) (hz : z = (s : Int)) (w : World) (hn : n = l.length) (h1 : 1 ≤ s) (h2 : s ≤ 65536) (hr : Rd w w.heap.size A (l.map e8)) (hl : l.length ≤ 1000000000000) :
    Calls Tryd.prog 107 #[.slice A n c, .int .i64 z] w fun e w' => RetB 5 w (padTo l s) e w' := by
  subst hn hz
  obtain ⟨i0, hi0, hz0, hz1, hz2⟩ := info_parts info8
  have h1' : ((s : Int) < 1) = False := by simp; omega
  have h2' : (65536 < (s : Int)) = False := by simp; omega
  go_enter Tryd.func107, Tryd.ntmps107
  go_wp2_with (at_make; refine wpList_makeN rfl _ _ _ rfl Tryd.underlying37 hi0 hz0 hz1 s s rfl rfl rfl rfl (Nat.le_refl _) (by rw [hz2]; omega) (by unfold maxLen; omega) ?_; intro w1 hown1 bw1 hs1)
  go_loopw [6] (fun i wr => ∃ k : Nat, k ≤ s ∧ k ≤ l.length ∧ i = .int .i64 k ∧ wr.ownsRow w.heap.size 5 1 (.slice (some ⟨w.heap.size, 0, none⟩) s s) s ((laidIn l s k).map e8) ∧ Below w.heap.size w wr) (fun i _ => s - (intOf i).toNat)
  case atStart => exact ⟨0, by omega, by omega, rfl, by rw [laidIn, List.take_zero, List.nil_append, Nat.sub_zero, List.map_replicate]; exact hown1, bw1⟩
  case round =>
    obtain ⟨k, hk, hkl, rfl, hown, bel⟩ := hrel
    by_cases hlt : k < s
    · by_cases hll : k < l.length
      · obtain ⟨b, off, rfl, hbb, hc⟩ := (hr.below bel).get (k := k) (by simpa using hll)
        rw [List.getElem_map] at hc
        have Hs := Lib.hid (laidIn_set l s k hlt hll)
        have hln := laidIn_len l s k hk hkl
        obtain ⟨x, hx⟩ : ∃ x, x = l[k] := ⟨_, rfl⟩
        rw [← hx] at hc Hs
        obtain ⟨v0, hcell⟩ := own_at hown (k := k) (by omega)
        have hfr := World.ownsRow.frozenAt hown k
        have hst := (World.ownsRow.stored hown k (e8 x)).1
        rw [← List.map_set, Hs.out] at hst
        have Hst := Lib.hid hst
        have h3 : ((k : Int) < (s : Int)) = True := by simp; omega
        have h4 : ((k : Int) < (l.length : Int)) = True := by simp; omega
        clear hx hst hln
        go_wp2
        go_roundw
        case rel => exact ⟨k + 1, by omega, by omega, by go_num, Hst.out, bset_new bel _ _⟩
        case measure => simp [intOf]; omega
      · obtain rfl : k = l.length := by omega
        have h3 : ((l.length : Int) < (s : Int)) = True := by simp; omega
        have h4 : ((l.length : Int) < (l.length : Int)) = False := by simp
        rw [laidIn_all l s _ (by omega)] at hown
        go_wp2
        go_ret
        exact RetB.mk hown rfl bel
    · obtain rfl : k = s := by omega
      have h3 : ((k : Int) < (k : Int)) = False := by simp
      rw [laidIn_all l k _ (by omega)] at hown
      go_wp2
      go_ret
      exact RetB.mk hown rfl bel
/-- two rows by turns -/
def xorL (a b : List UInt8) : List UInt8 := List.zipWith (fun x y => x ^^^ y) a b
theorem xorL_len (a b : List UInt8) : (xorL a b).length = min a.length b.length := by simp [xorL]
/-- the first k are laid in -/
def xorK (a b : List UInt8) (k : Nat) : List UInt8 := laidIn (xorL a b) (xorL a b).length k
theorem xorL_get (a b : List UInt8) (k : Nat) (h : k < (xorL a b).length) : (xorL a b)[k] = a[k]'(by rw [xorL_len] at h; omega) ^^^ b[k]'(by rw [xorL_len] at h; omega) := by simp [xorL]
set_option maxHeartbeats 400000 in
theorem xor_any (A B : Option Addr) (l m : List UInt8) (n o c d : Nat) (w : World) (hn : n = l.length) (ho : o = m.length) (hr : Rd w w.heap.size A (l.map e8)) (hs : Rd w w.heap.size B (m.map e8)) (hl : l.length ≤ 1000000000000) (hm : m.length ≤ 1000000000000) :
    Calls Tryd.prog 58 #[.slice A n c, .slice B o d] w fun e w' => RetB 5 w (xorL l m) e w' := by
  subst hn ho
  obtain ⟨i0, hi0, hz0, hz1, hz2⟩ := info_parts info8
  obtain ⟨s, hs'⟩ : ∃ s, s = (xorL l m).length := ⟨_, rfl⟩
  have hlm := xorL_len l m
  have hsm : s = min l.length m.length := by omega
  have hsl : s ≤ l.length := by omega
  have hsr : s ≤ m.length := by omega
  have Hs := Lib.hid hs'
  have hmin : min (l.length : Int) (m.length : Int) = (s : Int) := by omega
  clear hs' hlm hsm
  go_enter Tryd.func58, Tryd.ntmps58
  go_wp2_with (at_make; refine wpList_makeN rfl _ _ _ rfl Tryd.underlying37 hi0 hz0 hz1 s s rfl (by omega) rfl (by omega) (Nat.le_refl _) (by rw [hz2]; omega) (by unfold maxLen; omega) ?_; intro w1 hown1 bw1 hs1)
  all_goals
    go_loopw [15] (fun i wr => ∃ k : Nat, k ≤ s ∧ i = .int .i64 k ∧ wr.ownsRow w.heap.size 5 1 (.slice (some ⟨w.heap.size, 0, none⟩) s s) s ((xorK l m k).map e8) ∧ Below w.heap.size w wr) (fun i _ => s - (intOf i).toNat)
    case atStart => exact ⟨0, by omega, rfl, by rw [xorK, laidIn, List.take_zero, List.nil_append, Nat.sub_zero, List.map_replicate, ← Hs.out]; exact hown1, bw1⟩
    case round =>
      obtain ⟨k, hk, rfl, hown, bel⟩ := hrel
      by_cases hlt : k < s
      · obtain ⟨b, off, rfl, hbb, hc⟩ := (hr.below bel).get (k := k) (by simp; omega)
        obtain ⟨b', off', rfl, hbb', hc'⟩ := (hs.below bel).get (k := k) (by simp; omega)
        rw [List.getElem_map] at hc hc'
        have hkk : k < (xorL l m).length := by rw [← Hs.out]; exact hlt
        have hg := xorL_get l m k hkk
        have hst := laidIn_set (xorL l m) (xorL l m).length k hkk hkk
        rw [hg] at hst
        have hll : k < l.length := by omega
        have hmm : k < m.length := by omega
        obtain ⟨x, hx⟩ : ∃ x, x = l[k] := ⟨_, rfl⟩
        obtain ⟨y, hy⟩ : ∃ y, y = m[k] := ⟨_, rfl⟩
        rw [← hx] at hc hst
        rw [← hy] at hc' hst
        have Hst := Lib.hid hst
        have hxy := xor8 x y
        obtain ⟨p, hp⟩ : ∃ p, p = x ^^^ y := ⟨_, rfl⟩
        rw [← hp] at hxy Hst
        clear hx hy hp hg hst hkk
        have hbs : w.heap.size ≤ wr.heap.size := bel.size
        have hbw : b < wr.heap.size := by omega
        have hbw' : b' < wr.heap.size := by omega
        go_wp2
        refine region_inb_tail 12 (by kernel_rfl) (by kernel_rfl) ?_
        simp only [List.take_succ_cons, List.take_zero, List.drop_succ_cons, List.drop_zero]
        have inbNe := InB.some
        have inbW := @wrap_small
        have inbU := IntKind.wrap_u8'
        repeat (refine wpQuiet_step (fun K hK => ?_); go_simp; first | (refine hK _ ?_; clear hK K) | (apply Exists.intro; refine ⟨?_, hK _ ?_⟩; (· (intro w' hw'; first | fail | (have hcw := hw'.cell; go_simp; exact rfl))); clear hK K))
        refine wpQuiet_nil ?_
        intro wq hq
        clear inbNe inbW inbU
        have hq2 := own_on hown hq.below
        obtain ⟨v0, hcell⟩ := own_at hq2 (k := k) (by omega)
        have hfr := World.ownsRow.frozenAt hq2 k
        have hst := (World.ownsRow.stored hq2 k (e8 p)).1
        have belq := bel.trans (hq.below.mono hbs)
        rw [← List.map_set, show (xorK l m k).set k p = xorK l m (k + 1) from Hst.out] at hst
        have Hst2 := Lib.hid hst
        clear hst hq
        go_wp2
        go_roundw
        case rel => exact ⟨k + 1, by omega, by go_num, Hst2.out, bset_new belq _ _⟩
        case measure => simp [intOf]; omega
      · obtain rfl : k = s := by omega
        have hx : xorK l m k = xorL l m := by rw [xorK, Hs.out, laidIn, List.take_of_length_le (Nat.le_refl _), Nat.sub_self]; simp
        rw [hx] at hown
        go_wp2
        go_ret
        exact RetB.mk hown rfl bel
set_option maxHeartbeats 400000 in
theorem equal_any (A B : Option Addr) (l m : List UInt8) (n o c d : Nat) (w : World) (hn : n = l.length) (ho : o = m.length) (hr : Rd w w.heap.size A (l.map e8)) (hs : Rd w w.heap.size B (m.map e8)) :
    Calls Tryd.prog 67 #[.slice A n c, .slice B o d] w fun e w' => e = .returned (.bool (R1.sameB l m)) ∧ w = w' := by
  subst hn ho
  have h1 := run_conv_rd (P := Tryd.prog) 37 9 5 l.length c rfl Tryd.underlying37 Tryd.underlying5 Tryd.underlying9 hr
  have h2 := run_conv_rd (P := Tryd.prog) 37 9 5 m.length d rfl Tryd.underlying37 Tryd.underlying5 Tryd.underlying9 hs
  go_enter Tryd.func67, Tryd.ntmps67
  go_wp2
  go_ret
  exact ⟨ret_bool (by unfold R1.sameB; by_cases h : l = m <;> simp [h]), rfl⟩
end Go.Proofs.YteecbjpnnklbpaaDoor.Mac

/- The walk of the reference's Xor. -/
namespace Go.Proofs.YteecbjpnnklbpaaDoor.Mac
open Go.RowKit
set_option linter.unusedVariables false
set_option maxRecDepth 100000
theorem xorL_succ (l m : List UInt8) (k : Nat) (h : k < (xorL l m).length) : (xorL l m).take (k + 1) = (xorL l m).take k ++ [l[k]'(by rw [xorL_len] at h; omega) ^^^ m[k]'(by rw [xorL_len] at h; omega)] := by
  rw [List.take_succ_eq_append_getElem h, xorL_get]
set_option maxHeartbeats 400000 in
theorem rxor_any (A B : Option Addr) (l m : List UInt8) (n o c d : Nat) (w : World) (hn : n = l.length) (ho : o = m.length) (hr : Rd w w.heap.size A (l.map e8)) (hs : Rd w w.heap.size B (m.map e8)) (hl : l.length ≤ 1000000000) (hm : m.length ≤ 1000000000) :
    Calls Tryd.prog 62 #[.slice A n c, .slice B o d] w fun e w' => RetB 5 w (xorL l m) e w' := by
  subst hn ho
  obtain ⟨i0, hi0, hz0, hz1, hz2⟩ := info_parts info8
  obtain ⟨s, hs'⟩ : ∃ s, s = (xorL l m).length := ⟨_, rfl⟩
  have hlm := xorL_len l m
  have hsm : s = min l.length m.length := by omega
  have hsl : s ≤ l.length := by omega
  have hsr : s ≤ m.length := by omega
  have hend : s < l.length → ¬ s < m.length := by omega
  have Hs := Lib.hid hs'
  have Hend := Lib.hid hend
  clear hs' hlm hsm hend
  go_enter Tryd.func62, Tryd.ntmps62
  go_wp2
  go_loopw [5, 6] (fun v i wr => ∃ k : Nat, k ≤ s ∧ i = .int .i64 k ∧ wr.ownsRow w.heap.size 5 1 v k (((xorL l m).take k).map e8) ∧ Below w.heap.size w wr) (fun _ i _ => s - (intOf i).toNat)
  case atStart => exact ⟨0, by omega, rfl, own_nil _ _ _ _, Below.refl _ _⟩
  case round =>
    obtain ⟨k, hk, rfl, hown, bel⟩ := hrel
    obtain ⟨A0, c0, rfl⟩ := own_form hown
    by_cases hlt : k < s
    · obtain ⟨b, off, rfl, hbb, hc⟩ := (hr.below bel).get (k := k) (by simp; omega)
      obtain ⟨b', off', rfl, hbb', hc'⟩ := (hs.below bel).get (k := k) (by simp; omega)
      rw [List.getElem_map] at hc hc'
      have hkk : k < (xorL l m).length := by rw [← Hs.out]; exact hlt
      have hst := xorL_succ l m k hkk
      have hll : k < l.length := by omega
      have hmm : k < m.length := by omega
      obtain ⟨x, hx⟩ : ∃ x, x = l[k] := ⟨_, rfl⟩
      obtain ⟨y, hy⟩ : ∃ y, y = m[k] := ⟨_, rfl⟩
      rw [← hx] at hc hst
      rw [← hy] at hc' hst
      have hxy := xor8 x y
      obtain ⟨p, hp⟩ : ∃ p, p = x ^^^ y := ⟨_, rfl⟩
      rw [← hp] at hxy hst
      have Hst := Lib.hid hst
      clear hx hy hp hst hkk
      have hbs : w.heap.size ≤ wr.heap.size := bel.size
      have hbw : b < wr.heap.size := by omega
      have hbw' : b' < wr.heap.size := by omega
      have hllI : (k : Int) < (l.length : Int) := by omega
      have hmmI : (k : Int) < (m.length : Int) := by omega
      go_wp2
      refine region_three [0] [1, 2, 3, 4, 5, 6, 7, 8, 9] 10 (by kernel_rfl) (by kernel_rfl) (fun c d v a w h => by cases d <;> exact h) ?_
      simp only [preAct, preOne, opsAt, List.foldl_cons, List.foldl_nil, List.getElem?_cons_zero, List.getElem?_cons_succ, List.getD_cons_zero, List.getD_cons_succ, List.drop_succ_cons, List.drop_zero]
      have inbNe := InB.some
      have inbW := @wrap_small
      have inbU := IntKind.wrap_u8'
      repeat (refine wpQuiet_step (fun K hK => ?_); go_simp; first | (refine hK _ ?_; clear hK K) | (apply Exists.intro; refine ⟨?_, hK _ ?_⟩; (· (intro w' hw'; first | fail | (have hcw := hw'.cell; go_simp; exact rfl))); clear hK K))
      refine wpQuiet_nil ?_
      intro wq hq
      clear inbNe inbW inbU
      have hq2 := own_on hown hq.below
      have belq := bel.trans (hq.below.mono hbs)
      have hsz : w.heap.size ≤ wq.heap.size := belq.size
      clear hq
      go_wp2_with (at_builtin; refine wpList_append_rd _ rfl _ _ _ rfl w.heap.size 5 i0 _ 1 1 Tryd.underlying37 hi0 hz0 hz1 hz2 rfl (by omega) _ k _ rfl (hq2.alloc _) _ _ 1 1 [e8 p] rfl rfl (Rd.lit wq _ _ _ (wq.heap.size + 1) rfl (by omega)) (one_int _ _) (by simp only [maxLen]; omega) (by omega) (le_alloc hsz _) ?_; intro v2 w2 hown2 hg2 hat2)
      go_roundw
      case rel => exact ⟨k + 1, by omega, by go_num, by rw [Hst.out, List.map_append]; exact hown2, (belq.alloc hsz _).grown hg2 (le_alloc hsz _) (fun g hg => own_block hown hg)⟩
      case measure => simp [intOf]; omega
    · obtain rfl : k = s := by omega
      rw [List.take_of_length_le (by rw [← Hs.out]; omega)] at hown
      by_cases hkl : k < l.length
      · have hkm := Hend.out hkl
        go_wp2
        go_ret
        exact RetB.mk hown rfl bel
      · have hkm : ¬ (k : Int) < (l.length : Int) := by omega
        go_wp2
        go_ret
        exact RetB.mk hown rfl bel
end Go.Proofs.YteecbjpnnklbpaaDoor.Mac

/- The walk of bytes.Repeat at one byte, 64 times. -/
namespace Go.Proofs.YteecbjpnnklbpaaDoor.Mac
open Go.RowKit
set_option linter.unusedVariables false
set_option maxRecDepth 100000
set_option maxHeartbeats 400000 in
theorem mul64_any (w : World) : Calls Tryd.prog 94 #[.int .u64 1, .int .u64 64] w fun e w' => e = .returned (.tuple #[.int .u64 0, .int .u64 64]) ∧ w = w' := by
  go_enter Tryd.func94, Tryd.ntmps94
  go_wp2
  go_ret2
  exact ⟨rfl, rfl⟩
/-- the first p cells hold c -/
def Fill (c : UInt8) (p : Nat) (xs : List Value) : Prop := 64 ≤ xs.length ∧ p ≤ 64 ∧ ∀ i, i < p → xs[i]? = some (e8 c)
theorem Fill.next {c : UInt8} {p q : Nat} {xs : List Value} (h : Fill c p xs) (hq : p + q ≤ 64) : Fill c (p + q) (splice xs p (List.replicate q (e8 c))) := by
  obtain ⟨h1, h2, h3⟩ := h
  refine ⟨by rw [splice_len]; exact h1, hq, fun i hi => ?_⟩
  rw [splice_get _ _ _ _ (by rw [List.length_replicate]; omega), List.length_replicate]
  by_cases hp : p ≤ i
  · rw [if_pos ⟨hp, hi⟩, List.getElem?_replicate, if_pos (by omega)]
  · rw [if_neg (by omega)]; exact h3 i (by omega)
theorem rep_one (q : Nat) (c : UInt8) : ∀ v ∈ List.replicate q (e8 c), v.oneCell' = true := fun v hv => by
  rw [(List.mem_replicate.1 hv).2]; rfl
set_option maxHeartbeats 800000 in
theorem repeat_any (b o cap : Nat) (c : UInt8) (w : World) (hc : w.cell? ⟨b, o, none⟩ = some (e8 c)) (hb : b < w.heap.size) :
    Calls Tryd.prog 76 #[.slice (some ⟨b, o, none⟩) 1 cap, .int .i64 64] w fun e w' => (∃ A c', e = .returned (.slice A 64 c') ∧ Rd w' w'.heap.size A ((List.replicate 64 c).map e8)) ∧ Below w.heap.size w w' := by
  obtain ⟨cs, hrun, hle, hmax⟩ := Lib.run_makeNoZero (P := Tryd.prog) w #[3] 37 5 Tryd.underlying37 64 (by omega)
  have hcall : (callFunc 95 #[.int .i64 64]).run Tryd.prog w = .ok (.value (.slice (some ⟨w.heap.size, 0, none⟩) 64 cs.size)) (w.drew.drew.alloc (.cells cs 5)) := by
    rw [run_callFunc_extern Tryd.func95 (by kernel_rfl) (by kernel_rfl) (by kernel_rfl) (e := Extern.BytealgMakeNoZero.makeNoZero #[3] #[37]) (by kernel_rfl)]
    have h := hrun
    rw [show ((64 : Nat) : Int) = 64 from rfl] at h
    rw [h]; rfl
  have hcs : (64 : Int) ≤ (cs.size : Int) := by omega
  obtain ⟨h, hh⟩ : ∃ h, h = w.heap.size := ⟨_, rfl⟩
  obtain ⟨W, hW⟩ : ∃ W, W = w.drew.drew.alloc (.cells cs 5) := ⟨_, rfl⟩
  have hB : Blk W h cs.toList := by
    have := Blk.new w.drew.drew cs.toList 5
    rw [hW, hh]; simpa using this
  have bW : Below w.heap.size w W := by rw [hW]; exact (((Below.refl _ _).drew).drew).alloc (Nat.le_refl _) _
  have hcW : W.cell? ⟨b, o, none⟩ = some (e8 c) := (bW.cell (p := ⟨b, o, none⟩) hb).trans hc
  rw [← hW, ← hh] at hcall
  have Hcl : cs.toList.length = cs.size := by simp
  have hhw : w.heap.size ≤ h := by omega
  have HCL := Lib.hid Hcl
  clear hW hrun hmax Hcl hh
  go_enter Tryd.func76, Tryd.ntmps76
  go_wp2_with (first
    | ((go_at_call 94; refine (mul64_any _).mono ?_; rintro e w' ⟨rfl, rfl⟩))
    | ((with_reducible show wpList _ _ _ (⟨some 60, _, _, _, _, _⟩ :: _) _ _); refine wpList_copyN rfl _ _ _ _ rfl rfl rfl [e8 c] rfl Tryd.underlying37 size8 hB (by rw [HCL.out]; simp; omega) ?_ (one_int _ _) ?_; (· (intro j v hv; match j, hv with | 0, hv => (cases hv; rw [Addr.add_lit]; exact hcW) | j + 1, hv => simp at hv)); intro w1 hb1 hg1)
    | go_in)
  have hF : Fill c 1 (splice cs.toList 0 [e8 c]) := by
    have h0 : Fill c 0 cs.toList := ⟨by rw [HCL.out]; omega, by omega, fun i hi => absurd hi (by omega)⟩
    exact h0.next (q := 1) (by omega)
  have bw1 := below_row bW hg1 hhw bW.size
  go_loopw [10] (fun i wr => ∃ (p : Nat) (xs : List Value), 1 ≤ p ∧ i = .int .i64 p ∧ Blk wr h xs ∧ Fill c p xs ∧ Below w.heap.size w wr) (fun i _ => 64 - (intOf i).toNat)
  case atStart => exact ⟨1, _, by omega, rfl, hb1, hF, bw1⟩
  case round =>
    obtain ⟨p, xs, hp, rfl, hbx, hfx, bel⟩ := hrel
    clear hb1 hF bw1 hB hg1
    have h64 := hfx.2.1
    by_cases hlt : p < 64
    · have hne : ¬ 64 = p := by omega
      have hBx := hbx.lt
      have i1 : (p : Int) ≤ 64 := by omega
      have i2 : (p : Int) < 64 := by omega
      have hbs := bel.size
      go_wp2
      refine region_three [0] [1, 2, 3, 4, 5, 6] 7 (by kernel_rfl) (by kernel_rfl) (fun c d v a w h => by cases d <;> exact h) ?_
      simp only [preAct, preOne, opsAt, List.foldl_cons, List.foldl_nil, List.getElem?_cons_zero, List.getElem?_cons_succ, List.getD_cons_zero, List.getD_cons_succ, List.drop_succ_cons, List.drop_zero]
      have inbNe := InB.some
      have inbW := @wrap_small
      have inbU := IntKind.wrap_u8'
      repeat (refine wpQuiet_step (fun K hK => ?_); go_simp; first | (refine hK _ ?_; clear hK K) | (apply Exists.intro; refine ⟨?_, hK _ ?_⟩; (· (intro w' hw'; first | fail | (have hcw := hw'.cell; go_simp; exact rfl))); clear hK K))
      refine wpQuiet_nil ?_
      intro wq hq
      clear inbNe inbW inbU
      have hbq := hbx.on hq.below
      have belq := bel.trans (hq.below.mono hbs)
      clear hq
      obtain ⟨q, hqd⟩ : ∃ q, q = Nat.min p (64 - p) := ⟨_, rfl⟩
      have hq1 : 1 ≤ q := by have : q = min p (64 - p) := hqd; omega
      have hq2 : p + q ≤ 64 := by have : q = min p (64 - p) := hqd; omega
      have hqp : q ≤ p := by have : q = min p (64 - p) := hqd; omega
      have hxl := hfx.1
      refine wpList_copyN rfl _ _ _ _ rfl rfl rfl (List.replicate q (e8 c)) (by rw [List.length_replicate]; exact hqd) Tryd.underlying37 size8 hbq (by rw [List.length_replicate]; omega) ?_ (rep_one q c) ?_
      · intro j v hv
        obtain ⟨hj, rfl⟩ := List.getElem?_eq_some_iff.1 hv
        rw [List.length_replicate] at hj
        rw [Addr.add_lit, Nat.zero_add, hbq.cell (show j < xs.length by omega), List.getElem_replicate]
        have := hfx.2.2 j (by omega)
        rw [List.getElem?_eq_getElem (by omega)] at this
        exact this
      intro w5 hb5 hg5
      rw [List.length_replicate]
      have hF5 := hfx.next hq2
      have bel5 := below_row belq hg5 hhw belq.size
      clear hqd hbq hg5 belq
      go_wp2
      go_roundw
      case rel => exact ⟨p + q, _, by omega, by go_num, hb5, hF5, bel5⟩
      case measure => simp [intOf]; omega
    · obtain rfl : p = 64 := by omega
      have hrd : Rd wr wr.heap.size (some ⟨h, 0, none⟩) ((List.replicate 64 c).map e8) := fun _ => by
        refine ⟨h, 0, rfl, hbx.lt, fun i hi => ?_⟩
        have hi' : i < 64 := by simpa using hi
        have := hfx.2.2 i hi'
        have hl := hfx.1
        rw [Nat.zero_add, hbx.cell (show i < xs.length by omega)]
        rw [List.getElem?_eq_getElem (by omega)] at this
        rw [this, List.getElem_map, List.getElem_replicate]
      clear hfx
      go_wp2
      go_ret
      exact ⟨⟨_, _, rfl, hrd⟩, bel⟩
end Go.Proofs.YteecbjpnnklbpaaDoor.Mac

/- The walks of the package mac, and of the reference's tags. -/
namespace Go.Proofs.YteecbjpnnklbpaaDoor.Mac
open Go.RowKit
open Go.Proofs.YteecbjpnnklbpaaDoor.Sha (Tab sum_any rsum_any sum_len sum)
set_option linter.unusedVariables false
set_option maxRecDepth 100000
theorem xor_rep (l : List UInt8) (c : UInt8) (n : Nat) (h : l.length = n) : xorL l (List.replicate n c) = over l c := by
  apply List.ext_getElem
  · rw [xorL_len, over_len]; simp [h]
  · intro i h1 h2; simp [xorL, over]
set_option maxHeartbeats 400000 in
theorem key_any (A : Option Addr) (l : List UInt8) (n c : Nat) (w : World) (hn : n = l.length) (hr : Rd w w.heap.size A (l.map e8)) (hl : l.length ≤ 1000000000) (hk : Tab w) :
    Calls Tryd.prog 74 #[.slice A n c] w fun e w' => RetB 5 w (key l) e w' := by
  subst hn
  by_cases h : 64 < l.length
  · have hkey := Lib.hid (show key l = padTo (sum l) 64 by rw [key, if_pos h])
    have hs := Lib.hid (sum_len l)
    go_enter Tryd.func74, Tryd.ntmps74
    go_wp2_with fail
    refine (sum_any A l _ _ w rfl hr hl hk).mono ?_
    rintro e w1 ⟨A1, c1, rfl, own1, b1⟩
    go_wp2_with fail
    refine (npad_any A1 (sum l) _ c1 64 64 rfl w1 rfl (by omega) (by omega) (Rd.own own1)).mono ?_
    rintro e w2 ⟨A2, c2, rfl, own2, b2⟩
    go_wp2
    go_ret
    rw [hkey.out]
    exact RetB.after b1 own2 b2
  · have hkey := Lib.hid (show key l = padTo l 64 by rw [key, if_neg h])
    go_enter Tryd.func74, Tryd.ntmps74
    go_wp2_with fail
    refine (npad_any A l _ c 64 64 rfl w rfl (by omega) (by omega) hr).mono ?_
    rintro e w2 ⟨A2, c2, rfl, own2, b2⟩
    go_wp2
    go_ret
    rw [hkey.out]
    exact ⟨A2, c2, rfl, own2, b2⟩
set_option maxHeartbeats 800000 in
theorem over_any (g : Nat) (A : Option Addr) (k : List UInt8) (n cap : Nat) (c : UInt8) (m : Int) (hm : m = (c.toNat : Int)) (w : World) (hn : n = 64) (hk : k.length = 64) (hg : g < w.heap.size) (hc : w.cell? ⟨g, 0, none⟩ = some (.slice A n cap)) (hr : Rd w w.heap.size A (k.map e8)) :
    Calls Tryd.prog 75 #[.int .u8 m, .pointer (some ⟨g, 0, none⟩)] w fun e w' => RetB 5 w (over k c) e w' := by
  subst hm hn
  have Hk := Lib.hid hk
  clear hk
  go_enter Tryd.func75, Tryd.ntmps75
  go_wp2
  go_region_with (first
    | (go_at_call 76; refine (repeat_any w.heap.size 0 1 c _ (by simp) (by simp)).mono ?_; rintro e w1 ⟨⟨A1, c1, rfl, hr1⟩, b1⟩; have hb1 : Below w.heap.size w w1 := bt (b1alloc w (.cells #[.int .u8 (c.toNat : Int)] 5)).drew b1; have hc1 : w1.cell? ⟨g, 0, none⟩ = some (.slice A 64 cap) := (hb1.cell (p := ⟨g, 0, none⟩) hg).trans hc)
    | (go_at_call 58; refine (xor_any A A1 k (List.replicate 64 c) 64 64 cap c1 _ Hk.out.symm rfl (hr.on hb1) hr1 (by rw [Hk.out]; omega) (by rw [List.length_replicate]; omega)).mono ?_; rw [xor_rep k c 64 Hk.out]; rintro e w2 ⟨A2, c2, rfl, own2, b2⟩))
  all_goals
    go_wp2
    go_ret
    exact RetB.after hb1 own2 b2
open Go.Proofs.YteecbjpnnklbpaaDoor.Cat (Pc PcAt Pcs cat lens)
set_option maxHeartbeats 800000 in
theorem tag_any (A : Option Addr) (k : List UInt8) (n c : Nat) (g : Nat) (ps : List Pc) (o d : Nat) (w : World) (hn : n = k.length) (ho : o = ps.length) (hr : Rd w w.heap.size A (k.map e8)) (hkl : k.length ≤ 1000000000)
    (hg : g < w.heap.size) (hp : PcAt w g ps) (hps : Pcs w w.heap.size ps) (hl : lens ps ≤ 500000000) (hpl : ps.length ≤ 1000) (hk : Tab w) :
    Calls Tryd.prog 60 #[.slice A n c, .slice (some ⟨g, 0, none⟩) o d] w fun e w' => RetB 5 w (mac k (cat ps)) e w' := by
  subst hn ho
  obtain ⟨i0, hi0, hz0, hz1, hz2⟩ := info_parts info8
  go_enter Tryd.func60, Tryd.ntmps60
  go_wp2_with fail
  refine (key_any A k _ c w rfl hr hkl hk).mono ?_
  rintro e w1 ⟨A1, c1, rfl, own1, b1⟩
  have hkl := key_len k
  obtain ⟨K, hK⟩ : ∃ K, K = key k := ⟨_, rfl⟩
  rw [← hK] at own1 hkl ⊢
  have HK := Lib.hid hK
  clear hK
  have Hkl := Lib.hid hkl
  rw [hkl] at own1 ⊢
  clear hkl
  go_wp2_with fail
  have hcK : (w1.alloc (.cells #[.slice A1 64 c1] 37)).cell? ⟨w1.heap.size, 0, none⟩ = some (.slice A1 64 c1) := by simp
  have hrK := (Rd.own own1).on (b1alloc w1 (.cells #[.slice A1 64 c1] 37))
  have bW := bt b1 (b1alloc w1 (.cells #[.slice A1 64 c1] 37))
  have hgW : w1.heap.size < (w1.alloc (.cells #[.slice A1 64 c1] 37)).heap.size := by simp
  obtain ⟨W, hW⟩ : ∃ W, W = w1.alloc (.cells #[.slice A1 64 c1] 37) := ⟨_, rfl⟩
  rw [← hW] at hcK hrK bW hgW ⊢
  clear hW own1
  have hBs := bW.size
  refine (over_any w1.heap.size A1 K 64 c1 54 _ rfl W rfl Hkl.out hgW hcK hrK).mono ?_
  rintro e w2 ⟨A2, c2, rfl, own2, b2⟩
  have bt2 := bt bW b2
  have hl2 : (over K 54).length = 64 := by rw [over_len]; exact Hkl.out
  rw [hl2] at own2 ⊢
  have Hl2 := Lib.hid hl2
  clear hl2
  go_wp2_with fail
  refine (Cat.concat_any g ps _ d w2 rfl (Nat.lt_of_lt_of_le hg bt2.size) (hp.on bt2 hg) (hps.on bt2) (by omega) hpl).mono ?_
  rintro e w3 ⟨A3, c3, rfl, own3, b3⟩
  have bt3 := bt bt2 b3
  have own23 := own_on own2 b3
  have hls : (cat ps).length = lens ps := rfl
  rw [hls] at own3 ⊢
  have Hls := Lib.hid hls
  clear hls
  have hb3 : W.heap.size ≤ w3.heap.size := Nat.le_trans b2.size b3.size
  go_wp2_with (first
    | (at_builtin; refine wpList_append_rd _ rfl _ _ _ rfl W.heap.size 5 i0 _ 1 1 Tryd.underlying37 hi0 hz0 hz1 hz2 rfl (by omega) _ 64 _ rfl own23 _ A3 (lens ps) c3 ((cat ps).map e8) rfl (by rw [List.length_map, Hls.out]; omega) (Rd.own own3) (e8_one _) (by simp only [maxLen]; omega) (by omega) hb3 ?_; intro v4 w4 own4 hg4 hat4; obtain ⟨A4, c4, rfl⟩ := own_form own4)
    | fail)
  have bt4 := bt3.grown hg4 bt3.size (fun k hk => Nat.le_trans hBs (own_block own23 hk))
  rw [← List.map_append] at own4
  have hl4 : (over K 54 ++ cat ps).length = 64 + lens ps := by rw [List.length_append, Hl2.out, Hls.out]
  refine (sum_any A4 (over K 54 ++ cat ps) _ c4 w4 hl4.symm (Rd.own own4) (by omega) (hk.on bt4)).mono ?_
  rintro e w5 ⟨A5, c5, rfl, own5, b5⟩
  have bt5 := bt bt4 b5
  have hl5 := sum_len (over K 54 ++ cat ps)
  obtain ⟨I, hI⟩ : ∃ I, I = sum (over K 54 ++ cat ps) := ⟨_, rfl⟩
  rw [← hI] at own5 hl5 ⊢
  have HI := Lib.hid hI
  rw [hl5] at own5 ⊢
  have Hl5 := Lib.hid hl5
  have bW5 : Below W.heap.size W w5 := by
    have x3 : Below W.heap.size W w3 := bt b2 b3
    have x4 := x3.grown hg4 x3.size (fun k hk => own_block own23 hk)
    exact bt x4 b5
  clear hI hl5 hl4 own4 own23 own3 own2 hat4 hg4
  have hcK5 := (bW5.cell (p := ⟨w1.heap.size, 0, none⟩) hgW).trans hcK
  have hgK5 : w1.heap.size < w5.heap.size := Nat.lt_of_lt_of_le hgW bW5.size
  go_wp2_with fail
  refine (over_any w1.heap.size A1 K 64 c1 92 _ rfl w5 rfl Hkl.out hgK5 hcK5 (hrK.on bW5)).mono ?_
  rintro e w6 ⟨A6, c6, rfl, own6, b6⟩
  have bt6 := bt bt5 b6
  have hl6 : (over K 92).length = 64 := by rw [over_len]; exact Hkl.out
  rw [hl6] at own6 ⊢
  have Hl6 := Lib.hid hl6
  clear hl6
  have hI6 := (Rd.own own5).on b6
  have hs5 := bt5.size
  go_wp2_with (first
    | (at_builtin; refine wpList_append_rd _ rfl _ _ _ rfl w5.heap.size 5 i0 _ 1 1 Tryd.underlying37 hi0 hz0 hz1 hz2 rfl (by omega) _ 64 _ rfl own6 _ A5 32 c5 (I.map e8) rfl (by rw [List.length_map, Hl5.out]) hI6 (e8_one _) (by simp only [maxLen]; omega) (by omega) b6.size ?_; intro v7 w7 own7 hg7 hat7; obtain ⟨A7, c7, rfl⟩ := own_form own7)
    | fail)
  have bt7 := bt6.grown hg7 bt6.size (fun k hk => Nat.le_trans hs5 (own_block own6 hk))
  rw [← List.map_append] at own7
  have hl7 : (over K 92 ++ I).length = 64 + 32 := by rw [List.length_append, Hl6.out, Hl5.out]
  refine (sum_any A7 (over K 92 ++ I) _ c7 w7 hl7.symm (Rd.own own7) (by omega) (hk.on bt7)).mono ?_
  rintro e w8 ⟨A8, c8, rfl, own8, b8⟩
  have hres : mac k (cat ps) = sum (over K 92 ++ I) := by rw [mac, inner, HI.out, HK.out]
  have Hres := Lib.hid hres
  clear hres hl7
  go_wp2
  go_ret
  rw [Hres.out]
  exact RetB.after bt7 own8 b8
end Go.Proofs.YteecbjpnnklbpaaDoor.Mac

/- The walks of mac.Of, mac.Two, mac.Check, of the reference's tags, and the example. -/
namespace Go.Proofs.YteecbjpnnklbpaaDoor.Mac
open Go.RowKit
open Go.Proofs.YteecbjpnnklbpaaDoor.Sha (Tab sum_any rsum_any sum_len sum)
open Go.Proofs.YteecbjpnnklbpaaDoor.Cat (Pc PcAt Pcs cat lens)
set_option linter.unusedVariables false
set_option maxRecDepth 100000
set_option maxHeartbeats 400000 in
theorem of_any (A B : Option Addr) (k l : List UInt8) (n c o d : Nat) (w : World) (hn : n = k.length) (ho : o = l.length) (hr : Rd w w.heap.size A (k.map e8)) (hs : Rd w w.heap.size B (l.map e8)) (hkl : k.length ≤ 1000000000) (hl : l.length ≤ 500000000) (hk : Tab w) :
    Calls Tryd.prog 45 #[.slice A n c, .slice B o d] w fun e w' => RetB 5 w (mac k l) e w' := by
  subst hn ho
  have hcat : cat [⟨B, l, d⟩] = l := by simp [Cat.cat]
  have htag := tag_any A k k.length c w.heap.size [⟨B, l, d⟩] 1 1 (w.alloc (.cells #[.slice B l.length d] 37)) rfl rfl (hr.on (b1alloc _ _)) hkl (by simp)
    (by intro j hj
        match j, hj with
        | 0, _ => simp [Cat.Pc.val])
    (by intro p hp
        rw [List.mem_singleton] at hp
        subst hp
        exact hs.on (b1alloc _ _)) (by unfold Cat.lens; rw [hcat]; exact hl) (by simp) (hk.on (b1alloc _ _))
  rw [hcat] at htag
  clear hcat
  go_enter Tryd.func45, Tryd.ntmps45
  go_wp2_with fail
  refine htag.mono ?_
  clear htag
  rintro e w1 ⟨A1, c1, rfl, own1, b1⟩
  go_wp2
  go_ret
  exact RetB.after (b1alloc _ _) own1 b1
set_option maxHeartbeats 400000 in
theorem check_any (A B C : Option Addr) (k l m : List UInt8) (n c o d p f : Nat) (w : World) (hn : n = k.length) (ho : o = l.length) (hp : p = m.length) (hr : Rd w w.heap.size A (k.map e8)) (hs : Rd w w.heap.size B (l.map e8)) (ht : Rd w w.heap.size C (m.map e8))
    (hkl : k.length ≤ 1000000000) (hl : l.length ≤ 100000000) (hk : Tab w) :
    Calls Tryd.prog 52 #[.slice A n c, .slice B o d, .slice C p f] w fun e w' => e = .returned (.bool (R1.sameB (mac k l) m)) ∧ Below w.heap.size w w' := by
  subst hn ho hp
  go_enter Tryd.func52, Tryd.ntmps52
  go_wp2_with fail
  refine (of_any A B k l _ _ _ _ w rfl rfl hr hs hkl (by omega) hk).mono ?_
  rintro e w1 ⟨A1, c1, rfl, own1, b1⟩
  go_wp2_with fail
  refine (equal_any A1 C (mac k l) m _ _ _ _ w1 rfl rfl (Rd.own own1) (ht.on b1)).mono ?_
  rintro e w2 ⟨rfl, rfl⟩
  go_wp2
  go_ret
  exact ⟨rfl, b1⟩
set_option maxHeartbeats 400000 in
theorem rkey_any (A : Option Addr) (l : List UInt8) (n c : Nat) (w : World) (hn : n = l.length) (hr : Rd w w.heap.size A (l.map e8)) (hl : l.length ≤ 1000000000) :
    Calls Tryd.prog 86 #[.slice A n c] w fun e w' => RetB 5 w (key l) e w' := by
  subst hn
  by_cases h : 64 < l.length
  · have hkey := Lib.hid (show key l = padTo (sum l) 64 by rw [key, if_pos h])
    have hs := sum_len l
    go_enter Tryd.func86, Tryd.ntmps86
    go_wp2_with fail
    refine (rsum_any A l _ _ w rfl hr hl).mono ?_
    rintro e w1 ⟨A1, c1, rfl, own1, b1⟩
    go_wp2_with fail
    refine (rpad_any A1 (sum l) _ c1 64 64 rfl w1 rfl (by omega) (by omega) (Rd.own own1) (by omega)).mono ?_
    rintro e w2 ⟨A2, c2, rfl, own2, b2⟩
    clear hs
    go_wp2
    go_ret
    rw [hkey.out]
    exact RetB.after b1 own2 b2
  · have hkey := Lib.hid (show key l = padTo l 64 by rw [key, if_neg h])
    go_enter Tryd.func86, Tryd.ntmps86
    go_wp2_with fail
    refine (rpad_any A l _ c 64 64 rfl w rfl (by omega) (by omega) hr (by omega)).mono ?_
    rintro e w2 ⟨A2, c2, rfl, own2, b2⟩
    go_wp2
    go_ret
    rw [hkey.out]
    exact ⟨A2, c2, rfl, own2, b2⟩
theorem over_take (k : List UInt8) (c : UInt8) (j : Nat) (h : j < k.length) : (over k c).take (j + 1) = (over k c).take j ++ [k[j] ^^^ c] := by
  rw [List.take_succ_eq_append_getElem (by rw [over_len]; exact h)]; simp [over]
set_option maxHeartbeats 400000 in
theorem rover_any (A : Option Addr) (l : List UInt8) (n c : Nat) (x : UInt8) (m : Int) (hm : m = (x.toNat : Int)) (w : World) (hn : n = l.length) (hr : Rd w w.heap.size A (l.map e8)) (hl : l.length ≤ 1000000000) :
    Calls Tryd.prog 64 #[.slice A n c, .int .u8 m] w fun e w' => RetB 5 w (over (key l) x) e w' := by
  subst hm hn
  obtain ⟨i0, hi0, hz0, hz1, hz2⟩ := info_parts info8
  go_enter Tryd.func64, Tryd.ntmps64
  go_wp2_with fail
  refine (rkey_any A l _ c w rfl hr hl).mono ?_
  rintro e w1 ⟨A1, c1, rfl, own1, b1⟩
  have hkl := key_len l
  obtain ⟨K, hK⟩ : ∃ K, K = key l := ⟨_, rfl⟩
  rw [← hK] at own1 hkl ⊢
  have HK := Lib.hid hK
  rw [hkl] at own1 ⊢
  have Hkl := Lib.hid hkl
  clear hK hkl
  have hrK := Rd.own own1
  go_wp2_with fail
  go_loopw [5, 7] (fun v i wr => ∃ k : Nat, k ≤ 64 ∧ i = .int .i64 k ∧ wr.ownsRow w1.heap.size 5 1 v k (((over K x).take k).map e8) ∧ Below w1.heap.size w1 wr) (fun _ i _ => 64 - (intOf i).toNat)
  case atStart => exact ⟨0, by omega, rfl, own_nil _ _ _ _, Below.refl _ _⟩
  case round =>
    obtain ⟨k, hk, rfl, hown, bel⟩ := hrel
    by_cases hlt : k < 64
    · have hkK : k < K.length := by rw [Hkl.out]; exact hlt
      obtain ⟨b, off, rfl, hbb, hc⟩ := (hrK.below bel).get (k := k) (by simpa using hkK)
      rw [List.getElem_map] at hc
      have Ht := Lib.hid (over_take K x k hkK)
      obtain ⟨y, hy⟩ : ∃ y, y = K[k] := ⟨_, rfl⟩
      rw [← hy] at hc Ht
      have hxy := xor8 y x
      obtain ⟨p, hp⟩ : ∃ p, p = y ^^^ x := ⟨_, rfl⟩
      rw [← hp] at hxy Ht
      clear hy hp hkK
      go_wp2_with (at_builtin; refine wpList_append_rd _ rfl _ _ _ rfl w1.heap.size 5 i0 _ 1 1 Tryd.underlying37 hi0 hz0 hz1 hz2 rfl (by omega) _ k _ rfl (hown.alloc _) _ _ 1 1 [e8 p] rfl rfl (Rd.lit wr _ _ _ (wr.heap.size + 1) rfl (by omega)) (one_int _ _) (by simp only [maxLen]; omega) (by omega) (le_alloc bel.size _) ?_; intro v3 w3 hown3 hg3 hat3)
      go_roundw
      case rel => exact ⟨k + 1, by omega, by go_num, by rw [Ht.out, List.map_append]; exact hown3, (bel.alloc bel.size _).grown hg3 (le_alloc bel.size _) (fun g hg => own_block hown hg)⟩
      case measure => simp [intOf]; omega
    · obtain rfl : k = 64 := by omega
      have ht : (over K x).take 64 = over K x := List.take_of_length_le (by rw [over_len, Hkl.out]; omega)
      rw [ht] at hown
      clear ht
      go_wp2
      go_ret
      rw [← HK.out]
      exact RetB.mk (own_base hown b1.size) rfl (bt b1 bel)
end Go.Proofs.YteecbjpnnklbpaaDoor.Mac

/- The reference's tags. -/
namespace Go.Proofs.YteecbjpnnklbpaaDoor.Mac
open Go.RowKit
open Go.Proofs.YteecbjpnnklbpaaDoor.Sha (Tab sum_any rsum_any sum_len sum)
open Go.Proofs.YteecbjpnnklbpaaDoor.Cat (Pc PcAt Pcs cat lens)
set_option linter.unusedVariables false
set_option maxRecDepth 100000
set_option maxHeartbeats 400000 in
theorem rof_any (A B : Option Addr) (k l : List UInt8) (n c o d : Nat) (w : World) (hn : n = k.length) (ho : o = l.length) (hr : Rd w w.heap.size A (k.map e8)) (hs : Rd w w.heap.size B (l.map e8)) (hkl : k.length ≤ 1000000000) (hl : l.length ≤ 500000000) :
    Calls Tryd.prog 48 #[.slice A n c, .slice B o d] w fun e w' => RetB 5 w (mac k l) e w' := by
  subst hn ho
  have h1 : (over (key k) 54).length ≤ 64 := by rw [over_len, key_len]; omega
  have h2 : (over (key k) 92).length ≤ 64 := by rw [over_len, key_len]; omega
  have h3 : (inner k l).length ≤ 32 := by rw [show (inner k l).length = 32 from sum_len _]; omega
  go_enter Tryd.func48, Tryd.ntmps48
  go_wp2_with fail
  refine (rover_any A k _ c 54 _ rfl w rfl hr hkl).mono ?_
  rintro e w1 ⟨A1, c1, rfl, own1, b1⟩
  go_wp2_with fail
  refine (R1.join_any A1 B (over (key k) 54) l _ _ _ _ w1 rfl rfl (Rd.own own1) (hs.on b1) (by omega)).mono ?_
  rintro e w2 ⟨A2, c2, rfl, own2, b2⟩
  have bt2 := bt b1 b2
  go_wp2_with fail
  refine (rsum_any A2 (over (key k) 54 ++ l) _ _ w2 (by rw [List.length_append]) (Rd.own own2) (by rw [List.length_append]; omega)).mono ?_
  rintro e w3 ⟨A3, c3, rfl, own3, b3⟩
  have bt3 := bt bt2 b3
  rw [show sum (over (key k) 54 ++ l) = inner k l from rfl] at own3 ⊢
  go_wp2_with fail
  refine (rover_any A k _ c 92 _ rfl w3 rfl (hr.on bt3) hkl).mono ?_
  rintro e w4 ⟨A4, c4, rfl, own4, b4⟩
  have bt4 := bt bt3 b4
  go_wp2_with fail
  refine (R1.join_any A4 A3 (over (key k) 92) (inner k l) _ _ _ _ w4 rfl rfl (Rd.own own4) ((Rd.own own3).on b4) (by omega)).mono ?_
  rintro e w5 ⟨A5, c5, rfl, own5, b5⟩
  have bt5 := bt bt4 b5
  go_wp2_with fail
  refine (rsum_any A5 (over (key k) 92 ++ inner k l) _ _ w5 (by rw [List.length_append]) (Rd.own own5) (by rw [List.length_append]; omega)).mono ?_
  rintro e w6 ⟨A6, c6, rfl, own6, b6⟩
  clear h1 h2 h3
  go_wp2
  go_ret
  exact RetB.after bt5 own6 b6
end Go.Proofs.YteecbjpnnklbpaaDoor.Mac
