/- The epochs that leave: Leaving. -/
import Derived.Test.YtdkcdojcglmlbaaPol4
namespace Go.Proofs.Ytdkcdojcglmlbaa.Pol
open Go.RowKit Go.Shelf Go.Proofs.Ytdkcdojcglmlbaa.Ch
attribute [local go_sem] Oper.semAt_some
set_option linter.unusedVariables false
set_option maxRecDepth 100000
/-- n numbers from o on -/
def upL (o : Int) (n : Nat) : List Int := (List.range n).map (fun x : Nat => o + (x : Int))
theorem upL_len (o : Int) (n : Nat) : (upL o n).length = n := by simp [upL]
theorem take_up (o : Int) (N k : Nat) (h : k ≤ N) : ((List.finRange N).take k).map (fun x => o + (x.1 : Int)) = upL o k := by
  apply List.ext_getElem
  · simp [upL]; omega
  · intro i h1 h2
    simp [upL]
theorem keptL_up (e o s : Int) (t : List UInt8) : keptL e o s t = upL o (keptN e o s t) := by
  have := take_up o (keptN e o s t) (keptN e o s t) (Nat.le_refl _)
  rwa [List.take_of_length_le (by simp)] at this
/-- how many leave -/
def leaveN (N : Nat) (o m : Int) : Nat := min N (m - o).toNat
theorem cut_at {N k : Nat} (hk : k ≤ N) {pre : List (Fin N)} {x : Fin N} (h : pre ++ [x] = (List.finRange N).take k) : pre = (List.finRange N).take x.1 ∧ pre.length = x.1 := by
  have hl := congrArg List.length h
  simp at hl
  have hx : (pre ++ [x])[pre.length]? = some x := by simp
  rw [h, List.getElem?_take_of_lt (by omega)] at hx
  have hx2 : (List.finRange N)[pre.length]? = some ⟨pre.length, by omega⟩ := by simp [List.getElem?_eq_getElem (show pre.length < (List.finRange N).length by simp; omega)]
  rw [hx2] at hx
  have hx1 : x.1 = pre.length := by injection hx with hx; rw [← hx]
  refine ⟨?_, hx1.symm⟩
  have h3 := congrArg (List.take pre.length) h
  rw [List.take_left', List.take_take, Nat.min_eq_left (by omega)] at h3
  · rw [hx1]; exact h3
  · rfl
theorem leave_all {N : Nat} {o m : Int} (h : ∀ x ∈ List.finRange N, o + (x.1 : Int) < m) : leaveN N o m = N := by
  unfold leaveN
  cases N with
  | zero => simp
  | succ n => have := h ⟨n, by omega⟩ (by simp); simp at this; omega
theorem leave_cut {N : Nat} {o m : Int} {x : Fin N} (h : ∀ y ∈ (List.finRange N).take x.1, o + (y.1 : Int) < m) (hx : ¬ o + (x.1 : Int) < m) : leaveN N o m = x.1 := by
  unfold leaveN
  have hxN := x.2
  by_cases h0 : x.1 = 0
  · omega
  · have hmem : (⟨x.1 - 1, by omega⟩ : Fin N) ∈ (List.finRange N).take x.1 := by
      rw [List.mem_iff_getElem]
      exact ⟨x.1 - 1, by simp; omega, by simp⟩
    have := h _ hmem
    simp at this
    omega
/-- what is in the box: the numbers so far -/
def LvInv (n0 B : Nat) (t e : TypeId) (o : Int) {N : Nat} (pre : List (Fin N)) (X : World) : Prop := ∃ v, Boxed X B t v ∧ X.ownsRow n0 e 1 v pre.length ((pre.map (fun x => o + (x.1 : Int))).map (Value.int .i64)) ∧ True
set_option maxHeartbeats 1000000 in
theorem leaving_any (k d e1 e o s : Int) (t : List UInt8) (ht : t.length ≤ 300) (w : World) (hm : keptN e o s t ≤ 100000) (he0 : -9223372036854775808 ≤ e1) (he1 : e1 ≤ 9223372036854775807) :
    Calls Try.prog 56 #[.agg #[.int .i64 k, .int .i64 d], hdr e o s t, .int .i64 e1] w fun E w' => ∃ v, E = .returned v ∧
      w'.ownsRow w.heap.size 3 1 v (leaveN (keptN e o s t) o (oldest k d e1)) ((upL o (leaveN (keptN e o s t) o (oldest k d e1))).map (Value.int .i64)) ∧ Below w.heap.size w w' := by
  obtain ⟨i0, hi0, hz0, hz1, hz2⟩ := info_parts info64
  have Hep := Lib.hid (fun w => epochs_any e o s t w)
  have Hol := Lib.hid (fun w => poldest_any k d e1 w he0 he1)
  obtain ⟨m, hM⟩ : ∃ m, m = oldest k d e1 := ⟨_, rfl⟩
  rw [← hM] at Hol ⊢
  clear hM
  unfold hdr at Hep ⊢
  refine (callsIn_wide (n := 8)).1 ?_
  refine callsIn_of_wp_marks Try.func56 rfl trivial ?_ rfl
  simp only [Try.ntmps56, List.size_toArray, List.length_cons, List.length_nil, Nat.reduceAdd, Nat.reduceSub, Array.replicate_succ, Array.replicate_zero, List.push_toArray, List.append_toArray, List.nil_append, List.cons_append]
  gi_wp2_with fail
  have bx2 : Boxed (((w.alloc (.cells #[.int .i64 k, .int .i64 d] 46)).alloc (.cells #[.int .i64 e, .int .i64 o, .int .i64 s, .string ⟨t.toArray⟩] 42)).alloc (.cells #[.slice none 0 0] 58)) (w.heap.size + 2) 58 (.slice none 0 0) := by
    have := Boxed.new ((w.alloc (.cells #[.int .i64 k, .int .i64 d] 46)).alloc (.cells #[.int .i64 e, .int .i64 o, .int .i64 s, .string ⟨t.toArray⟩] 42)) 58 (.slice none 0 0)
    simpa using this
  have hd1 : Bl (((w.alloc (.cells #[.int .i64 k, .int .i64 d] 46)).alloc (.cells #[.int .i64 e, .int .i64 o, .int .i64 s, .string ⟨t.toArray⟩] 42)).alloc (.cells #[.slice none 0 0] 58)) (w.heap.size + 1) 42 [.int .i64 e, .int .i64 o, .int .i64 s, .string ⟨t.toArray⟩] := by
    refine (Below.heap_alloc _ _ _ (by simp)).trans ?_
    have := heap_alloc_new (w.alloc (.cells #[.int .i64 k, .int .i64 d] 46)) (.cells #[.int .i64 e, .int .i64 o, .int .i64 s, .string ⟨t.toArray⟩] 42)
    simpa using this
  have b0 : Below w.heap.size w (((w.alloc (.cells #[.int .i64 k, .int .i64 d] 46)).alloc (.cells #[.int .i64 e, .int .i64 o, .int .i64 s, .string ⟨t.toArray⟩] 42)).alloc (.cells #[.slice none 0 0] 58)) :=
    (((Below.refl _ w).alloc (Nat.le_refl _) _).alloc (by simp) _).alloc (by simp; omega) _
  obtain ⟨w0, hw0⟩ : ∃ w0, w0 = (((w.alloc (.cells #[.int .i64 k, .int .i64 d] 46)).alloc (.cells #[.int .i64 e, .int .i64 o, .int .i64 s, .string ⟨t.toArray⟩] 42)).alloc (.cells #[.slice none 0 0] 58)) := ⟨_, rfl⟩
  rw [← hw0] at bx2 hd1 b0
  rw [← hw0]
  clear hw0
  refine ⟨trivial, (callsIn_wide.2 (Hol.out _)).mono ?_⟩
  rintro e2 w1 ⟨rfl, b1⟩
  have bx2' : Boxed w1 (w.heap.size + 2) 58 (.slice none 0 0) := (b1.block _ bx2.lt).trans bx2
  have hs0 : w.heap.size + 3 ≤ w1.heap.size := by have := bx2'.lt; omega
  have hd1' := hd1.on b1
  have b01 := bt b0 b1
  have bA : Below w1.heap.size w1 (w1.alloc (.cells #[.int .i64 m] 3)) := b1alloc _ _
  have bx3 : Boxed (w1.alloc (.cells #[.int .i64 m] 3)) (w.heap.size + 2) 58 (.slice none 0 0) := (bA.block _ bx2'.lt).trans bx2'
  have hl3 : Bl (w1.alloc (.cells #[.int .i64 m] 3)) w1.heap.size 3 [.int .i64 m] := heap_alloc_new w1 _
  have hd3 := hd1'.on bA
  obtain ⟨hc0, hc1, hc2, hc3⟩ := hd3.four
  have bw3 := bt b01 bA
  gi_wp2_with fail
  obtain ⟨w3, hw3⟩ : ∃ w3, w3 = w1.alloc (.cells #[.int .i64 m] 3) := ⟨_, rfl⟩
  have hs3 : w3.heap.size = w1.heap.size + 1 := by rw [hw3]; simp
  rw [← hw3] at bx3 hl3 hd3 bw3
  rw [← hw3]
  clear hw3 bA hc0 hc1 hc2 hc3 bx2' bx2 hd1 hd1' b0 b01
  refine ⟨trivial, (callsIn_wide.2 (Hep.out _)).mono ?_⟩
  rintro e4 w4 ⟨rfl, hH4, b4⟩
  have bx4 : Boxed w4 (w.heap.size + 2) 58 (.slice none 0 0) := (b4.block _ bx3.lt).trans bx3
  have hl4 := hl3.on b4
  have bw4 := bt bw3 b4
  have hHl := lt_of_block hH4
  have hs4 := b4.size
  have Hs3 := Lib.hid hs3
  clear hs3
  have hlw : w.heap.size + 2 < w3.heap.size := by have := Hs3.out; omega
  have hl1 : w1.heap.size < w4.heap.size := by have := Hs3.out; omega
  gi_wp2_with fail
  have hBase : OwnFrom w4.heap.size (fun (pre : List (Fin (keptN e o s t))) X => ((LvInv w4.heap.size (w.heap.size + 2) 58 3 o pre X ∧ KpX (w.heap.size + 2) w4.heap.size w4 X) ∧ Below w.heap.size w X)) :=
    OwnFrom.and (fun s1 A B row hs hg hr => ⟨holdsRow_own w4.heap.size (w.heap.size + 2) 58 3 1 (fun pre : List (Fin (keptN e o s t)) => pre.length) (fun pre => (pre.map (fun x : Fin (keptN e o s t) => o + (x.1 : Int))).map (Value.int .i64)) (fun _ _ => True) s1 A B row hs.1 hg (fun g e => (hr g e).2), hs.2.trans ⟨hg.size, fun j hj hn => hg.block j (Nat.lt_of_lt_of_le hj hs.2.1) (fun e => by have := (hr _ e.symm).1; omega)⟩⟩) (ownFrom_below (Nat.le_refl _) bw4.size)
  refine wpIn_rangeFunc_ownF (n := 8) rfl (by omega) (gf := 135) (lb := #[.pointer (some ⟨w3.heap.size, 0, none⟩)]) rfl trivial (enters_of Try.func135 (by kernel_rfl) rfl)
    (epochs_stops (KpX (w.heap.size + 2) w4.heap.size) (8 - 1) (by omega) w3.heap.size e o s t ht w4 hH4 (fun W W' h k => h.cell (by omega) (by omega) k))
    (fun h k => KpX.trans h k) (fun W l o o' hl h _ _ => KpX.turn W l o' hl) (Below.refl _ _) (fun _ => rfl)
    (fun pre X => ((LvInv w4.heap.size (w.heap.size + 2) 58 3 o pre X ∧ KpX (w.heap.size + 2) w4.heap.size w4 X) ∧ Below w.heap.size w X) ∧ Hid (∀ x ∈ pre, o + (x.1 : Int) < m))
    (fun c pre' X => ∃ pre x, pre' = pre ++ [x] ∧ c = .exit 0 ∧ ¬ o + (x.1 : Int) < m ∧ ((LvInv w4.heap.size (w.heap.size + 2) 58 3 o pre X ∧ KpX (w.heap.size + 2) w4.heap.size w4 X) ∧ Below w.heap.size w X) ∧ Hid (∀ x ∈ pre, o + (x.1 : Int) < m))
    (OwnFrom.and hBase (fun _ _ _ _ hs _ _ => hs))
    (fun c s A B row hs hg hr => by obtain ⟨pre, x, h1, h2, h3, h4, h5⟩ := hs; exact ⟨pre, x, h1, h2, h3, hBase pre A B row h4 hg hr, h5⟩)
    ⟨⟨⟨⟨_, bx4, own_nil _ _ _ _, trivial⟩, KpX.refl _ _ _⟩, bw4⟩, Lib.hid (fun y hy => by cases hy)⟩
    (fun x => { tmps := #[.agg #[.int .i64 k, .int .i64 d], .agg #[.int .i64 e, .int .i64 o, .int .i64 s, .string ⟨t.toArray⟩], .int .i64 e1, .pointer (some ⟨w.heap.size, 0, none⟩), .pointer (some ⟨w.heap.size + 1, 0, none⟩), undef, .pointer (some ⟨w.heap.size + 1 + 1, 0, none⟩), .pointer (some ⟨w1.heap.size, 0, none⟩), .int .i64 (o + (x.1 : Int)),
      .agg #[.int .i64 k, .int .i64 d], .int .i64 e1, .int .i64 m, .agg #[.int .i64 e, .int .i64 o, .int .i64 s, .string ⟨t.toArray⟩], .func (.func 135) #[] #[.pointer (some ⟨w3.heap.size, 0, none⟩)], .int .i64 (o + (x.1 : Int)), undef, undef, undef, undef, undef, undef, undef, undef], defers := [] }) ?assign ?body ?done ?stop
  case assign =>
    intro l x W K hK
    gi_wp2
    exact hK
  case body =>
    rintro l' pre x X ⟨⟨⟨⟨v, hv, hrow, _⟩, hkp⟩, hB⟩, hno⟩ hpm
    have hsz : w4.heap.size ≤ X.heap.size := hkp.1
    have hlX : X.cell? ⟨w1.heap.size, 0, none⟩ = some (.int .i64 m) := (hkp.cell (by omega) (by omega) 0).trans (cell_of_one hl4)
    have hpl : pre.length ≤ 100000 := by omega
    by_cases hxm : o + (x.1 : Int) < m
    · have hge : decide (o + (x.1 : Int) ≥ m) = false := by simp; omega
      have hvc := hv.cell
      have hvf := hv.frozen
      have hlx : w.heap.size + 2 < X.heap.size := hv.lt
      have Hxm := Lib.hid hxm
      clear hxm
      gi_wp2_with (refine wpListIn_append_rd _ rfl _ _ _ rfl w4.heap.size 3 i0 _ 1 8 Try.underlying58 hi0 hz0 hz1 hz2 rfl (by omega) v pre.length _ rfl (hrow.alloc _) _ _ 1 1 [.int .i64 (o + (x.1 : Int))] rfl rfl (Rd.lit X _ _ _ (X.heap.size + 1) rfl (by omega)) (by intro u hu; simp at hu; subst hu; rfl) (by simp only [maxLen]; omega) (by omega) (by simp; omega) ?_; intro v1 w3 hown3 hg3 hat3; obtain ⟨g3, c3, rfl⟩ := ownsRow_succ hown3; have hbx := Lib.hid (box_append hv (by decide) hrow hsz (by omega) (Below.refl _ X) hown3 hg3); have hc3 := hbx.out.1.cell; have hf3 := hbx.out.1.frozen)
      obtain ⟨_, h1, h2, h3, h4, h5⟩ := hbx.out
      refine ⟨h3, h4, ⟨⟨⟨_, h1, by simpa using h2, trivial⟩, hkp.trans h4⟩, hB.trans (h5 _ (by omega))⟩, Lib.hid (fun z hz => ?_)⟩
      rcases List.mem_append.1 hz with hz | hz
      · exact hno.out z hz
      · obtain rfl := List.mem_singleton.1 hz
        exact Hxm.out
    · have hge : decide (o + (x.1 : Int) ≥ m) = true := by simp; omega
      gi_wp2_with fail
      exact ⟨(keeps_below (Below.refl _ _)), pre, x, rfl, rfl, hxm, ⟨⟨⟨v, hv, hrow, trivial⟩, hkp⟩, hB⟩, hno⟩
  case done =>
    rintro D ys X hD rfl ⟨⟨⟨⟨v, hv, hrow, _⟩, hkp⟩, hB⟩, hno⟩ hKD
    rw [List.length_finRange] at hrow
    obtain ⟨A2, c2, rfl⟩ := own_form hrow
    have hvc := hv.cell
    have hvf := hv.frozen
    have hDlt : D < X.heap.size := (Array.getElem?_eq_some_iff.1 hKD).1
    have hv2 := hv.set (.slice A2 (keptN e o s t) c2)
    have hv2c := hv2.cell
    have hKD2 : (X.setCell ⟨w.heap.size + 2, 0, none⟩ (.slice A2 (keptN e o s t) c2)).heap[D]? = some (.deferred (some [])) := ((grownBy_setCell' X (w.heap.size + 2) _).block D hDlt (by simp; omega)).trans hKD
    have hrow2 := hrow.kept (grownBy_setCell' X (w.heap.size + 2) (.slice A2 (keptN e o s t) c2)) (.inr (hv.not_row (by decide) hrow).symm)
    have hB2 := hB.setCell (p := ⟨w.heap.size + 2, 0, none⟩) (by show w.heap.size ≤ w.heap.size + 2; omega) (.slice A2 (keptN e o s t) c2)
    have hrowN : (X.setCell ⟨w.heap.size + 2, 0, none⟩ (.slice A2 (keptN e o s t) c2)).ownsRow w4.heap.size 3 1 (.slice A2 (keptN e o s t) c2) (leaveN (keptN e o s t) o m) ((upL o (leaveN (keptN e o s t) o m)).map (Value.int .i64)) := by
      rw [leave_all hno.out, ← take_up o (keptN e o s t) (keptN e o s t) (Nat.le_refl _), List.take_of_length_le (by simp)]
      exact hrow2
    gi_wp2_with fail
    have hv3 : Boxed ((X.setCell ⟨w.heap.size + 1 + 1, 0, none⟩ (.slice A2 (keptN e o s t) c2)).putObj D (.deferred none)) (w.heap.size + 1 + 1) 58 (.slice A2 (keptN e o s t) c2) := by
      refine ((grownBy_putObj' _ D _).block (w.heap.size + 1 + 1) hv2.lt (by simp; omega)).trans hv2
    have hv3c := hv3.cell
    refine ⟨by simp, .inl ⟨_, _, rfl, run_takeDeferred hKD2, ?_⟩⟩
    refine ⟨.slice A2 (keptN e o s t) c2, (by simp [results, Try.results56, go_sem, hv3c]), ?_⟩
    refine ⟨_, rfl, own_base (ownsRow_putObj hrowN _ hKD2 rfl) bw4.size, ?_⟩
    exact hB2.trans (belowK_b (w := w) (Nat.le_refl _) _ D _ _ (by have := bw4.size; omega) hKD2 rfl rfl)
  case stop =>
    rintro D c pre' X hD ⟨k', hk', hpre'⟩ ⟨pre, x, rfl, rfl, hxm, ⟨⟨⟨v, hv, hrow, _⟩, hkp⟩, hB⟩, hno⟩ hKD
    obtain ⟨hp1, hp2⟩ := cut_at hk' hpre'
    have hlv : leaveN (keptN e o s t) o m = x.1 := leave_cut (by rw [← hp1]; exact hno.out) hxm
    have hxl := x.2
    obtain ⟨q, hq⟩ : ∃ q, q = x.1 := ⟨_, rfl⟩
    rw [hp2, hp1, ← hq, take_up o _ q (by omega)] at hrow
    rw [← hq] at hlv
    rw [← hlv] at hrow
    clear hlv hq hp1 hp2 hpre'
    obtain ⟨A2, c2, rfl⟩ := own_form hrow
    have hvc := hv.cell
    have hvf := hv.frozen
    have hDlt : D < X.heap.size := (Array.getElem?_eq_some_iff.1 hKD).1
    have hv2 := hv.set (.slice A2 (leaveN (keptN e o s t) o m) c2)
    have hv2c := hv2.cell
    have hKD2 : (X.setCell ⟨w.heap.size + 2, 0, none⟩ (.slice A2 (leaveN (keptN e o s t) o m) c2)).heap[D]? = some (.deferred (some [])) := ((grownBy_setCell' X (w.heap.size + 2) _).block D hDlt (by simp; omega)).trans hKD
    have hrowN := hrow.kept (grownBy_setCell' X (w.heap.size + 2) (.slice A2 (leaveN (keptN e o s t) o m) c2)) (.inr (hv.not_row (by decide) hrow).symm)
    have hB2 := hB.setCell (p := ⟨w.heap.size + 2, 0, none⟩) (by show w.heap.size ≤ w.heap.size + 2; omega) (.slice A2 (leaveN (keptN e o s t) o m) c2)
    gi_wp2_with fail
    have hv3 : Boxed ((X.setCell ⟨w.heap.size + 1 + 1, 0, none⟩ (.slice A2 (leaveN (keptN e o s t) o m) c2)).putObj D (.deferred none)) (w.heap.size + 1 + 1) 58 (.slice A2 (leaveN (keptN e o s t) o m) c2) := by
      refine ((grownBy_putObj' _ D _).block (w.heap.size + 1 + 1) hv2.lt (by simp; omega)).trans hv2
    have hv3c := hv3.cell
    refine ⟨by simp, .inl ⟨_, _, rfl, run_takeDeferred hKD2, ?_⟩⟩
    refine ⟨.slice A2 (leaveN (keptN e o s t) o m) c2, (by simp [results, Try.results56, go_sem, hv3c]), ?_⟩
    refine ⟨_, rfl, own_base (ownsRow_putObj hrowN _ hKD2 rfl) bw4.size, ?_⟩
    exact hB2.trans (belowK_b (w := w) (Nat.le_refl _) _ D _ _ (by have := bw4.size; omega) hKD2 rfl rfl)
end Go.Proofs.Ytdkcdojcglmlbaa.Pol
