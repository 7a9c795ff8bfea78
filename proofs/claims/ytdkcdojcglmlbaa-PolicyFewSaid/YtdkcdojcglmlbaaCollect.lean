/- The library's slices.Collect over the epochs that are kept. -/
import Derived.Test.YtdkcdojcglmlbaaPolSeq
import Derived.Test.YtdkcdojcglmlbaaRegionIn
namespace Go.Proofs.Ytdkcdojcglmlbaa.Pol
open Go.RowKit Go.Shelf Go.Proofs.Ytdkcdojcglmlbaa.Ch
attribute [local go_sem] Oper.semAt_some
set_option linter.unusedVariables false
set_option maxRecDepth 100000
/-- what is added to a slice in a variable's box, as one step -/
theorem box_append {W Wq w1 : World} {n0 B : Nat} {t e : TypeId} {v v' : Value} {k m : Nat} {xs ys : List Value} {tmp : Obj}
    (hv : Boxed W B t v) (hte : t ≠ e) (hrow : W.ownsRow n0 e 1 v k xs) (hn0 : n0 ≤ W.heap.size) (hb : B < n0) (bq : Below W.heap.size W Wq)
    (hown : w1.ownsRow n0 e 1 v' m ys) (hg : (Wq.alloc tmp).grownBy w1 v.ownBlock) :
    Boxed w1 B t v ∧ Boxed (w1.setCell ⟨B, 0, none⟩ v') B t v' ∧ (w1.setCell ⟨B, 0, none⟩ v').ownsRow n0 e 1 v' m ys ∧ KeepsOthers W (w1.setCell ⟨B, 0, none⟩ v') ∧ KpX B n0 W (w1.setCell ⟨B, 0, none⟩ v') ∧
      ∀ n1, n1 ≤ B → Below n1 W (w1.setCell ⟨B, 0, none⟩ v') := by
  have hvq : Boxed Wq B t v := (bq.block B hv.lt).trans hv
  have hrowq : Wq.ownsRow n0 e 1 v k xs := own_on hrow bq
  have hv1 : Boxed w1 B t v := (hvq.alloc tmp).kept hg (hvq.not_row hte hrowq)
  have hob : ∀ g, v.ownBlock = some g → n0 ≤ g := fun g hg => own_block hrow hg
  refine ⟨hv1, hv1.set v', hown.kept (grownBy_setCell' w1 B v') (.inr (hv1.not_row hte hown).symm), ?_, ?_, ?_⟩
  · refine (keeps_below bq).trans (((KeepsOthers.alloc Wq tmp).trans (KeepsOthers.of_grownBy hg fun j o ej hj => ?_)).trans (KeepsOthers.setCell _ _ _))
    rcases (hrowq.alloc tmp).2 with ⟨rfl, _⟩ | ⟨g, cap, cur, rfl, _, hgb, _⟩
    · simp [Value.ownBlock] at ej
    · obtain rfl : g = j := by simpa [Value.ownBlock] using ej
      rw [hgb] at hj; cases hj; rfl
  · have hs := grownBy_setCell' w1 B v'
    have hq1 : Wq.heap.size < (Wq.alloc tmp).heap.size := by simp
    refine ⟨by have := hs.size; have := hg.size; have := bq.size; omega, fun j hj hjB => ?_⟩
    have hjW : j < W.heap.size := by omega
    have hjQ : j < Wq.heap.size := Nat.lt_of_lt_of_le hjW bq.size
    have hj1 : j < (Wq.alloc tmp).heap.size := by omega
    have hw1 : j < w1.heap.size := Nat.lt_of_lt_of_le hj1 hg.size
    rw [hs.block j hw1 (fun e => hjB (by cases e; rfl)), hg.block j hj1 (fun e => by have := hob j e.symm; omega), Below.heap_alloc _ _ _ (by omega), bq.block j hjW]
  · intro n1 hn1
    have b1 : Below n1 W Wq := bq.mono (by omega)
    have b2 : Below n1 W (Wq.alloc tmp) := b1.alloc (by have := bq.size; omega) tmp
    have b3 := b2.grown hg (by have := bq.size; simp; omega) (fun g hg => by have := hob g hg; omega)
    exact b3.setCell (p := ⟨B, 0, none⟩) hn1 v'
/-- the epochs that are kept -/
def keptL (e o s : Int) (t : List UInt8) : List Int := (List.finRange (keptN e o s t)).map (fun x => o + (x.1 : Int))
theorem keptL_len (e o s : Int) (t : List UInt8) : (keptL e o s t).length = keptN e o s t := by unfold keptL; simp
theorem info64 : (Try.prog.info? 3).map (fun i => (i.zero, i.size, i.bytes)) = some (some (.int .i64 0), 1, 8) := by kernel_rfl
set_option maxHeartbeats 1000000 in
theorem appendSeq_any (H : Nat) (e o s : Int) (t : List UInt8) (ht : t.length ≤ 300) (w : World) (hH : Bl w H 42 [.int .i64 e, .int .i64 o, .int .i64 s, .string ⟨t.toArray⟩]) (hm : keptN e o s t ≤ 100000) :
    Calls Try.prog 134 #[.slice none 0 0, .func (.func 135) #[] #[.pointer (some ⟨H, 0, none⟩)]] w fun E w' => ∃ v, E = .returned v ∧ w'.ownsRow w.heap.size 3 1 v (keptL e o s t).length ((keptL e o s t).map (Value.int .i64)) ∧ Below w.heap.size w w' := by
  obtain ⟨i0, hi0, hz0, hz1, hz2⟩ := info_parts info64
  have hHl := lt_of_block hH
  refine (callsIn_wide (n := 8)).1 ?_
  refine callsIn_of_wp_marks Try.func134 rfl trivial ?_ rfl
  simp only [Try.ntmps134, List.size_toArray, List.length_cons, List.length_nil, Nat.reduceAdd, Nat.reduceSub, Array.replicate_succ, Array.replicate_zero, List.push_toArray, List.append_toArray, List.nil_append, List.cons_append]
  gi_wp2_with fail
  obtain ⟨w1, hw1⟩ : ∃ w1, w1 = w.alloc (.cells #[.slice none 0 0] 58) := ⟨_, rfl⟩
  have box1 : Boxed w1 w.heap.size 58 (.slice none 0 0) := by rw [hw1]; exact Boxed.new _ _ _
  have bw1 : Below w.heap.size w w1 := by rw [hw1]; exact b1alloc _ _
  have hs1 : w1.heap.size = w.heap.size + 1 := by rw [hw1]; simp
  have hH1 := hH.on bw1
  rw [← hw1]
  clear hw1
  have hlw : w.heap.size < w1.heap.size := by omega
  have Hs1 := Lib.hid hs1
  clear hs1
  refine wpIn_rangeFunc_ownF (n := 8) rfl (by omega) (gf := 135) (lb := #[.pointer (some ⟨H, 0, none⟩)]) rfl trivial (enters_of Try.func135 (by kernel_rfl) rfl)
    (epochs_stops (KpX w.heap.size w1.heap.size) (8 - 1) (by omega) H e o s t ht w1 hH1 (fun W W' h k => h.cell (by omega) (by omega) k))
    (fun h k => KpX.trans h k) (fun W l o o' hl h _ _ => KpX.turn W l o' hl) (Below.refl _ _) (fun _ => rfl)
    (fun pre X => ((∃ v, Boxed X w.heap.size 58 v ∧ X.ownsRow w1.heap.size 3 1 v pre.length ((pre.map (fun x => o + (x.1 : Int))).map (Value.int .i64)) ∧ True) ∧ KpX w.heap.size w1.heap.size w1 X) ∧ Below w.heap.size w X)
    (fun _ _ _ => False)
    (OwnFrom.and (fun s A B row hs hg hr => ⟨holdsRow_own w1.heap.size w.heap.size 58 3 1 (fun pre : List (Fin _) => pre.length) (fun pre => (pre.map (fun x => o + (x.1 : Int))).map (Value.int .i64)) (fun _ _ => True) s A B row hs.1 hg (fun g e => (hr g e).2), hs.2.trans ⟨hg.size, fun j hj hn => hg.block j (Nat.lt_of_lt_of_le hj hs.2.1) (fun e => by have := (hr _ e.symm).1; omega)⟩⟩) (ownFrom_below (Nat.le_refl _) bw1.size))
    (fun _ _ _ _ _ hs _ _ => hs)
    ⟨⟨⟨_, box1, own_nil _ _ _ _, trivial⟩, KpX.refl _ _ _⟩, bw1⟩
    (fun x => { tmps := #[.slice none 0 0, .func (.func 135) #[] #[.pointer (some ⟨H, 0, none⟩)], .pointer (some ⟨w.heap.size, 0, none⟩), undef, .slice none 0 0, .int .i64 (o + (x.1 : Int)), .func (.func 135) #[] #[.pointer (some ⟨H, 0, none⟩)], .int .i64 (o + (x.1 : Int)), undef, undef, undef, undef, undef], defers := [] }) ?assign ?body ?done ?stop
  case assign =>
    intro l x W K hK
    gi_wp2
    exact hK
  case body =>
    rintro l' pre x X ⟨⟨⟨v, hv, hrow, _⟩, hkp⟩, hB⟩ hpm
    have hsz : w1.heap.size ≤ X.heap.size := hkp.1
    have hvc := hv.cell
    have hvf := hv.frozen
    have hlx : w.heap.size < X.heap.size := hv.lt
    have hpl : pre.length ≤ 100000 := by omega
    gi_wp2_with (refine wpListIn_append_rd _ rfl _ _ _ rfl w1.heap.size 3 i0 _ 1 8 Try.underlying58 hi0 hz0 hz1 hz2 rfl (by omega) v pre.length _ rfl (hrow.alloc _) _ _ 1 1 [.int .i64 (o + (x.1 : Int))] rfl rfl (Rd.lit X _ _ _ (X.heap.size + 1) rfl (by omega)) (by intro u hu; simp at hu; subst hu; rfl) (by simp only [maxLen]; omega) (by omega) (by simp; omega) ?_; intro v1 w3 hown3 hg3 hat3; obtain ⟨g3, c3, rfl⟩ := ownsRow_succ hown3; have hbx := Lib.hid (box_append hv (by decide) hrow hsz hlw (Below.refl _ X) hown3 hg3); have hc3 := hbx.out.1.cell; have hf3 := hbx.out.1.frozen)
    obtain ⟨_, h1, h2, h3, h4, h5⟩ := hbx.out
    exact ⟨h3, h4, ⟨⟨_, h1, by simpa using h2, trivial⟩, hkp.trans h4⟩, hB.trans (h5 _ (Nat.le_refl _))⟩
  case done =>
    rintro D ys X hD rfl ⟨⟨⟨v, hv, hrow, _⟩, hkp⟩, hB⟩ hKD
    have hvc := hv.cell
    have hvf := hv.frozen
    rw [List.length_finRange] at hrow
    obtain ⟨A2, c2, rfl⟩ := own_form hrow
    have hDlt : D < X.heap.size := (Array.getElem?_eq_some_iff.1 hKD).1
    gi_wp2
    refine ⟨by simp, .inl ⟨_, _, rfl, run_takeDeferred hKD, ?_⟩⟩
    refine ⟨.slice A2 (keptN e o s t) c2, (by simp [results, Try.results134, go_sem]), ?_⟩
    refine ⟨_, rfl, ?_, hB.trans (belowK_b (w := w) (Nat.le_refl _) _ D _ _ (by have := bw1.size; omega) hKD rfl rfl)⟩
    rw [keptL_len]
    exact own_base (ownsRow_putObj hrow _ hKD rfl) bw1.size
  case stop =>
    rintro D c pre W _ _ h _
    exact h.elim
end Go.Proofs.Ytdkcdojcglmlbaa.Pol
