/- The walk of hex.Rows: the rows' texts, collected in a range over the library's slices.Chunk. -/
import Derived.Test.YtknjkafjeicmbaaHex
import Derived.Test.YtknjkafjeicmbaaHexBackPlain
import Derived.Test.YtknjkafjeicmbaaChunk2
import Derived.Test.YtknjkafjeicmbaaRegionIn
import Derived.Outline
namespace Go.Proofs.Ytknjkafjeicmbaa.Hex
open Go.RowKit Go.Shelf Go.Proofs.Ytknjkafjeicmbaa.Ch
set_option linter.unusedVariables false
set_option maxRecDepth 100000
attribute [local go_sem] Oper.semAt_some

/-- a string's value -/
def sV (x : List UInt8) : Value := .string ⟨x.toArray⟩
theorem sV_one (l : List (List UInt8)) : ∀ u ∈ l.map sV, u.oneCell' = true := by
  intro u hu
  obtain ⟨x, _, rfl⟩ := List.mem_map.1 hu
  rfl
/-- the text of the k-th row -/
def rowT (l : List UInt8) (wd k : Nat) : List UInt8 := print ((l.drop (wd * k)).take wd)
theorem rows_eq (l : List UInt8) (wd m : Nat) : (List.finRange m).map (fun x => rowT l wd x.1) = rows l wd m := by
  apply List.ext_getElem
  · simp [rows]
  · intro i h1 h2
    simp [rows, rowT]
/-- how many rows -/
def rowN (n wd : Nat) : Nat := (n + wd - 1) / wd
theorem rowN_lt {n wd : Nat} (hw : 1 ≤ wd) (k : Nat) : k < rowN n wd ↔ wd * k < n := by
  unfold rowN
  rw [Nat.lt_iff_add_one_le, Nat.le_div_iff_mul_le hw, Nat.add_mul, Nat.mul_comm k wd]
  omega
theorem rowN_le {n wd : Nat} (hw : 1 ≤ wd) : rowN n wd ≤ n := by
  unfold rowN
  rcases Nat.eq_zero_or_pos n with h | h
  · subst h; rw [Nat.zero_add, Nat.div_eq_of_lt (by omega)]; exact Nat.le_refl _
  · have : (n + wd - 1) / wd ≤ n := by
      rw [Nat.div_le_iff_le_mul_add_pred hw]
      have := Nat.le_mul_of_pos_right wd h
      have h2 : wd * n = n + (wd - 1) * n := by
        obtain ⟨u, rfl⟩ : ∃ u, wd = u + 1 := ⟨wd - 1, by omega⟩
        rw [Nat.add_mul]; simp; omega
      omega
    exact this
/-- what is added to a slice in a variable's box, as one step -/
theorem box_append {W Wq w1 : World} {n0 B : Nat} {t e : TypeId} {v v' : Value} {k m : Nat} {xs ys : List Value} {tmp : Obj}
    (hv : Boxed W B t v) (hte : t ≠ e) (hrow : W.ownsRow n0 e 1 v k xs) (hn0 : n0 ≤ W.heap.size) (hb : B < n0) (bq : Below W.heap.size W Wq)
    (hown : w1.ownsRow n0 e 1 v' m ys) (hg : (Wq.alloc tmp).grownBy w1 v.ownBlock) :
    Boxed w1 B t v ∧ Boxed (w1.setCell ⟨B, 0, none⟩ v') B t v' ∧ (w1.setCell ⟨B, 0, none⟩ v').ownsRow n0 e 1 v' m ys ∧ KeepsOthers W (w1.setCell ⟨B, 0, none⟩ v') ∧ KpX B n0 W (w1.setCell ⟨B, 0, none⟩ v') ∧
      ∀ n1, n1 ≤ B → Below n1 W (w1.setCell ⟨B, 0, none⟩ v') := by
  have hvq : Boxed Wq B t v := (bq.block B hv.lt).trans hv
  have hrowq : Wq.ownsRow n0 e 1 v k xs := own_on hrow bq
  have hv1 : Boxed w1 B t v := (hvq.alloc tmp).kept hg (hvq.not_row hte hrowq)
  have hob : ∀ g, v.ownBlock = some g → n0 ≤ g := fun g hg => own_block hrow hg
  refine ⟨hv1, hv1.set v', hown.kept (grownBy_setCell' w1 B v') (.inr (hv1.not_row hte hown).symm), ?_, ?_, ?_⟩
  · refine (keeps_below bq).trans (((KeepsOthers.alloc Wq tmp).trans (KeepsOthers.of_grownBy hg fun j o ej hj => ?_)).trans (KeepsOthers.setCell _ _ _))
    rcases (hrowq.alloc tmp).2 with ⟨rfl, _⟩ | ⟨g, cap, cur, rfl, _, hgb, _⟩
    · simp [Value.ownBlock] at ej
    · obtain rfl : g = j := by simpa [Value.ownBlock] using ej
      rw [hgb] at hj; cases hj; rfl
  · have hs := grownBy_setCell' w1 B v'
    have hq1 : Wq.heap.size < (Wq.alloc tmp).heap.size := by simp
    refine ⟨by have := hs.size; have := hg.size; have := bq.size; omega, fun j hj hjB => ?_⟩
    have hjW : j < W.heap.size := by omega
    have hjQ : j < Wq.heap.size := Nat.lt_of_lt_of_le hjW bq.size
    have hj1 : j < (Wq.alloc tmp).heap.size := by omega
    have hw1 : j < w1.heap.size := Nat.lt_of_lt_of_le hj1 hg.size
    rw [hs.block j hw1 (fun e => hjB (by cases e; rfl)), hg.block j hj1 (fun e => by have := hob j e.symm; omega), Below.heap_alloc _ _ _ (by omega), bq.block j hjW]
  · intro n1 hn1
    have b1 : Below n1 W Wq := bq.mono (by omega)
    have b2 : Below n1 W (Wq.alloc tmp) := b1.alloc (by have := bq.size; omega) tmp
    have b3 := b2.grown hg (by have := bq.size; simp; omega) (fun g hg => by have := hob g hg; omega)
    exact b3.setCell (p := ⟨B, 0, none⟩) hn1 v'
theorem infoS : (Try.prog.info? 9).map (fun i => (i.zero, i.size, i.bytes)) = some (some (.string ⟨#[]⟩), 1, 16) := by kernel_rfl
/-- all texts of rows -/
def rowsZ (l : List UInt8) (wd : Int) : List (List UInt8) := if wd < 1 ∨ 64 < wd then [] else rows l wd.toNat (rowN l.length wd.toNat)
set_option maxHeartbeats 1000000 in
theorem rows_any (A : Option Addr) (l : List UInt8) (n c : Nat) (wd : Int) (w : World) (hn : n = l.length) (hr : Rd w w.heap.size A (l.map e8)) (hl : l.length ≤ 100000) (hc : l.length ≤ c) (hcm : c ≤ maxLen) :
    Calls Try.prog 40 #[.slice A n c, .int .i64 wd] w fun e w' => ∃ v, e = .returned v ∧ w'.ownsRow w.heap.size 9 1 v (rowsZ l wd).length ((rowsZ l wd).map sV) ∧ Below w.heap.size w w' := by
  subst hn
  obtain ⟨i0, hi0, hz0, hz1, hz2⟩ := info_parts infoS
  by_cases hbad : wd < 1 ∨ 64 < wd
  · have hz : rowsZ l wd = [] := if_pos hbad
    rw [hz]
    have Hz := Lib.hid hz
    clear hz
    by_cases h1 : wd < 1
    · clear hbad
      go_enter Try.func40, Try.ntmps40
      go_wp2
      refine bodyPost_ret (v := .slice none 0 0) (by simp [results, Try.results40, go_sem]) rfl ⟨_, rfl, own_nil _ _ _ _, b1alloc _ _⟩
    · have h2 : 64 < wd := by omega
      clear hbad
      go_enter Try.func40, Try.ntmps40
      go_wp2
      refine bodyPost_ret (v := .slice none 0 0) (by simp [results, Try.results40, go_sem]) rfl ⟨_, rfl, own_nil _ _ _ _, b1alloc _ _⟩
  · have h1 : ¬ wd < 1 := fun h => hbad (.inl h)
    have h2 : ¬ 64 < wd := fun h => hbad (.inr h)
    obtain ⟨W, rfl⟩ : ∃ W : Nat, wd = (W : Int) := ⟨wd.toNat, by omega⟩
    have hz : rowsZ l W = rows l W (rowN l.length W) := by rw [rowsZ, if_neg hbad, Int.toNat_natCast]
    have hW1 : 1 ≤ W := by omega
    have hW2 : W ≤ 64 := by omega
    obtain ⟨m, hm⟩ : ∃ m, m = rowN l.length W := ⟨_, rfl⟩
    have hml : m ≤ l.length := by rw [hm]; exact rowN_le hW1
    have hlt : ∀ k, k < m ↔ W * k < l.length := fun k => by rw [hm]; exact rowN_lt hW1 k
    rw [hz, ← hm, ← rows_eq, List.length_map, List.length_finRange]
    obtain ⟨b, off, hA, hbs⟩ : ∃ b off, (0 < l.length → A = some ⟨b, off, none⟩) ∧ (0 < l.length → b < w.heap.size) := by
      by_cases h0 : 0 < l.length
      · obtain ⟨b, off, hb, hlt, _⟩ := hr (by intro e; rw [List.map_eq_nil_iff] at e; subst e; simp at h0)
        exact ⟨b, off, fun _ => hb, fun _ => hlt⟩
      · exact ⟨0, 0, fun h => absurd h h0, fun h => absurd h h0⟩
    have Hm := Lib.hid hm
    have Hlt := Lib.hid hlt
    have HA := Lib.hid hA
    have Hb := Lib.hid hbs
    have Hr := Lib.hid hr
    clear hz hm hlt hA hbs hbad hr
    refine (callsIn_wide (n := 8)).1 ?_
    refine callsIn_of_wp_marks Try.func40 rfl trivial ?_ rfl
    simp only [Try.ntmps40, List.size_toArray, List.length_cons, List.length_nil, Nat.reduceAdd, Nat.reduceSub, Array.replicate_succ, Array.replicate_zero, List.push_toArray, List.append_toArray, List.nil_append, List.cons_append]
    gi_wp2_with fail
    obtain ⟨w1, hw1⟩ : ∃ w1, w1 = w.alloc (.cells #[.slice none 0 0] 38) := ⟨_, rfl⟩
    have box1 : Boxed w1 w.heap.size 38 (.slice none 0 0) := by rw [hw1]; exact Boxed.new _ _ _
    have bw1 : Below w.heap.size w w1 := by rw [hw1]; exact b1alloc _ _
    have hs1 : w1.heap.size = w.heap.size + 1 := by rw [hw1]; simp
    rw [← hw1]
    clear hw1
    refine ⟨trivial, (callsIn_wide.2 (wchunk_any A l.length c W hW1 _ rfl w1)).mono ?_⟩
    rintro e w6 ⟨rfl, cs6, cn6, bw6, hs6⟩
    have hlw : w.heap.size < w1.heap.size := by omega
    clear hs1
    have box6 : Boxed w6 w.heap.size 38 (.slice none 0 0) := (bw6.block _ (by omega)).trans box1
    have bt6 := bt bw1 bw6
    have hsz6 := bw6.size
    have hrd6 := Hr.out.on bt6
    have hb6 := Hb.out
    clear bw6
    gi_wp2_with fail
    refine wpIn_rangeFunc_ownF (n := 8) rfl (by omega) (gf := 77) (lb := #[.pointer (some ⟨w1.heap.size, 0, none⟩), .pointer (some ⟨w1.heap.size + 1, 0, none⟩)]) rfl trivial (enters_of Try.func77 (by kernel_rfl) rfl)
      (wchunk_stops (KpX w.heap.size w6.heap.size) (8 - 1) (by omega) w1.heap.size (w1.heap.size + 1) b off l.length W m c A HA.out ⟨hW1, by omega⟩ Hlt.out (by omega) hc hcm w6 (by omega) (by omega) (fun W W' h => h.cell (by omega) (by omega) 0) (fun W W' h => h.cell (by omega) (by omega) 0) cs6 cn6)
      (fun h k => KpX.trans h k) (fun W l o o' hl h _ _ => KpX.turn W l o' hl) (Below.refl _ _) (fun _ => rfl)
      (fun pre X => ((∃ v, Boxed X w.heap.size 38 v ∧ X.ownsRow w6.heap.size 9 1 v pre.length ((pre.map (fun x => rowT l W x.1)).map sV) ∧ True) ∧ KpX w.heap.size w6.heap.size w6 X) ∧ Below w.heap.size w X)
      (fun _ _ _ => False)
      (OwnFrom.and (fun s A B row hs hg hr => ⟨holdsRow_own w6.heap.size w.heap.size 38 9 1 (fun pre : List (Fin m) => pre.length) (fun pre => (pre.map (fun x => rowT l W x.1)).map sV) (fun _ _ => True) s A B row hs.1 hg (fun g e => (hr g e).2), hs.2.trans ⟨hg.size, fun j hj hn => hg.block j (Nat.lt_of_lt_of_le hj hs.2.1) (fun e => by have := (hr _ e.symm).1; omega)⟩⟩) (ownFrom_below (Nat.le_refl _) bt6.size))
      (fun _ _ _ _ _ hs _ _ => hs)
      ⟨⟨⟨_, box6, own_nil _ _ _ _, trivial⟩, KpX.refl _ _ _⟩, bt6⟩
      (fun x => { tmps := #[.slice A l.length c, .int .i64 W, undef, undef, .pointer (some ⟨w.heap.size, 0, none⟩), Ch.wpart b off l.length W x.1, .int .i64 W, .bool false, .bool false, .int .i64 W, .bool false, .bool false, .slice A l.length c, .int .i64 W,
        .func (.func 77) #[] #[.pointer (some ⟨w1.heap.size, 0, none⟩), .pointer (some ⟨w1.heap.size + 1, 0, none⟩)], Ch.wpart b off l.length W x.1, undef, undef, undef, undef, undef, undef], defers := [] }) ?assign ?body ?done ?stop
    case assign =>
      intro l x W K hK
      gi_wp2
      exact hK
    case body =>
      rintro l' pre x X ⟨⟨⟨v, hv, hrow, _⟩, hkp⟩, hB⟩ hpm
      have hxm := (Hlt.out x.1).1 x.2
      have hsz : w6.heap.size ≤ X.heap.size := hkp.1
      obtain rfl := HA.out (by omega)
      have hbw := hb6 (by omega)
      obtain ⟨row, hrow'⟩ : ∃ row, row = (l.drop (W * x.1)).take W := ⟨_, rfl⟩
      have hrl : Ch.wlen l.length W x.1 = row.length := by rw [hrow', List.length_take, List.length_drop, Ch.wlen]
      have hrd : Rd X X.heap.size (some ⟨b, off + W * x.1, none⟩) (row.map e8) := by
        have h1 := ((Ch.Rd.keepX (A := none) hrd6 hkp (by omega)).more hsz).drop (W * x.1)
        simp only [Option.map_some, Addr.add_lit] at h1
        rw [hrow', List.map_take, List.map_drop]
        exact h1.take W
      have hpt : rowT l W x.1 = print row := by rw [rowT, hrow']
      have hrle : row.length ≤ 64 := by rw [hrow', List.length_take]; omega
      have hpart : Ch.wpart b off l.length W x.1 = .slice (some ⟨b, off + W * x.1, none⟩) row.length row.length := by rw [Ch.wpart, hrl]
      rw [hpart]
      have Hpt := Lib.hid hpt
      clear hrow' hrl hpt hpart
      have hvc := hv.cell
      have hvf := hv.frozen
      have hlx : w.heap.size < X.heap.size := hv.lt
      gi_wp2
      have hn6 : w.heap.size < w6.heap.size := by omega
      have hpl : pre.length ≤ m := by omega
      have hmx : Try.prog.follows .mixedOrders = true := by kernel_rfl
      have Hp := Lib.hid (print_any (some ⟨b, off + W * x.1, none⟩) row row.length row.length X.drew rfl (by exact hrd) (by omega))
      have fin : ∀ (g3 c3 : Nat) (w3 : World), Hid (Boxed w3 w.heap.size 38 v ∧ Boxed (w3.setCell ⟨w.heap.size, 0, none⟩ (.slice (some ⟨g3, 0, none⟩) (pre.length + 1) c3)) w.heap.size 38 (.slice (some ⟨g3, 0, none⟩) (pre.length + 1) c3) ∧
          (w3.setCell ⟨w.heap.size, 0, none⟩ (.slice (some ⟨g3, 0, none⟩) (pre.length + 1) c3)).ownsRow w6.heap.size 9 1 (.slice (some ⟨g3, 0, none⟩) (pre.length + 1) c3) (pre.length + 1) ((pre.map (fun x => rowT l W x.1)).map sV ++ [sV (print row)]) ∧
          KeepsOthers X (w3.setCell ⟨w.heap.size, 0, none⟩ (.slice (some ⟨g3, 0, none⟩) (pre.length + 1) c3)) ∧ KpX w.heap.size w6.heap.size X (w3.setCell ⟨w.heap.size, 0, none⟩ (.slice (some ⟨g3, 0, none⟩) (pre.length + 1) c3)) ∧
          ∀ n1, n1 ≤ w.heap.size → Below n1 X (w3.setCell ⟨w.heap.size, 0, none⟩ (.slice (some ⟨g3, 0, none⟩) (pre.length + 1) c3))) →
          KeepsOthers X (w3.setCell ⟨w.heap.size, 0, none⟩ (.slice (some ⟨g3, 0, none⟩) (pre.length + 1) c3)) ∧ KpX w.heap.size w6.heap.size X (w3.setCell ⟨w.heap.size, 0, none⟩ (.slice (some ⟨g3, 0, none⟩) (pre.length + 1) c3)) ∧
          ((∃ v, Boxed (w3.setCell ⟨w.heap.size, 0, none⟩ (.slice (some ⟨g3, 0, none⟩) (pre.length + 1) c3)) w.heap.size 38 v ∧ (w3.setCell ⟨w.heap.size, 0, none⟩ (.slice (some ⟨g3, 0, none⟩) (pre.length + 1) c3)).ownsRow w6.heap.size 9 1 v (pre ++ [x]).length (((pre ++ [x]).map (fun x => rowT l W x.1)).map sV) ∧ True) ∧
            KpX w.heap.size w6.heap.size w6 (w3.setCell ⟨w.heap.size, 0, none⟩ (.slice (some ⟨g3, 0, none⟩) (pre.length + 1) c3))) ∧ Below w.heap.size w (w3.setCell ⟨w.heap.size, 0, none⟩ (.slice (some ⟨g3, 0, none⟩) (pre.length + 1) c3)) := by
        intro g3 c3 w3 h
        obtain ⟨_, h1, h2, h3, h4, h5⟩ := h.out
        refine ⟨h3, h4, ⟨⟨_, h1, ?_, trivial⟩, hkp.trans h4⟩, hB.trans (h5 _ (Nat.le_refl _))⟩
        rw [List.map_append, List.map_append, List.length_append]
        simp only [List.map_cons, List.map_nil, List.length_cons, List.length_nil, Hpt.out]
        exact h2
      refine region_any_in hmx (by kernel_rfl) ?_
      refine wpAny_take (i := 1) (v := ?_) rfl (by kernel_rfl) (by kernel_rfl) (by kernel_rfl) (fun _ _ _ h => h) (.inl ⟨by rfl, ?_⟩) ?_
      rotate_left
      · intro w; go_simp; rfl
      refine wpAny_ready (rs := [0, 2]) (by kernel_rfl) (by simp) ?_
      refine AllReady.cons rfl (fun K hK => ?_) (AllReady.cons rfl (fun K hK => ?_) AllReady.nil)
      · go_simp
        refine hK _ _ ?_
        clear hK K
        refine wpAny_ready (rs := [2]) (by kernel_rfl) (by simp) ?_
        refine AllReady.cons rfl (fun K hK => ?_) AllReady.nil
        go_simp
        refine Hp.out.mono ?_
        rintro e wq ⟨rfl, bq⟩
        refine hK _ _ ?_
        clear hK K
        have bqX : Below X.heap.size X wq := bt (Below.refl _ X).drew bq
        have hcq := (bqX.cell (p := ⟨w.heap.size, 0, none⟩) hlx).trans hvc
        have hlq : w.heap.size < wq.heap.size := Nat.lt_of_lt_of_le hlx bqX.size
        refine wpAny_ready (rs := [3]) (by kernel_rfl) (by simp) ?_
        refine AllReady.cons rfl (fun K hK => ?_) AllReady.nil
        go_simp
        refine hK _ _ ?_
        clear hK K
        refine wpAny_ready (rs := [4]) (by kernel_rfl) (by simp) ?_
        refine AllReady.cons rfl (fun K hK => ?_) AllReady.nil
        refine step_app _ (by rfl) _ _ _ (by rfl) w6.heap.size 9 i0 _ 1 16 Try.underlying38 hi0 hz0 hz1 hz2 rfl (by omega) v pre.length _ (by rfl) ((own_on hrow bqX).alloc _) _ 1 1 [sV (print row)] (by rfl) (by rfl) (by simpa [sV] using Rd.lit wq #[sV (print row)] 9 _ (wq.heap.size + 1) rfl (by omega)) (by intro u hu; simp at hu; subst hu; rfl) (by simp only [maxLen]; omega) (by omega) (by have := bqX.size; simp; omega) ?_
        intro v1 w3 hown3 hg3
        obtain ⟨g3, c3, rfl⟩ := ownsRow_succ hown3
        have hbx := Lib.hid (box_append hv (by decide) hrow hsz hn6 bqX hown3 hg3)
        have hc3 := hbx.out.1.cell
        have hf3 := hbx.out.1.frozen
        clear hg3 hown3
        refine hK _ _ ?_
        clear hK K
        refine wpAny_ready (rs := [5]) (by kernel_rfl) (by simp) ?_
        refine AllReady.cons rfl (fun K hK => ?_) AllReady.nil
        go_simp
        refine hK _ _ ?_
        clear hK K
        refine wpAny_done (by kernel_rfl) ⟨rfl, ?_⟩ _
        gi_wp2
        exact fin _ _ _ hbx
      · go_simp
        refine Hp.out.mono ?_
        rintro e wq ⟨rfl, bq⟩
        refine hK _ _ ?_
        clear hK K
        have bqX : Below X.heap.size X wq := bt (Below.refl _ X).drew bq
        have hcq := (bqX.cell (p := ⟨w.heap.size, 0, none⟩) hlx).trans hvc
        have hlq : w.heap.size < wq.heap.size := Nat.lt_of_lt_of_le hlx bqX.size
        refine wpAny_ready (rs := [0, 3]) (by kernel_rfl) (by simp) ?_
        refine AllReady.cons rfl (fun K hK => ?_) (AllReady.cons rfl (fun K hK => ?_) AllReady.nil)
        · go_simp
          refine hK _ _ ?_
          clear hK K
          refine wpAny_ready (rs := [3]) (by kernel_rfl) (by simp) ?_
          refine AllReady.cons rfl (fun K hK => ?_) AllReady.nil
          go_simp
          refine hK _ _ ?_
          clear hK K
          refine wpAny_ready (rs := [4]) (by kernel_rfl) (by simp) ?_
          refine AllReady.cons rfl (fun K hK => ?_) AllReady.nil
          refine step_app _ (by rfl) _ _ _ (by rfl) w6.heap.size 9 i0 _ 1 16 Try.underlying38 hi0 hz0 hz1 hz2 rfl (by omega) v pre.length _ (by rfl) ((own_on hrow bqX).alloc _) _ 1 1 [sV (print row)] (by rfl) (by rfl) (by simpa [sV] using Rd.lit wq #[sV (print row)] 9 _ (wq.heap.size + 1) rfl (by omega)) (by intro u hu; simp at hu; subst hu; rfl) (by simp only [maxLen]; omega) (by omega) (by have := bqX.size; simp; omega) ?_
          intro v1 w3 hown3 hg3
          obtain ⟨g3, c3, rfl⟩ := ownsRow_succ hown3
          have hbx := Lib.hid (box_append hv (by decide) hrow hsz hn6 bqX hown3 hg3)
          have hc3 := hbx.out.1.cell
          have hf3 := hbx.out.1.frozen
          clear hg3 hown3
          refine hK _ _ ?_
          clear hK K
          refine wpAny_ready (rs := [5]) (by kernel_rfl) (by simp) ?_
          refine AllReady.cons rfl (fun K hK => ?_) AllReady.nil
          go_simp
          refine hK _ _ ?_
          clear hK K
          refine wpAny_done (by kernel_rfl) ⟨rfl, ?_⟩ _
          gi_wp2
          exact fin _ _ _ hbx
        · go_simp
          refine hK _ _ ?_
          clear hK K
          refine wpAny_ready (rs := [0]) (by kernel_rfl) (by simp) ?_
          refine AllReady.cons rfl (fun K hK => ?_) AllReady.nil
          go_simp
          refine hK _ _ ?_
          clear hK K
          refine wpAny_ready (rs := [4]) (by kernel_rfl) (by simp) ?_
          refine AllReady.cons rfl (fun K hK => ?_) AllReady.nil
          refine step_app _ (by rfl) _ _ _ (by rfl) w6.heap.size 9 i0 _ 1 16 Try.underlying38 hi0 hz0 hz1 hz2 rfl (by omega) v pre.length _ (by rfl) ((own_on hrow bqX).alloc _) _ 1 1 [sV (print row)] (by rfl) (by rfl) (by simpa [sV] using Rd.lit wq #[sV (print row)] 9 _ (wq.heap.size + 1) rfl (by omega)) (by intro u hu; simp at hu; subst hu; rfl) (by simp only [maxLen]; omega) (by omega) (by have := bqX.size; simp; omega) ?_
          intro v1 w3 hown3 hg3
          obtain ⟨g3, c3, rfl⟩ := ownsRow_succ hown3
          have hbx := Lib.hid (box_append hv (by decide) hrow hsz hn6 bqX hown3 hg3)
          have hc3 := hbx.out.1.cell
          have hf3 := hbx.out.1.frozen
          clear hg3 hown3
          refine hK _ _ ?_
          clear hK K
          refine wpAny_ready (rs := [5]) (by kernel_rfl) (by simp) ?_
          refine AllReady.cons rfl (fun K hK => ?_) AllReady.nil
          go_simp
          refine hK _ _ ?_
          clear hK K
          refine wpAny_done (by kernel_rfl) ⟨rfl, ?_⟩ _
          gi_wp2
          exact fin _ _ _ hbx
    case done =>
      rintro D ys X hD rfl ⟨⟨⟨v, hv, hrow, _⟩, hkp⟩, hB⟩ hKD
      rw [List.length_finRange] at hrow
      obtain ⟨A2, c2, rfl⟩ := own_form hrow
      have hvc := hv.cell
      have hvf := hv.frozen
      have hlx : w.heap.size < X.heap.size := hv.lt
      have hDlt : D < X.heap.size := (Array.getElem?_eq_some_iff.1 hKD).1
      have hs := grownBy_setCell' X w.heap.size (.slice A2 m c2)
      have hrow2 : (X.setCell ⟨w.heap.size, 0, none⟩ (.slice A2 m c2)).ownsRow w6.heap.size 9 1 (.slice A2 m c2) m (((List.finRange m).map (fun x => rowT l W x.1)).map sV) := hrow.kept hs (.inr (hv.not_row (by decide) hrow).symm)
      have hKD2 : (X.setCell ⟨w.heap.size, 0, none⟩ (.slice A2 m c2)).heap[D]? = some (.deferred (some [])) := (hs.block D hDlt (fun e => by cases e; omega)).trans hKD
      have hB2 : Below w.heap.size w (X.setCell ⟨w.heap.size, 0, none⟩ (.slice A2 m c2)) := hB.setCell (p := ⟨w.heap.size, 0, none⟩) (Nat.le_refl _) _
      have hcp : ((X.setCell ⟨w.heap.size, 0, none⟩ (.slice A2 m c2)).putObj D (.deferred none)).cell? ⟨w.heap.size, 0, none⟩ = some (.slice A2 m c2) :=
        (World.cell?_of_block (World.putObj_heap_other (by dsimp only; omega))).trans (hv.set _).cell
      gi_wp2
      refine ⟨by simp, .inl ⟨_, _, rfl, run_takeDeferred hKD2, ?_⟩⟩
      refine ⟨.slice A2 m c2, (by simp [results, Try.results40, go_sem, hcp]), ?_⟩
      exact ⟨_, rfl, own_base (ownsRow_putObj hrow2 _ hKD2 rfl) bt6.size, hB2.trans (belowK_b (w := w) (Nat.le_refl _) _ D _ _ (by have := bt6.size; omega) hKD2 rfl rfl)⟩
    case stop =>
      rintro D c pre W _ _ h _
      exact h.elim
end Go.Proofs.Ytknjkafjeicmbaa.Hex
