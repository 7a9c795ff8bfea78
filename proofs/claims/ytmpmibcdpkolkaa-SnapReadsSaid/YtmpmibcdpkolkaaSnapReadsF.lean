/- Texts of this claim, joined: Snap7, SnapPlain, Snap8, SupL1, Rows20, SnapL1, SupL2, SnapRd, OpenSec, OpenSecs, SnapL2. -/
import Derived.Test.YtmpmibcdpkolkaaSnapReadsE
import Derived.Test.YtmpmibcdpkolkaaSnapReadsD
import Derived.Test.YtmpmibcdpkolkaaSnapReadsB
import Derived.Lib.MinMax
/- The pages of a life: snap.Bad, and what they come to. -/
namespace Go.Proofs.Ytmpmibcdpkolkaa.Snap
open Go.RowKit Go.Shelf
open Go.Proofs.Ytmpmibcdpkolkaa.Geom
open Go.Proofs.Ytmpmibcdpkolkaa.Ch (SeqOk range_ok)
open Go.Proofs.Ytmpmibcdpkolkaa.Sup (Gb gv gcell srightF gthree)
open Go.Proofs.Ytmpmibcdpkolkaa.Disk (St DAt Did New8 Told8 read_any)
open Go.Proofs.Ytmpmibcdpkolkaa.Sec (X SymAt text sumOf sumAfter ckS blankB rightF encode_sym decode_sym right_0 right_2 xv RetX X0 five5x)
attribute [local go_sem] Oper.semAt_some
set_option linter.unusedVariables false
set_option maxRecDepth 100000
theorem infoI : (Try.prog.info? 3).map (fun i => (i.zero, i.size, i.bytes)) = some (some (.int .i64 0), 1, 8) := by kernel_rfl
/-- the numbers of those that are not there -/
def bads (l : List It) : List Int := (l.filter (fun x => !x.is)).map (fun x => (x.k : Int))
def badL (l : List (List UInt8)) (s : St) (ga gd gl : Int) (life : UInt64) (N : Nat) : List Int := ((List.range N).filter (fun k => !isPg l s ga gd gl life k)).map (fun k : Nat => (k : Int))
theorem bads_yes {pre : List It} {x : It} (h : x.is = true) : bads (pre ++ [x]) = bads pre := by simp [bads, h]
theorem bads_no {pre : List It} {x : It} (h : x.is = false) : bads (pre ++ [x]) = bads pre ++ [(x.k : Int)] := by simp [bads, h]
theorem bads_want {l : List (List UInt8)} {s : St} {ga gd gl : Int} {life : UInt64} {N : Nat} {xs : List It} (h : xs.map It.f = (List.range N).map (want l s ga gd gl life)) : bads xs = badL l s ga gd gl life N := by
  have e1 : bads xs = ((xs.map It.f).filter (fun t => !t.2.1)).map (fun t => (t.1 : Int)) := by
    unfold bads
    rw [List.filter_map, List.map_map]
    rfl
  rw [e1, h, List.filter_map, List.map_map]
  rfl
def RetBad (w : World) (l : List Int) (e : Ending) (w' : World) : Prop := ∃ A c, e = .returned (.tuple #[.slice A l.length c, .int .i64 0]) ∧ w'.ownsRow w.heap.size 3 1 (.slice A l.length c) l.length (l.map (Value.int .i64))
/-- between two rounds of Bad -/
def BInv (w w4 : World) (pre : List It) (X : World) : Prop := ((∃ v, Boxed X (w.heap.size + 1) 63 v ∧ X.ownsRow w4.heap.size 3 1 v (bads pre).length ((bads pre).map (Value.int .i64)) ∧ True) ∧ Boxed X (w.heap.size + 1 + 1) 28 (.int .i64 0) ∧ KpK (w.heap.size + 1) w4.heap.size w4 X ∧ Below w.heap.size w X) ∧ True
theorem BInv.own {w w4 : World} (h1 : w.heap.size + 1 + 1 < w4.heap.size) : OwnFrom w4.heap.size (BInv w w4) := by
  intro pre X X' row hI hg hr
  refine ⟨⟨holdsRow_own w4.heap.size (w.heap.size + 1) 63 3 1 (fun pre : List It => (bads pre).length) (fun pre => (bads pre).map (Value.int .i64)) (fun _ _ => True) pre X X' row hI.1.1 hg (fun g e => (hr g e).2), ?_, kpK_grown hI.1.2.2.1 hg (fun r e => (hr r e).1) (Nat.le_refl _), hI.1.2.2.2.grown hg (by have := hI.1.2.2.2.size; omega) (fun r e => by have := (hr r e).1; omega)⟩, trivial⟩
  exact hI.1.2.1.kept hg (fun e => by have := (hr _ e.symm).1; omega)
set_option maxHeartbeats 2000000 in
theorem bad_any (g : Nat) (fp : List Nat) (s : St) (gS bS : Nat) (l : List (List UInt8)) (ga gd gl : Int) (life : UInt64) (w : World) (hG : Gb ga gd gl) (h : Both w g fp s gS bS l) (hl : l.length ≤ 1000000) (hs : s.sz ≤ 90000000) (hf : srightF s ga gd gl = 0) (hd : s.down = false) (N : Nat) (hN : (N : Int) = pagesOf ga gd gl) :
    Calls Try.prog 38 #[.pointer (some ⟨g, 0, none⟩), .pointer (some ⟨gS, 0, none⟩), gv ga gd gl, .int .u64 (life.toNat : Int)] w fun e w' => RetBad w (badL l s ga gd gl life N) e w' ∧ Below w.heap.size w w' := by
  have FG := Blk.new w (gcell ga gd gl) 23
  obtain ⟨z0, z1, z2⟩ := gthree FG
  have HR := Lib.hid (fun W (bW : Below w.heap.size w W) => right_any g fp s gS ga gd gl life W hG (h.disk.on bW))
  rw [hf] at HR
  have hsz : (s.size : Int) = Geom.sizeOf ga gd gl := by
    unfold srightF at hf
    split at hf
    · rename_i h; exact h.2
    · cases hf
  refine (callsIn_wide (n := 8)).1 ?_
  refine callsIn_of_wp_marks Try.func38 rfl trivial ?_ rfl
  simp only [Try.ntmps38, List.size_toArray, List.length_cons, List.length_nil, Nat.reduceAdd, Nat.reduceSub, Array.replicate_succ, Array.replicate_zero, List.push_toArray, List.append_toArray, List.nil_append, List.cons_append]
  gi_wp2_with fail
  refine wpIn_wide.2 (wp_scope_straight ((wpIn_wide (n := 8)).1 ?_))
  gi_wp2_with fail
  have hb3 : ∃ w0, w0 = (((w.alloc (.cells (gcell ga gd gl).toArray 23)).alloc (.cells #[.slice none 0 0] 63)).alloc (.cells #[.int .i64 0] 28)).alloc (.cells (acell (.pointer (some ⟨g, 0, none⟩)) (.pointer (some ⟨gS, 0, none⟩)) ga gd gl life).toArray 138) := ⟨_, rfl⟩
  obtain ⟨w0, hw0⟩ := hb3
  have bx8 : Boxed w0 (w.heap.size + 1) 63 (.slice none 0 0) := by
    have := Boxed.new (w.alloc (.cells (gcell ga gd gl).toArray 23)) 63 (.slice none 0 0)
    simp at this
    rw [hw0]
    exact (Below.heap_alloc _ _ _ (by simp)).trans ((Below.heap_alloc _ _ _ (by simp)).trans this)
  have bx9 : Boxed w0 (w.heap.size + 1 + 1) 28 (.int .i64 0) := by
    have := Boxed.new ((w.alloc (.cells (gcell ga gd gl).toArray 23)).alloc (.cells #[.slice none 0 0] 63)) 28 (.int .i64 0)
    simp at this
    rw [hw0]
    exact (Below.heap_alloc _ _ _ (by simp)).trans this
  have ba : Blk w0 (w.heap.size + 1 + 1 + 1) (acell (.pointer (some ⟨g, 0, none⟩)) (.pointer (some ⟨gS, 0, none⟩)) ga gd gl life) := by
    rw [hw0]
    have := Blk.new (((w.alloc (.cells (gcell ga gd gl).toArray 23)).alloc (.cells #[.slice none 0 0] 63)).alloc (.cells #[.int .i64 0] 28)) (acell (.pointer (some ⟨g, 0, none⟩)) (.pointer (some ⟨gS, 0, none⟩)) ga gd gl life) 138
    simpa using this
  have b0 : Below w.heap.size w w0 := by rw [hw0]; exact bt (b3alloc _ _ _ _) (b1alloc _ _)
  rw [show (((w.alloc (.cells #[.int .i64 ga, .int .i64 gd, .int .i64 gl] 23)).alloc (.cells #[.slice none 0 0] 63)).alloc (.cells #[.int .i64 0] 28)).alloc (.cells #[.pointer (some ⟨g, 0, none⟩), .pointer (some ⟨gS, 0, none⟩), .int .i64 ga, .int .i64 gd, .int .i64 gl, .int .u64 (life.toNat : Int)] 138) = w0 from hw0.symm]
  clear hw0 z0 z1 z2 FG
  refine ⟨trivial, (callsIn_wide.2 (HR.out _ b0)).mono ?_⟩
  rintro e1 w1 ⟨rfl, b1⟩
  have b01 := bt b0 b1
  have hba1 := (ba.on b1).lt
  obtain ⟨z0, z1, z2, z3, z4, z5⟩ := six6 (ba.on b1)
  gi_wp2_with fail
  refine wpIn_label ?_
  gi_wp2_with fail
  refine ⟨trivial, (callsIn_wide.2 (pages_any g gS (w.heap.size + 1 + 1) ga gd gl life w1)).mono ?_⟩
  rintro e4 w4 ⟨rfl, hP4, b4⟩
  have b04 := bt b01 b4
  have bb4 := bt b1 b4
  have bx84 : Boxed w4 (w.heap.size + 1) 63 (.slice none 0 0) := (bb4.block _ bx8.lt).trans bx8
  have bx94 : Boxed w4 (w.heap.size + 1 + 1) 28 (.int .i64 0) := (bb4.block _ bx9.lt).trans bx9
  clear z0 z1 z2 z3 z4 z5 bx8 bx9 ba bb4 b0 b1 b01
  gi_wp2_with fail
  obtain ⟨i0, hi0, hz0, hz1, hz2⟩ := info_parts infoI
  have hs1 : w.heap.size + 3 < w1.heap.size := by have := hba1; omega
  have hs4 : w1.heap.size + 2 < w4.heap.size := hP4.there.lt
  have hB4 := h.on b04
  have hne : ∀ j ∈ bS :: gS :: fp, j ≠ w.heap.size + 1 := by
    intro j hj
    rcases List.mem_cons.1 hj with e | e
    · have := h.sym.lt.2; omega
    rcases List.mem_cons.1 e with e | e
    · have := h.sym.lt.1; omega
    · have := h.disk.lt _ e; omega
  have hN85 : N ≤ 85 := by have := pagesOf_bd ga gd gl; omega
  have hI : OwnFrom w4.heap.size (BInv w w4) := BInv.own (by omega)
  refine range_ok (n := 8) (by omega) (gf := 128) (lb := #[.pointer (some ⟨w1.heap.size, 0, none⟩), .pointer (some ⟨w1.heap.size + 1, 0, none⟩), .pointer (some ⟨w1.heap.size + 2, 0, none⟩)]) rfl (enters_of Try.func128 (by kernel_rfl) rfl)
    (pages2_ok 7 (by omega) (w.heap.size + 1) w1.heap.size (w1.heap.size + 1) (w1.heap.size + 2) (w.heap.size + 1 + 1) g fp s gS bS l ga gd gl life N hG hN hl hs hd hsz w4 hP4 hB4 hne (by omega) (by omega))
    (fun h k => h.trans k) (fun W l o o' hl h _ _ => KpK.turn W l o' hl) (Below.refl _ _) (fun _ => rfl)
    (BInv w w4)
    (fun c (pre' : List It) X => False)
    hI
    (fun c pre X X' row hI hg hr => hI)
    ⟨⟨⟨_, bx84, own_nil _ _ _ _, trivial⟩, bx94, KpK.refl _ _ _, b04⟩, trivial⟩
    (fun pre x a' X => ∃ pb, a' = { tmps := #[.pointer (some ⟨g, 0, none⟩), .pointer (some ⟨gS, 0, none⟩), gv ga gd gl, .int .u64 (life.toNat : Int), undef, undef, .pointer (some ⟨w.heap.size, 0, none⟩), undef, .pointer (some ⟨w.heap.size + 1, 0, none⟩), .pointer (some ⟨w.heap.size + 1 + 1, 0, none⟩), .pointer (some ⟨w.heap.size + 1 + 1 + 1, 0, none⟩), .int .i64 0, .int .i64 (x.k : Int), .pointer (some ⟨pb, 0, none⟩), .pointer (some ⟨g, 0, none⟩), .pointer (some ⟨gS, 0, none⟩), (gv ga gd gl), .int .u64 (life.toNat : Int), (av (.pointer (some ⟨g, 0, none⟩)) (.pointer (some ⟨gS, 0, none⟩)) ga gd gl life), (av (.pointer (some ⟨g, 0, none⟩)) (.pointer (some ⟨gS, 0, none⟩)) ga gd gl life), .int .i64 0, .int .i64 0, .bool false, undef, (av (.pointer (some ⟨g, 0, none⟩)) (.pointer (some ⟨gS, 0, none⟩)) ga gd gl life), .func (.func 128) #[] #[.pointer (some ⟨w1.heap.size, 0, none⟩), .pointer (some ⟨w1.heap.size + 1, 0, none⟩), .pointer (some ⟨w1.heap.size + 2, 0, none⟩)], .int .i64 (x.k : Int), .agg #[.slice x.A x.body.length x.c, .bool x.is], undef, undef, undef, undef, undef, undef, undef, undef, undef, undef], defers := [] } ∧ Blk X pb [.slice x.A x.body.length x.c, .bool x.is] ∧ w4.heap.size ≤ pb ∧ It.Ok w4.heap.size X x ∧ BInv w w4 pre X)
    ?_ ?assign ?body ?done ?stop
  · rintro pre x a' X lp o o' hl ho hc ⟨pb, rfl, hpb, hpl, hok, hIx⟩
    have hg := grownBy_putObj' X lp o'
    refine ⟨pb, rfl, ?_, hpl, hok.grown hg (fun r e => by cases e; exact ⟨o, ho, hc⟩), hI pre X _ (some lp) hIx hg (fun r e => by cases e; exact ⟨hl, o, ho, hc⟩)⟩
    obtain ⟨t, ht⟩ := hpb
    refine ⟨t, (hg.block pb (lt_of_block ht) (fun e => ?_)).trans ht⟩
    injection e with e
    subst e
    rw [ht] at ho; cases ho; cases hc
  case assign =>
    intro lp pre x X hIx hok hlen
    unfold It.enc
    simp [List.zip_toArray, List.setIfInBounds_toArray]
    gi_wp2
    refine ⟨KeepsOthers.alloc _ _, KpK.of_below (b1alloc _ _) hIx.1.2.2.1.size, X.heap.size, rfl, Blk.new X _ _, hIx.1.2.2.1.size, hok.on (b1alloc _ _), hI.alloc _ hIx⟩
  case body =>
    rintro lp pre x a' X ⟨pb, rfl, hpb, hpl, hok, hI'⟩ hlen
    obtain ⟨⟨⟨v, hv, hrow, _⟩, hv9, hkp, hB⟩, _⟩ := hI'
    have pc0 := hpb.cell (k := 0) (by simp)
    have pc1 := hpb.cell (k := 1) (by simp)
    simp only [List.getElem_cons_zero, List.getElem_cons_succ] at pc0 pc1
    have hvc := hv.cell
    have hvf := hv.frozen
    have hlx : w.heap.size + 1 < X.heap.size := hv.lt
    have hszX : w4.heap.size ≤ X.heap.size := hkp.size
    have hbl : (bads pre).length ≤ N := by unfold bads; rw [List.length_map]; exact Nat.le_trans (List.length_filter_le _ _) (by omega)
    obtain ⟨xk, xA, xc, xb, xi⟩ := x
    cases xi with
    | true =>
      gi_wp2
      exact ⟨KeepsOthers.refl _, KpK.refl _ _ _, ⟨⟨v, hv, by rw [bads_yes rfl]; exact hrow, trivial⟩, hv9, hkp, hB⟩, trivial⟩
    | false =>
      have bX1 := b1alloc X (.cells #[.int .i64 (xk : Int)] 3)
      gi_wp2_with (refine Ch.wpListIn_append_rd _ rfl _ _ _ rfl w4.heap.size 3 i0 _ 1 8 Try.underlying63 hi0 hz0 hz1 hz2 rfl (by omega) v (bads pre).length _ rfl (hrow.alloc _) _ _ 1 1 [.int .i64 (xk : Int)] rfl rfl (Rd.lit X _ _ _ (X.heap.size + 1) rfl (by omega)) (by intro u hu; simp at hu; subst hu; rfl) (by simp only [maxLen]; omega) (by omega) (by simp; omega) ?_; intro v1 w3 hown3 hg3 hat3; obtain ⟨g3, c3, rfl⟩ := ownsRow_succ hown3; have hbx := Lib.hid (box_app hv (by decide) hrow hszX (by omega) bX1 hown3 hg3); have hc3 := hbx.out.1.cell; have hf3 := hbx.out.1.frozen)
      obtain ⟨_, h1, h2, h3, h4, h5, h6⟩ := hbx.out
      refine ⟨h3, h4, ⟨⟨_, h1, ?_, trivial⟩, (h6 28 (by decide) (by decide) _ _ hv9).trans hv9, hkp.trans h4, hB.trans (h5 _ (by omega))⟩, trivial⟩
      rw [bads_no rfl, List.length_append, List.map_append]
      exact h2
  case done =>
    rintro D xs X hD hxs ⟨⟨⟨v, hv, hrow, _⟩, hv9, hkp, hB⟩, _⟩ hKD
    have hres := bads_want hxs
    have Hres := Lib.hid hres
    have hln : (bads xs).length ≤ N := by unfold bads; rw [List.length_map]; refine Nat.le_trans (List.length_filter_le _ _) ?_; have := congrArg List.length hxs; simp at this; omega
    clear hxs hres
    obtain ⟨A2, c2, rfl⟩ := own_form hrow
    have hvc := hv.cell
    have hvf := hv.frozen
    have hvl := hv.lt
    have hvc9 := hv9.cell
    have hvf9 := hv9.frozen
    have hvl9 := hv9.lt
    have hv8 := (hv.set (.slice A2 (bads xs).length c2)).kept (grownBy_setCell' _ (w.heap.size + 1 + 1) (.int .i64 0)) (fun e => by injection e with e; omega)
    have hv99 := (hv9.kept (grownBy_setCell' X (w.heap.size + 1) (.slice A2 (bads xs).length c2)) (fun e => by injection e with e; omega)).set (.int .i64 0)
    have hrow8 := (hrow.kept (grownBy_setCell' X (w.heap.size + 1) (.slice A2 (bads xs).length c2)) (.inr (hv.not_row (by decide) hrow).symm)).kept (grownBy_setCell' _ (w.heap.size + 1 + 1) (.int .i64 0)) (.inr (fun e => by have := own_block hrow e; omega))
    have hDl : D < X.heap.size := (Array.getElem?_eq_some_iff.1 hKD).1
    gi_wp2_with fail
    try rw [Exit.noGoto_ret]
    have hD2 : ((X.setCell ⟨w.heap.size + 1, 0, none⟩ (.slice A2 (bads xs).length c2)).setCell ⟨w.heap.size + 1 + 1, 0, none⟩ (.int .i64 0)).heap[D]? = some (.deferred (some [])) :=
      ((grownBy_setCell' _ (w.heap.size + 1 + 1) (.int .i64 0)).block D (by simp [World.setCell]; omega) (fun e => by injection e with e; omega)).trans (((grownBy_setCell' X (w.heap.size + 1) (.slice A2 (bads xs).length c2)).block D hDl (fun e => by injection e with e; omega)).trans hKD)
    obtain ⟨Z, hZ⟩ : ∃ Z, Z = (X.setCell ⟨w.heap.size + 1, 0, none⟩ (.slice A2 (bads xs).length c2)).setCell ⟨w.heap.size + 1 + 1, 0, none⟩ (.int .i64 0) := ⟨_, rfl⟩
    have hBZ : Below w.heap.size w Z := by rw [hZ]; exact bset (bset hB (by omega) _) (by omega) _
    rw [← hZ] at hD2 hv8 hv99 hrow8 ⊢
    have g0 := grownBy_putObj' Z D (.deferred none)
    have v8 := (hv8.kept g0 (fun e => by injection e with e; omega)).cell
    have v9 := (hv99.kept g0 (fun e => by injection e with e; omega)).cell
    clear hZ
    refine ⟨by simp, .inl ⟨_, _, rfl, run_takeDeferred hD2, ?_⟩⟩
    refine ⟨.tuple #[.slice A2 (bads xs).length c2, .int .i64 0], (by simp [results, Try.results38, go_sem, v8, v9]), ?_⟩
    rw [← Hres.out]
    exact ⟨⟨A2, c2, rfl, own_base (ownsRow_putObj hrow8 _ hD2 rfl) b04.size⟩, hBZ.trans (belowK_b (w := w) (Nat.le_refl _) _ D _ _ (by have := b04.size; omega) hD2 rfl rfl)⟩
  case stop => exact fun D c pre' X hD hk hf => hf.elim
end Go.Proofs.Ytmpmibcdpkolkaa.Snap

/- The pages of a life, in plain Lean: what stands behind a write, and a power that goes. -/
namespace Go.Proofs.Ytmpmibcdpkolkaa.Snap
open Go.RowKit
open Go.Proofs.Ytmpmibcdpkolkaa.Geom
open Go.Proofs.Ytmpmibcdpkolkaa.Disk (St Wr write flush read kept burn restart fates fate keptAt new zero512 arm)
open Go.Proofs.Ytmpmibcdpkolkaa.Sec (X text text_len sumOf sumOf_len sumAfter ckS rightF X0 place_of)
open Go.Proofs.Ytmpmibcdpkolkaa.Sup (UpN text_inj)
open Go.Proofs.Ytmpmibcdpkolkaa.Enc (Itm Enf enf enf_of More kept_of rd rd_good rd_sound restart_up)
set_option linter.unusedVariables false
theorem pItems_get (ga gd gl : Int) (life : UInt64) : ∀ (bs : List (List UInt8)) (n k : Nat) (h : k < (pItems ga gd gl life n bs).length) (h' : k < bs.length), (pItems ga gd gl life n bs)[k] = (areaAt ga gd gl life.toNat ((n + k : Nat) : Int), px life (n + k) bs[k])
  | [], n, k, h, h' => absurd h' (by simp)
  | b :: r, n, 0, h, h' => rfl
  | b :: r, n, k + 1, h, h' => by
    have := pItems_get ga gd gl life r (n + 1) k (by rw [pItems_len]; simpa using h') (by simpa using h')
    rw [show n + (k + 1) = n + 1 + k by omega]
    exact this
/-- pages that may be -/
structure PagesOk (ga gd gl : Int) (n : Nat) (pages : List (List UInt8)) : Prop where
  size : (n : Int) = Geom.sizeOf ga gd gl
  len : (pages.length : Int) = pagesOf ga gd gl
  short : ∀ j (hj : j < pages.length), pages[j].length ≤ 479
theorem PagesOk.small {ga gd gl : Int} {n : Nat} {pages : List (List UInt8)} (h : PagesOk ga gd gl n pages) : pages.length ≤ 85 ∧ n ≤ 238 := by
  have := pagesOf_bd ga gd gl
  have := size_bd ga gd gl
  have := h.size
  have := h.len
  omega
theorem PagesOk.place {ga gd gl : Int} {n : Nat} {pages : List (List UInt8)} (h : PagesOk ga gd gl n pages) (life : UInt64) {k : Nat} (hk : k < pages.length) : 0 ≤ areaAt ga gd gl life.toNat k ∧ areaAt ga gd gl life.toNat k < n ∧ areaAt ga gd gl life.toNat k ≤ 1023 := by
  have := area_ok (ga := ga) (gd := gd) (gl := gl) (life := life) (k := k) (by have := h.len; omega)
  rw [h.size]; exact this
theorem area_eq {ga gd gl : Int} {m k : Nat} (h : (k : Int) < pagesOf ga gd gl) : areaAt ga gd gl m k = 4 + gl + (m : Int) % 2 * pagesOf ga gd gl + k := by unfold areaAt; rw [if_pos ⟨by omega, h⟩]
theorem area_inj {ga gd gl : Int} {m k j : Nat} (hk : (k : Int) < pagesOf ga gd gl) (hj : (j : Int) < pagesOf ga gd gl) (h : areaAt ga gd gl m k = areaAt ga gd gl m j) : k = j := by
  rw [area_eq hk, area_eq hj] at h; omega
theorem area_apart {ga gd gl : Int} {m m' k j : Nat} (hm : m % 2 ≠ m' % 2) (hk : (k : Int) < pagesOf ga gd gl) (hj : (j : Int) < pagesOf ga gd gl) : areaAt ga gd gl m k ≠ areaAt ga gd gl m' j := by
  rw [area_eq hk, area_eq hj]
  rcases (show ((m : Int) % 2 = 0 ∧ (m' : Int) % 2 = 1) ∨ ((m : Int) % 2 = 1 ∧ (m' : Int) % 2 = 0) by omega) with ⟨h1, h2⟩ | ⟨h1, h2⟩ <;> rw [h1, h2] <;> omega
theorem PagesOk.items {ga gd gl : Int} {n : Nat} {pages : List (List UInt8)} (h : PagesOk ga gd gl n pages) (life : UInt64) : ∀ i ∈ pItems ga gd gl life 0 pages, ∃ k, ∃ hk : k < pages.length, i = (areaAt ga gd gl life.toNat k, px life k pages[k]) := by
  intro i hi
  obtain ⟨k, hk, rfl⟩ := List.mem_iff_getElem.1 hi
  rw [pItems_len] at hk
  exact ⟨k, hk, by rw [pItems_get _ _ _ _ _ _ _ _ hk]; simp⟩
theorem PagesOk.pright {ga gd gl : Int} {n : Nat} {pages : List (List UInt8)} (h : PagesOk ga gd gl n pages) (life : UInt64) {k : Nat} (hk : k < pages.length) : rightF (areaAt ga gd gl life.toNat k) (px life k pages[k]) = 0 :=
  px_right (h.place life hk).1 (h.place life hk).2.2 (by have := h.small.1; omega) (h.short k hk)
theorem PagesOk.okI {ga gd gl : Int} {n : Nat} {pages : List (List UInt8)} (h : PagesOk ga gd gl n pages) (life : UInt64) : ∀ i ∈ pItems ga gd gl life 0 pages, rightF i.1 i.2 = 0 ∧ 0 ≤ i.1 ∧ i.1 < n := by
  intro i hi
  obtain ⟨k, hk, rfl⟩ := h.items life i hi
  exact ⟨h.pright life hk, (h.place life hk).1, (h.place life hk).2.1⟩
theorem PagesOk.run {ga gd gl : Int} {n : Nat} {pages : List (List UInt8)} (h : PagesOk ga gd gl n pages) (life : UInt64) (l : List (List UInt8)) {s : St} (h2 : s.size = n) (hd : s.down = false) : ∃ m, Enf n (pItems ga gd gl life 0 pages) l s (snapF ga gd gl life pages l s) m :=
  enf_of _ l s h2 hd (h.okI life)
/-- the writes are at the life's places -/
theorem PagesOk.at_ {ga gd gl : Int} {n : Nat} {pages : List (List UInt8)} (h : PagesOk ga gd gl n pages) {life : UInt64} {l : List (List UInt8)} {s : St} {q : List (List UInt8) × St × Int} {m : List Wr} (e : Enf n (pItems ga gd gl life 0 pages) l s q m) :
    m.length ≤ pages.length ∧ ∀ k (hk : k < m.length) (hk' : k < pages.length), m[k].1 = (areaAt ga gd gl life.toNat k).toNat ∧ Sup.Good q.1 (areaAt ga gd gl life.toNat k) (px life k pages[k]) m[k].2 := by
  have hl := e.len
  rw [pItems_len] at hl
  refine ⟨hl, fun k hk hk' => ?_⟩
  have := e.at_ k hk (by rw [pItems_len]; exact hk')
  rw [pItems_get _ _ _ _ _ _ _ _ hk'] at this
  simpa using this
theorem PagesOk.good {ga gd gl : Int} {n : Nat} {pages : List (List UInt8)} (h : PagesOk ga gd gl n pages) {life : UInt64} {l : List (List UInt8)} {s : St} {q : List (List UInt8) × St × Int} {m : List Wr} (e : Enf n (pItems ga gd gl life 0 pages) l s q m) (hm : m.length = (pItems ga gd gl life 0 pages).length) (all : List Wr) {k : Nat} (hk : k < pages.length) :
    Sup.Good q.1 (areaAt ga gd gl life.toNat k) (px life k pages[k]) (kept (all ++ m) (areaAt ga gd gl life.toNat k).toNat) := by
  rw [pItems_len] at hm
  obtain ⟨_, hat⟩ := h.at_ e
  obtain ⟨h1, h2⟩ := hat k (by omega) hk
  rw [← h1, kept_of all m k (by omega) (fun a b ha hb hab => ?_)]
  · exact h2
  · rw [(hat a ha (by omega)).1, (hat b hb (by omega)).1] at hab
    have p1 := h.place life (k := a) (by omega)
    have p2 := h.place life (k := b) (by omega)
    have hl := h.len
    exact area_inj (m := life.toNat) (k := a) (j := b) (by omega) (by omega) (show areaAt ga gd gl life.toNat a = areaAt ga gd gl life.toNat b by omega)
/-- elsewhere there is what was there -/
theorem PagesOk.beside {ga gd gl : Int} {n : Nat} {pages : List (List UInt8)} (h : PagesOk ga gd gl n pages) {life : UInt64} {l : List (List UInt8)} {s : St} {q : List (List UInt8) × St × Int} {m : List Wr} (e : Enf n (pItems ga gd gl life 0 pages) l s q m) {p : Nat} (hp : ∀ k, k < pages.length → p ≠ (areaAt ga gd gl life.toNat k).toNat) : ∀ w ∈ m, w.1 ≠ p := by
  intro w hw he
  obtain ⟨hl, hat⟩ := h.at_ e
  obtain ⟨k, hk, rfl⟩ := List.mem_iff_getElem.1 hw
  rw [(hat k hk (by omega)).1] at he
  exact hp k (by omega) he.symm
theorem isX_own (life : UInt64) (k : Nat) (b : List UInt8) : isX life k (px life k b) = true := by simp [isX, px]
/-- all pages are there -/
theorem snapR_some {l : List (List UInt8)} {s : St} {ga gd gl : Int} {life : UInt64} {pages : List (List UInt8)} (h : ∀ k (hk : k < pages.length), rdAt l s ga gd gl life k = (px life k pages[k], 0)) :
    snapR l s ga gd gl life pages.length = some pages ∧ badL l s ga gd gl life pages.length = [] := by
  have hp : ∀ k, k < pages.length → isPg l s ga gd gl life k = true := fun k hk => by
    unfold isPg
    rw [h k hk]
    simp [isX_own]
  constructor
  · unfold snapR
    rw [if_pos (by unfold allPg; rw [List.all_eq_true]; intro k hk; exact hp k (List.mem_range.1 hk))]
    congr 1
    unfold bodies
    apply List.ext_getElem
    · simp
    · intro i h1 h2
      simp only [List.getElem_map, List.getElem_range]
      rw [h i h2]; rfl
  · unfold badL
    rw [List.filter_eq_nil_iff.2 (fun k hk => by rw [hp k (List.mem_range.1 hk)]; simp)]
    rfl
/-- each page that is there is the one -/
theorem snapR_or {l : List (List UInt8)} {s : St} {ga gd gl : Int} {life : UInt64} {pages : List (List UInt8)} (h : ∀ k (hk : k < pages.length), isPg l s ga gd gl life k = true → (rdAt l s ga gd gl life k).1.body = pages[k]) :
    snapR l s ga gd gl life pages.length = none ∨ snapR l s ga gd gl life pages.length = some pages := by
  unfold snapR
  split
  · rename_i ha
    right
    congr 1
    unfold allPg at ha
    rw [List.all_eq_true] at ha
    unfold bodies
    apply List.ext_getElem
    · simp
    · intro i h1 h2
      simp only [List.getElem_map, List.getElem_range]
      exact h i h2 (ha i (List.mem_range.2 h2))
  · exact .inl rfl
theorem rdAt_good {s : St} {n : Nat} (hu : UpN s n) {l : List (List UInt8)} {ga gd gl : Int} {life : UInt64} {pages : List (List UInt8)} (h : PagesOk ga gd gl n pages) {k : Nat} (hk : k < pages.length) (hg : Sup.Good l (areaAt ga gd gl life.toNat k) (px life k pages[k]) (kept s.all (areaAt ga gd gl life.toNat k).toNat)) : rdAt l s ga gd gl life k = (px life k pages[k], 0) :=
  rd_good hu (h.place life hk).1 (h.place life hk).2.1 hg
/-- a write while the power is there -/
theorem PagesOk.up {ga gd gl : Int} {n : Nat} {pages : List (List UInt8)} (h : PagesOk ga gd gl n pages) (life : UInt64) (l : List (List UInt8)) {s : St} (hu : UpN s n) :
    (snapF ga gd gl life pages l s).2.2 = 0 ∧ UpN (snapF ga gd gl life pages l s).2.1 n ∧ More l (snapF ga gd gl life pages l s).1 ∧
      (∀ k (hk : k < pages.length), Sup.Good (snapF ga gd gl life pages l s).1 (areaAt ga gd gl life.toNat k) (px life k pages[k]) (kept (snapF ga gd gl life pages l s).2.1.all (areaAt ga gd gl life.toNat k).toNat)) ∧
      (∀ p, (∀ k, k < pages.length → p ≠ (areaAt ga gd gl life.toNat k).toNat) → kept (snapF ga gd gl life pages l s).2.1.all p = kept s.all p) ∧
      ∀ T ∈ (snapF ga gd gl life pages l s).1, T ∈ l ∨ ∃ k, ∃ hk : k < pages.length, T = text (areaAt ga gd gl life.toNat k) (px life k pages[k]) := by
  obtain ⟨m, e⟩ := h.run life l hu.size hu.down
  obtain ⟨q, hq⟩ : ∃ q, q = snapF ga gd gl life pages l s := ⟨_, rfl⟩
  rw [← hq] at e ⊢
  rcases e.res with ⟨_, _, _, _, h5⟩ | ⟨h1, h2, h3, h4, h5, h6⟩
  · exact absurd hu.fuse h5
  · rw [hu.pend, List.nil_append] at h3
    refine ⟨h1, ⟨e.size, h4, h2, h6 hu.fuse⟩, e.more, fun k hk => by rw [h3]; exact h.good e h5 s.all hk, fun p hp => by rw [h3]; exact Disk.kept_append _ _ _ (h.beside e hp), fun T hT => (e.text T hT).imp id ?_⟩
    rintro ⟨i, hi, rfl⟩
    obtain ⟨k, hk, rfl⟩ := h.items life i hi
    exact ⟨k, hk, rfl⟩
theorem next_odd {life : UInt64} (h : life.toNat ≠ 18446744073709551615) : life.toNat % 2 ≠ (life + 1).toNat % 2 := by
  have h1 : (life + 1).toNat = (life.toNat + 1) % 18446744073709551616 := by simp [UInt64.toNat_add]
  have h2 : life.toNat < 18446744073709551616 := life.toNat_lt
  have h3 := Nat.mod_eq_of_lt (show life.toNat + 1 < 18446744073709551616 by omega)
  rw [h1, h3]; omega
/-- a write while the power may go; behind it the power comes back -/
theorem crash {ga gd gl : Int} {n : Nat} {a b : List (List UInt8)} (ha : PagesOk ga gd gl n a) (hb : PagesOk ga gd gl n b) {life : UInt64} (hlife : life.toNat ≠ 18446744073709551615) (fuse : Int) (keep : List Int) (t c : Int)
    {V1 V2 : List (List UInt8) × St × Int} {sA s3 : St} (e1 : V1 = snapF ga gd gl life a [] (new n)) (eA : sA = arm V1.2.1 fuse) (e2 : V2 = snapF ga gd gl (life + 1) b V1.1 sA) (e3 : s3 = restart V2.2.1 keep t c) :
    V1.2.2 = 0 ∧ UpN V1.2.1 n ∧ sA.size = n ∧ UpN s3 n ∧ snapR V2.1 s3 ga gd gl life a.length = some a ∧
      (snapR V2.1 s3 ga gd gl (life + 1) b.length = some b ∨ (V2.2.2 ≠ 0 ∧ snapR V2.1 s3 ga gd gl (life + 1) b.length = none)) := by
  obtain ⟨u1, u2, u3, u4, u5, u6⟩ := ha.up life [] (Sup.up_new n)
  rw [← e1] at u1 u2 u3 u4 u5 u6
  have hsA : sA.size = n := by rw [eA]; exact u2.size
  have hdA : sA.down = false := by rw [eA]; exact u2.down
  have hpA : sA.pend = [] := by rw [eA]; exact u2.pend
  have haA : sA.all = V1.2.1.all := by rw [eA]; rfl
  obtain ⟨m, e⟩ := hb.run (life + 1) V1.1 hsA hdA
  rw [← e2] at e
  have hodd := next_odd hlife
  have hla := ha.len
  have hlb := hb.len
  have hside : ∀ k, k < a.length → ∀ j, j < b.length → (areaAt ga gd gl life.toNat k).toNat ≠ (areaAt ga gd gl (life + 1).toNat j).toNat := fun k hk j hj h => by
    have p1 := ha.place life hk
    have p2 := hb.place (life + 1) hj
    exact area_apart hodd (by omega) (by omega) (show areaAt ga gd gl life.toNat k = areaAt ga gd gl (life + 1).toNat j by omega)
  have hmp : ∀ k, k < a.length → ∀ w ∈ m, w.1 ≠ (areaAt ga gd gl life.toNat k).toNat := fun k hk => hb.beside e (fun j hj => hside k hk j hj)
  obtain ⟨r1, r2, m', r3, r4⟩ := restart_up e.size keep t c
  rw [← e3] at r1 r2 r3
  have htext : ∀ T ∈ V2.1, (∃ k, ∃ hk : k < a.length, T = text (areaAt ga gd gl life.toNat k) (px life k a[k])) ∨ ∃ k, ∃ hk : k < b.length, T = text (areaAt ga gd gl (life + 1).toNat k) (px (life + 1) k b[k]) := fun T hT => by
    rcases e.text T hT with h | ⟨i, hi, rfl⟩
    · rcases u6 T h with h | h
      · cases h
      · exact .inl h
    · obtain ⟨k, hk, rfl⟩ := hb.items (life + 1) i hi
      exact .inr ⟨k, hk, rfl⟩
  have hfirst : (∀ k, k < a.length → kept s3.all (areaAt ga gd gl life.toNat k).toNat = kept V1.2.1.all (areaAt ga gd gl life.toNat k).toNat) → snapR V2.1 s3 ga gd gl life a.length = some a := fun hk0 =>
    (snapR_some (fun k hk => rdAt_good r1 ha hk (by rw [hk0 k hk]; exact e.more _ _ _ (u4 k hk)))).1
  have hsecond : snapR V2.1 s3 ga gd gl (life + 1) b.length = none ∨ snapR V2.1 s3 ga gd gl (life + 1) b.length = some b := by
    refine snapR_or fun k hk hp => ?_
    unfold isPg at hp
    rw [Bool.and_eq_true] at hp
    obtain ⟨g1, g2⟩ := rd_sound (l := V2.1) (s := s3) (p := areaAt ga gd gl (life + 1).toNat k) (of_decide_eq_true hp.1)
    obtain ⟨x, hx⟩ : ∃ x, x = (rdAt V2.1 s3 ga gd gl (life + 1) k).1 := ⟨_, rfl⟩
    have hx' : (rd V2.1 s3 (areaAt ga gd gl (life + 1).toNat k)).1 = x := hx.symm
    rw [hx'] at g1 g2
    rw [← hx]
    rcases htext _ g2 with ⟨j, hj, h⟩ | ⟨j, hj, h⟩
    · have e1 := text_inj g1 (ha.pright life hj) h
      rw [e1] at g1 h
      have := place_of (ha.pright life hj) g1 h
      exact absurd (by rw [this]) (hside j hj k hk)
    · have e1 := text_inj g1 (hb.pright (life + 1) hj) h
      rw [e1] at g1 h
      have := place_of (hb.pright (life + 1) hj) g1 h
      have hjk : k = j := area_inj (m := (life + 1).toNat) (by omega) (by omega) this
      subst hjk
      rw [e1]; rfl
  refine ⟨u1, u2, hsA, r1, ?_⟩
  rcases e.res with ⟨f1, f2, f3, f4, f5⟩ | ⟨f1, f2, f3, f4, f5, f6⟩
  · refine ⟨hfirst fun k hk => ?_, ?_⟩
    · rw [r3, f3, haA]
      refine Disk.kept_append _ _ _ fun w hw he => ?_
      obtain ⟨v, hv, hwv⟩ := r4 w hw
      rw [f4, hpA, List.nil_append] at hv
      exact hmp k hk v hv (by rw [← hwv]; exact he)
    · rcases hsecond with h | h
      · exact .inr ⟨by rw [f1]; decide, h⟩
      · exact .inl h
  · have hall := r2 f4
    rw [f3, hpA, List.nil_append, haA] at hall
    refine ⟨hfirst fun k hk => by rw [hall]; exact Disk.kept_append _ _ _ (hmp k hk), .inl ?_⟩
    exact (snapR_some (fun k hk => rdAt_good r1 hb hk (by rw [hall]; exact hb.good e f5 _ hk))).1
end Go.Proofs.Ytmpmibcdpkolkaa.Snap

/- The pages of a life: Bad of no disk; rows of bytes compared: Diff and Rows. -/
namespace Go.Proofs.Ytmpmibcdpkolkaa.Snap
open Go.RowKit
open Go.Proofs.Ytmpmibcdpkolkaa.Geom
open Go.Proofs.Ytmpmibcdpkolkaa.Sup (Gb gv gcell srightF gthree)
set_option linter.unusedVariables false
set_option maxRecDepth 100000
theorem badD_nil (gS : Nat) (ga gd gl : Int) (life : UInt64) (w : World) : Calls Try.prog 38 #[.pointer none, .pointer (some ⟨gS, 0, none⟩), gv ga gd gl, .int .u64 (life.toNat : Int)] w fun e w' => e = .returned (.tuple #[.slice none 0 0, .int .i64 1]) ∧ Below w.heap.size w w' := by
  have FG := Blk.new w (gcell ga gd gl) 23
  obtain ⟨z0, z1, z2⟩ := gthree FG
  have B8 := Box.new (w.alloc (.cells (gcell ga gd gl).toArray 23)) 63 (.slice none 0 0)
  have B9 := Box.new ((w.alloc (.cells (gcell ga gd gl).toArray 23)).alloc (.cells #[.slice none 0 0] 63)) 28 (.int .i64 0)
  simp at B8 B9
  obtain ⟨w0, hw0⟩ : ∃ w0, w0 = (((w.alloc (.cells (gcell ga gd gl).toArray 23)).alloc (.cells #[.slice none 0 0] 63)).alloc (.cells #[.int .i64 0] 28)).alloc (.cells (acell (.pointer none) (.pointer (some ⟨gS, 0, none⟩)) ga gd gl life).toArray 138) := ⟨_, rfl⟩
  have b0 : Below w.heap.size w w0 := by rw [hw0]; exact bt (b3alloc _ _ _ _) (b1alloc _ _)
  have C8 : Box w0 (w.heap.size + 1) (.slice none 0 0) := by rw [hw0]; exact (B8.alloc _).alloc _
  have C9 : Box w0 (w.heap.size + 1 + 1) (.int .i64 0) := by rw [hw0]; exact B9.alloc _
  have CA : Blk w0 (w.heap.size + 1 + 1 + 1) (acell (.pointer none) (.pointer (some ⟨gS, 0, none⟩)) ga gd gl life) := by
    rw [hw0]
    have := Blk.new (((w.alloc (.cells (gcell ga gd gl).toArray 23)).alloc (.cells #[.slice none 0 0] 63)).alloc (.cells #[.int .i64 0] 28)) (acell (.pointer none) (.pointer (some ⟨gS, 0, none⟩)) ga gd gl life) 138
    simpa using this
  obtain ⟨q0, q1, q2, q3, q4, q5⟩ := six6 CA
  have e0 : (((w.alloc (.cells #[.int .i64 ga, .int .i64 gd, .int .i64 gl] 23)).alloc (.cells #[.slice none 0 0] 63)).alloc (.cells #[.int .i64 0] 28)).alloc (.cells #[.pointer none, .pointer (some ⟨gS, 0, none⟩), .int .i64 ga, .int .i64 gd, .int .i64 gl, .int .u64 (life.toNat : Int)] 138) = w0 := hw0.symm
  clear hw0 B8 B9
  go_enter Try.func38, Try.ntmps38
  go_wp2
  go_step3
  go_wp2_with (go_at_call 85; refine (rightD_nil _ _ _ _ _ _).mono ?_; rintro e w1 ⟨rfl, b1⟩; have D8 := C8.on' b1; have D9 := C9.on' b1; have y8 := D8.cell; have y9 := D9.cell; have f8 := D8.free; have f9 := D9.free; have bw := bt b0 b1)
  try rw [Exit.noGoto_ret]
  refine bodyPost_ret (v := .tuple #[.slice none 0 0, .int .i64 1]) (by simp [results, Try.results38, go_sem, *]) rfl ⟨rfl, ?_⟩
  exact bset (bset bw (by omega) _) (by omega) _
end Go.Proofs.Ytmpmibcdpkolkaa.Snap

/- What the laws on supers share: the reference's Mark, Place and Sector, the example. -/
namespace Go.Proofs.Ytmpmibcdpkolkaa
theorem RdN.lit1 (w : World) (fp : List Nat) (hf : ∀ j ∈ fp, j < w.heap.size) (v : Value) (t : TypeId) : RdN (w.alloc (.cells #[v] t)) fp (some ⟨w.heap.size, 0, none⟩) [v] := fun _ =>
  ⟨w.heap.size, 0, rfl, by simp, fun e => by have := hf _ e; omega, fun i hi => by rw [World.cell?_alloc_new, Nat.zero_add]; simp at hi; subst hi; rfl⟩
end Go.Proofs.Ytmpmibcdpkolkaa
namespace Go.Proofs.Ytmpmibcdpkolkaa.Sup
open Go.RowKit
open Go.Proofs.Ytmpmibcdpkolkaa.Geom
open Go.Proofs.Ytmpmibcdpkolkaa.Disk (St DAt Did New8 Told8 new)
open Go.Proofs.Ytmpmibcdpkolkaa.Sec (X SymAt text sumOf sumAfter ckS blankB rightF xv RetX X0 five5x symbolic_any bset5)
set_option linter.unusedVariables false
set_option maxRecDepth 100000
theorem newN_any (n : Nat) (z : Int) (hz : z = (n : Int)) (h1 : 1 ≤ n) (h2 : n ≤ 1024) (w : World) : Calls Try.prog 12 #[.int .i64 z] w fun e w' => ∃ g fp, e = .returned (.tuple #[.pointer (some ⟨g, 0, none⟩), .int .i64 0]) ∧ DAt w' g fp (new n) ∧ (∀ j ∈ fp, w.heap.size ≤ j) ∧ Below w.heap.size w w' := by
  subst hz
  refine (Disk.new_any n w (by omega) (by omega)).mono ?_
  rintro e w' ⟨h, b⟩
  rw [if_neg (by omega)] at h
  obtain ⟨g, fp, he, hd, hf⟩ := h
  exact ⟨g, fp, he, by simpa using hd, hf, b⟩
theorem rmark_any (ga gd gl : Int) (w : World) (hG : Gb ga gd gl) : Calls Try.prog 18 #[gv ga gd gl] w (RetB 5 w (mk ga gd gl)) := by
  obtain ⟨z0, z1, z2⟩ := gthree (Blk.new w (gcell ga gd gl) 23)
  have b0 := b1alloc w (.cells (gcell ga gd gl).toArray 23)
  have HR := Lib.hid (fun W => Geom.rright_any ga gd gl W hG.a0 hG.a1 hG.d0 hG.d1 hG.g0 hG.g1)
  unfold mk
  cases hq : right ga gd gl with
  | false =>
    rw [hq] at HR
    rw [if_neg (by simp)]
    go_enter Try.func18, Try.ntmps18
    go_wp2_with (go_at_call 19; refine (HR.out _).mono ?_; rintro e w' ⟨rfl, b1⟩)
    go_ret
    exact RetB.mk (own_nil _ _ _ _) rfl (bt b0 b1)
  | true =>
    rw [hq] at HR
    rw [if_pos rfl]
    have hy := Geom.right_yes hq
    obtain ⟨x, hx⟩ : ∃ x, x = UInt8.ofNat ga.toNat := ⟨_, rfl⟩
    obtain ⟨y, hY⟩ : ∃ x, x = UInt8.ofNat gd.toNat := ⟨_, rfl⟩
    obtain ⟨z, hz⟩ : ∃ x, x = UInt8.ofNat gl.toNat := ⟨_, rfl⟩
    have w1 : IntKind.u8.wrap ga = (x.toNat : Int) := by rw [hx, IntKind.wrap_u8', UInt8.toNat_ofNat']; omega
    have w2 : IntKind.u8.wrap gd = (y.toNat : Int) := by rw [hY, IntKind.wrap_u8', UInt8.toNat_ofNat']; omega
    have w3 : IntKind.u8.wrap gl = (z.toNat : Int) := by rw [hz, IntKind.wrap_u8', UInt8.toNat_ofNat']; omega
    rw [← hx, ← hY, ← hz]
    clear hx hY hz
    have F := Lib.hid (Blk.new w (gcell ga gd gl) 23)
    go_enter Try.func18, Try.ntmps18
    go_wp2_with (go_at_call 19; refine (HR.out _).mono ?_; rintro e w4 ⟨rfl, b1⟩; obtain ⟨y0, y1, y2⟩ := gthree (F.out.on b1))
    go_ret
    have hl := own_lit w4 5 #[e8 x, e8 y, e8 z] w.heap.size 3 (bt b0 b1).size rfl (by unfold maxLen; omega)
    exact RetB.mk hl rfl (bt (bt b0 b1) (b1alloc _ _))
theorem rplace_any (n : UInt64) (m : Int) (hm : m = (n.toNat : Int)) (w : World) : Calls Try.prog 21 #[.int .u64 m] w fun e w' => e = .returned (.int .i64 (splace n)) ∧ w = w' := by
  subst hm
  have hl := n.toNat_lt
  have h1 : (n.toNat : Int) % 2 = (n.toNat : Int).tmod 2 := by rw [Int.tmod_eq_emod_of_nonneg (by omega)]
  have hw : IntKind.i64.wrap ((n.toNat : Int) % 2) = (n.toNat : Int) % 2 := wrap_small (by omega) (by omega)
  have hw2 : IntKind.i64.wrap (2 + (n.toNat : Int) % 2) = 2 + (n.toNat : Int) % 2 := wrap_small (by omega) (by omega)
  go_enter Try.func21, Try.ntmps21
  go_wp2
  go_ret
  exact ⟨rfl, rfl⟩
theorem set5 {W : World} {g b : Nat} {xs : List Value} (h : Blk W g xs) (n : g ≠ b) (v0 v1 v2 v3 v4 : Value) : Blk (((((W.setCell ⟨b, 0, none⟩ v0).setCell ⟨b, 1, none⟩ v1).setCell ⟨b, 2, none⟩ v2).setCell ⟨b, 3, none⟩ v3).setCell ⟨b, 4, none⟩ v4) g xs :=
  Blk.other (Blk.other (Blk.other (Blk.other (Blk.other h v0 n) v1 n) v2 n) v3 n) v4 n
set_option maxHeartbeats 2000000 in
theorem rsector_any (ga gd gl : Int) (life : UInt64) (base : Int) (gen : UInt64) (w : World) (hG : Gb ga gd gl) : Calls Try.prog 25 #[gv ga gd gl, sv life base gen] w fun e w' => ∃ A c, e = .returned (.agg #[.int .i64 2, .int .u64 (life.toNat : Int), .int .i64 base, .int .u64 (gen.toNat : Int), .slice A (mk ga gd gl).length c]) ∧ Rd w' w'.heap.size A ((mk ga gd gl).map e8) ∧ Below w.heap.size w w' := by
  have FG : Blk (((w.alloc (.cells (gcell ga gd gl).toArray 23)).alloc (.cells (scell life base gen).toArray 26)).alloc (.cells #[.int .i64 0, .int .u64 0, .int .i64 0, .int .u64 0, .slice none 0 0] 49)) w.heap.size (gcell ga gd gl) := ((Blk.new w (gcell ga gd gl) 23).alloc (.cells (scell life base gen).toArray 26)).alloc _
  have FX : Blk (((w.alloc (.cells (gcell ga gd gl).toArray 23)).alloc (.cells (scell life base gen).toArray 26)).alloc (.cells #[.int .i64 0, .int .u64 0, .int .i64 0, .int .u64 0, .slice none 0 0] 49)) (w.heap.size + 1) (scell life base gen) := by simpa using (Blk.new (w.alloc (.cells (gcell ga gd gl).toArray 23)) (scell life base gen) 26).alloc (.cells #[.int .i64 0, .int .u64 0, .int .i64 0, .int .u64 0, .slice none 0 0] 49)
  have FR : Blk (((w.alloc (.cells (gcell ga gd gl).toArray 23)).alloc (.cells (scell life base gen).toArray 26)).alloc (.cells #[.int .i64 0, .int .u64 0, .int .i64 0, .int .u64 0, .slice none 0 0] 49)) (w.heap.size + 1 + 1) [.int .i64 0, .int .u64 0, .int .i64 0, .int .u64 0, .slice none 0 0] := by simpa using Blk.new ((w.alloc (.cells (gcell ga gd gl).toArray 23)).alloc (.cells (scell life base gen).toArray 26)) [.int .i64 0, .int .u64 0, .int .i64 0, .int .u64 0, .slice none 0 0] 49
  have b0 := b3alloc w (.cells (gcell ga gd gl).toArray 23) (.cells (scell life base gen).toArray 26) (.cells #[.int .i64 0, .int .u64 0, .int .i64 0, .int .u64 0, .slice none 0 0] 49)
  have HM := Lib.hid (fun W => rmark_any ga gd gl W hG)
  obtain ⟨M, hM⟩ : ∃ M, M = mk ga gd gl := ⟨_, rfl⟩
  rw [← hM] at HM ⊢
  clear hM
  go_enter Try.func25, Try.ntmps25
  go_wp2
  have hp1 : w.heap.size + 2 = w.heap.size + 1 + 1 := by omega
  obtain ⟨w0, hw0⟩ : ∃ q, q = (((w.alloc (.cells (gcell ga gd gl).toArray 23)).alloc (.cells (scell life base gen).toArray 26)).alloc (.cells #[.int .i64 0, .int .u64 0, .int .i64 0, .int .u64 0, .slice none 0 0] 49)) := ⟨_, rfl⟩
  rw [← hw0] at FG FX FR b0
  rw [show (((w.alloc (.cells #[.int .i64 ga, .int .i64 gd, .int .i64 gl] 23)).alloc (.cells #[.int .u64 (life.toNat : Int), .int .i64 base, .int .u64 (gen.toNat : Int)] 26)).alloc (.cells #[.int .i64 0, .int .u64 0, .int .i64 0, .int .u64 0, .slice none 0 0] 49)) = w0 from hw0.symm]
  clear hw0
  obtain ⟨z0, z1, z2⟩ := gthree FG
  obtain ⟨y0, y1, y2⟩ := gthree FX
  have fr := FR.free
  have c0 : Below w0.heap.size w0 w0.drew := (Below.refl _ _).drew
  go_region_held3 (fun w' => (w'.cell? ⟨w.heap.size, 0, none⟩ = some (.int .i64 ga) ∧ w'.cell? ⟨w.heap.size, 1, none⟩ = some (.int .i64 gd) ∧ w'.cell? ⟨w.heap.size, 2, none⟩ = some (.int .i64 gl)) ∧ (w'.cell? ⟨w.heap.size + 1, 0, none⟩ = some (.int .u64 (life.toNat : Int)) ∧ w'.cell? ⟨w.heap.size + 1, 1, none⟩ = some (.int .i64 base) ∧ w'.cell? ⟨w.heap.size + 1, 2, none⟩ = some (.int .u64 (gen.toNat : Int)))) (first | exact ⟨gthree (FG.on c0), gthree (FX.on c0)⟩ | exact ⟨gthree (FG.on c1), gthree (FX.on c1)⟩ | exact ⟨gthree (set5 (FG.on c1) (by omega) _ _ _ _ _), gthree (set5 (FX.on c1) (by omega) _ _ _ _ _)⟩) ((go_at_call 18; refine (HM.out _).mono ?_; rintro e w1 ⟨A1, d1, rfl, own1, b1'⟩; have c1 := bt c0 b1'; obtain ⟨r0, r1, r2, r3, r4⟩ := five5x (FR.on c1); have fr1 := (FR.on c1).free))
  have k5 := Sec.keep5 w1 (w.heap.size + 1 + 1) (.int .i64 2) (.int .u64 (life.toNat : Int)) (.int .i64 base) (.int .u64 (gen.toNat : Int)) (.slice A1 M.length d1)
  have hlt := FR.lt
  have own2 := own_keep own1 k5 (fun g' hg' e => by have := own_block own1 hg'; rw [List.mem_singleton] at e; have h0 : w0.drew.heap.size = w0.heap.size := rfl; omega)
  have bq := bset5 (bt b0 c1) (show w.heap.size ≤ w.heap.size + 1 + 1 by omega) (v0 := .int .i64 2) (v1 := .int .u64 (life.toNat : Int)) (v2 := .int .i64 base) (v3 := .int .u64 (gen.toNat : Int)) (v4 := .slice A1 M.length d1)
  go_wp2
  exact bodyPost_ret (v := .agg #[.int .i64 2, .int .u64 (life.toNat : Int), .int .i64 base, .int .u64 (gen.toNat : Int), .slice A1 M.length d1]) (by simp [results, Try.results25, go_sem, *]) rfl ⟨_, _, rfl, Rd.own own2, bq⟩
theorem gb213 : Gb 2 1 3 := ⟨by decide, by decide, by decide, by decide, by decide, by decide⟩
theorem size213 : Geom.sizeOf 2 1 3 = 13 := by decide
theorem right213 : Geom.right 2 1 3 = true := by decide
set_option maxHeartbeats 4000000 in
theorem alive_any (w : World) : Calls Try.prog 20 #[] w fun e w' => e = .returned (.bool true) ∧ Below w.heap.size w w' := by
  obtain ⟨c1, c2, c3, c4⟩ := (up_new 13).clr (by omega)
  have r0 : srightF (new 13) 2 1 3 = 0 := srightF_new (n := 13) right213 rfl (by rw [size213]; rfl)
  have rC : srightF (clr (new 13)).1 2 1 3 = 0 := srightF_new (n := 13) right213 c2.size (by rw [size213]; rfl)
  have hz0 : (new 13).sz = 0 := rfl
  have a2 : atR [] (clr (new 13)).1 2 1 3 2 = none := c2.at_zero (by omega) (by omega) (by rw [c3]; rfl)
  have a3 : atR [] (clr (new 13)).1 2 1 3 3 = none := c2.at_zero (by omega) (by omega) (by rw [c3]; rfl)
  have hC := fun g fp W h => clear_any g fp (new 13) 2 1 3 W gb213 h (by decide) r0
  obtain ⟨C, hCe⟩ : ∃ C, C = clr (new 13) := ⟨_, rfl⟩
  rw [← hCe] at c1 c2 c3 c4 rC a2 a3 hC
  have hR1 := fun g fp gS bS W h => readSup_any g fp C.1 gS bS [] 2 1 3 W gb213 h (by simp) (by omega) rC c2.down
  rw [a2, a3] at hR1
  have hW := fun g fp gS bS W h => write_any g fp C.1 gS bS [] 2 1 3 3 1 2 W gb213 h (by simp) (by omega) rC (by omega) (by omega)
  obtain ⟨v1, v2, v3⟩ := c2.wf (p := splace 3) (by decide) (by decide) (sB_len [] 2 1 3 3 1 2)
  have y1 := wf_sz C.1 (splace 3) (sB [] 2 1 3 3 1 2)
  have y2 := sL_len [] 2 1 3 3 1 2
  have hg := sB_good [] (ga := 2) (gd := 1) (gl := 3) (life := 3) (base := 1) (gen := 2) (by omega) (by omega)
  obtain ⟨V, hV⟩ : ∃ V, V = wf C.1 (splace 3) (sB [] 2 1 3 3 1 2) := ⟨_, rfl⟩
  rw [← hV] at v1 v2 v3 y1 hW
  have hs3 : splace 3 = 3 := by decide
  have rV : srightF V.1 2 1 3 = 0 := srightF_new (n := 13) right213 v2.size (by rw [size213]; rfl)
  obtain ⟨L, hL⟩ : ∃ L, L = sL [] 2 1 3 3 1 2 := ⟨_, rfl⟩
  rw [← hL] at hW y2 hg
  have w3 : atR L V.1 2 1 3 3 = some ⟨3, 1, 2⟩ := by
    have := v2.at_own (l := L) (ga := 2) (gd := 1) (gl := 3) (life := 3) (base := 1) (gen := 2) (by decide) (by rw [v3, kept_after]; exact hg)
    rw [hs3] at this; exact this
  have w2 : atR L V.1 2 1 3 2 = none := v2.at_zero (by omega) (by omega) (by rw [v3, kept_beside _ _ (by decide), c3]; rfl)
  have hR2 := fun g fp gS bS W h => readSup_any g fp V.1 gS bS L 2 1 3 W gb213 h (by simp at y2; omega) (by omega) rV v2.down
  rw [w2, w3] at hR2
  rw [v1] at hW
  have hR1' : ∀ g fp gS bS W, Both W g fp C.1 gS bS [] → Calls Try.prog 24 #[.pointer (some ⟨g, 0, none⟩), .pointer (some ⟨gS, 0, none⟩), gv 2 1 3] W fun e w' => e = .returned (.tuple #[.agg #[.int .u64 0, .int .i64 0, .int .u64 0], .int .i64 11]) ∧ Below W.heap.size W w' := hR1
  have hR2' : ∀ g fp gS bS W, Both W g fp V.1 gS bS L → Calls Try.prog 24 #[.pointer (some ⟨g, 0, none⟩), .pointer (some ⟨gS, 0, none⟩), gv 2 1 3] W fun e w' => e = .returned (.tuple #[.agg #[.int .u64 3, .int .i64 1, .int .u64 2], .int .i64 0]) ∧ Below W.heap.size W w' := hR2
  have hW' : ∀ g fp gS bS W, Both W g fp C.1 gS bS [] → Calls Try.prog 15 #[.pointer (some ⟨g, 0, none⟩), .pointer (some ⟨gS, 0, none⟩), gv 2 1 3, .agg #[.int .u64 3, .int .i64 1, .int .u64 2]] W fun e w' => e = .returned (.int .i64 0) ∧ Turn W g fp gS bS V.1 L w' := hW
  have HC := Lib.hid hC
  have HR1 := Lib.hid hR1'
  have HR2 := Lib.hid hR2'
  have HW := Lib.hid hW'
  have C1 := Lib.hid c1
  have tR : True := trivial
  clear hC hR1 hR2 hW hR1' hR2' hW' hCe hV hL c1 c2 c3 c4 v1 v2 v3 y1 y2 hg w2 w3 a2 a3 rV rC r0 hz0 hs3
  have F := Lib.hid (Blk.new w (gcell 2 1 3) 23)
  have hltF := F.out.lt
  have b0 := b1alloc w (.cells (gcell 2 1 3).toArray 23)
  go_enter Try.func20, Try.ntmps20
  go_wp2_with (first
    | (go_at_call 12; refine (newN_any 13 13 rfl (by omega) (by omega) _).mono ?_; rintro e w1 ⟨g, fp, rfl, hD, hfp, b1⟩)
    | (go_at_call 14; refine (symbolic_any _).mono ?_; rintro e w2 ⟨gS, bS, rfl, hS, hgS, hbS, b2⟩; have H2 := Here.start hD hfp b1 hS hgS hbS b2; obtain ⟨m0, m1, m2⟩ := gthree (F.out.below H2.bel hltF))
    | (go_at_call 27; refine (HC.out _ _ _ H2.both.disk).mono ?_; rintro e w3 d3; obtain ⟨rfl, fp3, H3, _, _⟩ := H2.did d3; rw [C1.out];clear m0 m1 m2; obtain ⟨n0, n1, n2⟩ := gthree (F.out.below H3.bel hltF))
    | (go_at_call 24; have _t := tR; refine (HR1.out _ _ _ _ _ H3.both).mono ?_; rintro e w4 ⟨rfl, b4⟩; have H4 := H3.on (bt b4 (b1alloc w4 (.cells #[.int .u64 0, .int .i64 0, .int .u64 0] 35)));clear n0 n1 n2; obtain ⟨o0, o1, o2⟩ := gthree (F.out.below H4.bel hltF); clear tR)
    | (go_at_call 15; refine (HW.out _ _ _ _ _ H4.both).mono ?_; rintro e w5 ⟨rfl, T5⟩; obtain ⟨fp5, H5, _, _⟩ := H4.turn T5;clear o0 o1 o2; obtain ⟨p0, p1, p2⟩ := gthree (F.out.below H5.bel hltF))
    | (go_at_call 24; refine (HR2.out _ _ _ _ _ H5.both).mono ?_; rintro e w6 ⟨rfl, b6⟩; have H6 := H5.on (bt b6 (b1alloc w6 (.cells #[.int .u64 3, .int .i64 1, .int .u64 2] 35)))))
  go_ret
  exact ⟨rfl, bt b0 H6.bel⟩
end Go.Proofs.Ytmpmibcdpkolkaa.Sup

/- The document's comparisons: rows of bytes, rows of numbers. -/
namespace Go.Proofs.Ytmpmibcdpkolkaa.R20
open Go.RowKit
set_option linter.unusedVariables false
set_option maxRecDepth 100000
theorem take_snoc_eq {α : Type} {a b : List α} {k : Nat} (ha : k < a.length) (hb : k < b.length) : a.take (k + 1) = b.take (k + 1) ↔ (a.take k = b.take k ∧ a[k] = b[k]) := by
  rw [List.take_succ_eq_append_getElem ha, List.take_succ_eq_append_getElem hb]
  constructor
  · intro h
    have h1 := List.append_inj_left h (by simp; omega)
    have h2 := List.append_inj_right h (by simp; omega)
    exact ⟨h1, by simpa using h2⟩
  · rintro ⟨h1, h2⟩
    rw [h1, h2]
def Diffs (d : Bool) (e : Ending) : Prop := ∃ C k c, e = .returned (.slice C k c) ∧ (((k : Nat) : Int) == 0) = d
theorem infoI : (Try.prog.info? 3).map (fun i => (i.zero, i.size, i.bytes)) = some (some (.int .i64 0), 1, 8) := by kernel_rfl
set_option maxHeartbeats 1000000 in
theorem diff_any (A B : Option Addr) (a b : List (List UInt8)) (n m ca cb : Nat) (w : World) (ha : Rws w w.heap.size A a) (hb : Rws w w.heap.size B b) (hn : n = a.length) (hm : m = n) (hl : a.length = b.length) (hl1 : n ≤ 1000) (hla : ∀ x ∈ a, x.length ≤ 1000000) (hlb : ∀ x ∈ b, x.length ≤ 1000000) :
    Calls Try.prog 93 #[.slice A n ca, .slice B m cb] w fun e w' => Diffs (decide (a = b)) e ∧ Below w.heap.size w w' := by
  subst hm
  obtain ⟨i0, hi0, hz0, hz1, hz2⟩ := info_parts infoI
  have Hn := Lib.hid hn
  have HL := Lib.hid hl
  clear hn hl
  go_enter Try.func93, Try.ntmps93
  go_wp2_with fail
  go_loopw [5, 6] (fun o i wr => ∃ k : Nat, k ≤ m ∧ i = .int .i64 (k : Int) ∧ Below w.heap.size w wr ∧ ∃ j xs, wr.ownsRow w.heap.size 3 1 o j xs ∧ j ≤ k ∧ Hid ((j = 0) ↔ a.take k = b.take k)) (fun _ i _ => m - (intOf i).toNat)
  case atStart => exact ⟨0, by omega, rfl, Below.refl _ _, 0, [], own_nil _ _ _ _, Nat.le_refl _, Lib.hid (by simp)⟩
  case round =>
    obtain ⟨k, hk, rfl, bel, j, xs, hown, hjk, hj⟩ := hrel
    have hmx : max (m : Int) (m : Int) = (m : Int) := by omega
    have hwk : wrap64 ((k : Int) + 1) = (k : Int) + 1 := by unfold wrap64; omega
    by_cases hlt : k < m
    · have hka : k < a.length := by have := Hn.out; omega
      have hkb : k < b.length := by have := Hn.out; have := HL.out; omega
      have hkm : (k : Int) < (m : Int) := by omega
      have hge : ¬ (m : Int) ≤ (k : Int) := by omega
      obtain ⟨b1, o1, A1, c1, rfl, hb1, hc1, hr1, _, _⟩ := (ha.below bel).get hka
      obtain ⟨b2, o2, A2, c2, rfl, hb2, hc2, hr2, _, _⟩ := (hb.below bel).get hkb
      have hS := fun W (bW : Below wr.heap.size wr W) => R1.same_any A1 A2 a[k] b[k] _ _ c1 c2 W rfl rfl ((hr1.below (bW.mono bel.size)).more (by have := bel.size; have := bW.size; omega)) ((hr2.below (bW.mono bel.size)).more (by have := bel.size; have := bW.size; omega)) (by have := hla _ (List.getElem_mem hka); omega) (by have := hlb _ (List.getElem_mem hkb); omega)
      have hst := take_snoc_eq hka hkb
      have hsame : R1.sameB a[k] b[k] = decide (a[k] = b[k]) := rfl
      obtain ⟨x, hx⟩ : ∃ x, x = a[k] := ⟨_, rfl⟩
      obtain ⟨y, hy⟩ : ∃ y, y = b[k] := ⟨_, rfl⟩
      rw [← hx, ← hy] at hS hst hsame
      rw [← hx] at hc1
      rw [← hy] at hc2
      have hb1' : b1 < wr.heap.size := by have := bel.size; omega
      have hb2' : b2 < wr.heap.size := by have := bel.size; omega
      by_cases he : x = y
      · rw [hsame, decide_eq_true he] at hS
        have HS := Lib.hid hS
        have Hst := Lib.hid hst
        have He := Lib.hid he
        clear hS hst hsame hx hy he hr1 hr2 ha hb
        go_wp2_with fail
        refine region_inb (by kernel_rfl) (by kernel_rfl) ?_
        have inbNe := InB.some
        have inbW := @wrap_small
        have inbU := IntKind.wrap_u8'
        repeat (refine wpQuiet_step (fun K hK => ?_); go_simp; first | (refine hK _ ?_; clear hK K) | (apply Exists.intro; refine ⟨?_, hK _ ?_⟩; (· (intro w' hw'; first | (go_at_call 16; refine (HS.out _ hw'.below).mono ?_; rintro e w1 ⟨rfl, b1⟩; exact ⟨rfl, hw'.on b1⟩) | (have hcw := hw'.cell; go_simp; exact rfl))); clear hK K))
        refine wpQuiet_nil ?_
        intro wq hq
        clear inbNe inbW inbU
        go_wp2
        case roundEnd => exact ⟨⟨k + 1, by omega, rfl, bt bel hq.below, j, xs, own_on hown hq.below, by omega, Lib.hid (by rw [hj.out, Hst.out]; exact ⟨fun h => ⟨h, He.out⟩, fun h => h.1⟩)⟩, by simp only [intOf]; omega⟩
      · rw [hsame, decide_eq_false he] at hS
        have HS := Lib.hid hS
        have Hst := Lib.hid hst
        have He := Lib.hid he
        clear hS hst hsame hx hy he hr1 hr2 ha hb
        obtain ⟨A5, c5, rfl⟩ := own_form hown
        go_wp2_with fail
        refine region_inb (by kernel_rfl) (by kernel_rfl) ?_
        have inbNe := InB.some
        have inbW := @wrap_small
        have inbU := IntKind.wrap_u8'
        repeat (refine wpQuiet_step (fun K hK => ?_); go_simp; first | (refine hK _ ?_; clear hK K) | (apply Exists.intro; refine ⟨?_, hK _ ?_⟩; (· (intro w' hw'; first | (go_at_call 16; refine (HS.out _ hw'.below).mono ?_; rintro e w1 ⟨rfl, b1⟩; exact ⟨rfl, hw'.on b1⟩) | (have hcw := hw'.cell; go_simp; exact rfl))); clear hK K))
        refine wpQuiet_nil ?_
        intro wq hq
        clear inbNe inbW inbU
        have own2 := own_on hown hq.below
        have hsz2 := hq.below.size
        go_wp2_with (refine wpList_append_rd _ rfl _ _ _ rfl w.heap.size 3 i0 _ 1 8 Try.underlying63 hi0 hz0 hz1 hz2 rfl (by omega) _ j xs rfl (own2.alloc _) (wq.heap.size + 1) (some ⟨wq.heap.size, 0, none⟩) 1 1 [.int .i64 (k : Int)] rfl rfl (Rd.lit wq _ _ _ _ rfl (by omega)) (one_int _ _) (by simp only [maxLen]; omega) (by omega) (le_alloc (Nat.le_trans bel.size hsz2) _) ?_; intro v2 w2 hown2 hg2 hat2)
        have bel2 : Below w.heap.size w w2 := by
          refine ((bt bel hq.below).alloc (Nat.le_trans bel.size hsz2) _).grown hg2 (le_alloc (Nat.le_trans bel.size hsz2) _) (fun g hg => ?_)
          exact own_block hown hg
        case roundEnd => exact ⟨⟨k + 1, by omega, rfl, bel2, j + 1, _, hown2, by omega, Lib.hid ⟨fun h => absurd h (by omega), fun h => absurd (Hst.out.1 h).2 He.out⟩⟩, by simp only [intOf]; omega⟩
    · have hkm : k = m := by omega
      have hkn : ¬ (k : Int) < (m : Int) := by omega
      obtain ⟨A5, c5, rfl⟩ := own_form hown
      have Hk := Lib.hid hkm
      clear hkm
      go_wp2
      go_ret
      refine ⟨⟨A5, j, c5, rfl, ?_⟩, bel⟩
      have h1 := hj.out
      have h2 := Hk.out
      have h3 := Hn.out
      have h4 := HL.out
      rw [List.take_of_length_le (by omega), List.take_of_length_le (by omega)] at h1
      by_cases hj0 : j = 0
      · rw [beq_yes (by omega), decide_eq_true (h1.1 hj0)]
      · rw [beq_no (by omega), decide_eq_false (fun e => hj0 (h1.2 e))]
theorem rows_any (A B : Option Addr) (a b : List (List UInt8)) (n m ca cb : Nat) (w : World) (ha : Rws w w.heap.size A a) (hb : Rws w w.heap.size B b) (hn : n = a.length) (hm : m = b.length) (hl1 : n ≤ 1000) (hla : ∀ x ∈ a, x.length ≤ 1000000) (hlb : ∀ x ∈ b, x.length ≤ 1000000) :
    Calls Try.prog 39 #[.slice A n ca, .slice B m cb] w fun e w' => e = .returned (.bool (decide (a = b))) ∧ Below w.heap.size w w' := by
  by_cases hl : n = m
  · have HD := Lib.hid (diff_any A B a b n m ca cb w ha hb hn hl.symm (by omega) hl1 hla hlb)
    obtain ⟨d, hd⟩ : ∃ d, d = decide (a = b) := ⟨_, rfl⟩
    rw [← hd] at HD ⊢
    have t0 := bne_no (show (n : Int) = (m : Int) by omega)
    clear ha hb hn hm hd hl hla hlb
    go_enter Try.func39, Try.ntmps39
    go_wp2_with (go_at_call 93; refine HD.out.mono ?_; rintro e w1 ⟨⟨C, k, c, rfl, hk⟩, b1⟩)
    go_ret
    exact ⟨by first | rfl | exact ret_bool hk, b1⟩
  · have hne : decide (a = b) = false := decide_eq_false (fun e => hl (by rw [hn, hm, e]))
    rw [hne]
    have t0 := bne_yes (show (n : Int) ≠ (m : Int) by omega)
    clear ha hb hn hm hl hla hlb hne
    go_enter Try.func39, Try.ntmps39
    go_wp2
    go_ret
    exact ⟨rfl, Below.refl _ _⟩
set_option maxHeartbeats 1000000 in
/-- the same numbers -/
theorem ints_same (A B : Option Addr) (l : List Int) (n m ca cb : Nat) (w : World) (ha : Rd w w.heap.size A (l.map (Value.int .i64))) (hb : Rd w w.heap.size B (l.map (Value.int .i64))) (hn : n = l.length) (hm : m = n) (hl : n ≤ 1000000) :
    Calls Try.prog 48 #[.slice A n ca, .slice B m cb] w fun e w' => e = .returned (.bool true) ∧ Below w.heap.size w w' := by
  subst hm
  have Hn := Lib.hid hn
  clear hn
  go_enter Try.func48, Try.ntmps48
  go_wp2_with fail
  go_loopw [5] (fun i wr => ∃ k : Nat, k ≤ m ∧ i = .int .i64 (k : Int) ∧ Below w.heap.size w wr) (fun i _ => m - (intOf i).toNat)
  case atStart => exact ⟨0, by omega, rfl, Below.refl _ _⟩
  case round =>
    obtain ⟨k, hk, rfl, bel⟩ := hrel
    have hwk : wrap64 ((k : Int) + 1) = (k : Int) + 1 := by unfold wrap64; omega
    by_cases hlt : k < m
    · have hkl : k < l.length := by have := Hn.out; omega
      have hkm : (k : Int) < (m : Int) := by omega
      obtain ⟨b1, o1, rfl, hb1, hc1⟩ := (ha.below bel).get (k := k) (by rw [List.length_map]; exact hkl)
      obtain ⟨b2, o2, rfl, hb2, hc2⟩ := (hb.below bel).get (k := k) (by rw [List.length_map]; exact hkl)
      rw [List.getElem_map] at hc1 hc2
      obtain ⟨x, hx⟩ : ∃ x, x = l[k] := ⟨_, rfl⟩
      rw [← hx] at hc1 hc2
      have hb1' : b1 < wr.heap.size := by have := bel.size; omega
      have hb2' : b2 < wr.heap.size := by have := bel.size; omega
      have t1 := bne_no (show x = x from rfl)
      clear hx ha hb
      go_wp2_with fail
      refine region_inb (by kernel_rfl) (by kernel_rfl) ?_
      have inbNe := InB.some
      have inbW := @wrap_small
      have inbU := IntKind.wrap_u8'
      repeat (refine wpQuiet_step (fun K hK => ?_); go_simp; first | (refine hK _ ?_; clear hK K) | (apply Exists.intro; refine ⟨?_, hK _ ?_⟩; (· (intro w' hw'; first | fail | (have hcw := hw'.cell; go_simp; exact rfl))); clear hK K))
      refine wpQuiet_nil ?_
      intro wq hq
      clear inbNe inbW inbU
      go_wp2
      case roundEnd => exact ⟨⟨k + 1, by omega, rfl, bt bel hq.below⟩, by simp only [intOf]; omega⟩
    · have hkn : ¬ (k : Int) < (m : Int) := by omega
      go_wp2
      go_ret
      exact ⟨rfl, bel⟩
end Go.Proofs.Ytmpmibcdpkolkaa.R20

/- What the laws on pages share: which are light, which may be, the reference's sector, the example. -/
namespace Go.Proofs.Ytmpmibcdpkolkaa.Snap
open Go.RowKit
open Go.Proofs.Ytmpmibcdpkolkaa.Geom
open Go.Proofs.Ytmpmibcdpkolkaa.Disk (St DAt Did New8 Told8 new)
open Go.Proofs.Ytmpmibcdpkolkaa.Sup (Gb gv gcell srightF gthree newN_any gb213 size213 right213 UpN up_new srightF_new)
open Go.Proofs.Ytmpmibcdpkolkaa.Sec (X SymAt text sumOf sumAfter ckS blankB rightF xv RetX X0 five5x symbolic_any bset5)
set_option linter.unusedVariables false
set_option maxRecDepth 100000
theorem OwnRows.rws {w : World} {base : Nat} {A : Option Addr} {n c : Nat} {l : List (List UInt8)} (h : OwnRows w base (.slice A n c) l) (hn : n = l.length) : Rws w w.heap.size A l := by
  obtain ⟨its, hown, rfl, hall⟩ := h
  rw [List.length_map] at hn
  subst hn
  have hrd := RdQ.own hown
  intro hne
  have hne' : its.map It.sl ≠ [] := by intro e; apply hne; simp at e; simp [e]
  obtain ⟨b, off, rfl, hb, _, hc⟩ := hrd hne'
  refine ⟨b, off, rfl, hb, fun i hi => ?_⟩
  have hi' : i < its.length := by simpa using hi
  have h1 := hc i (by simpa using hi')
  rw [List.getElem_map] at h1
  have h2 := hall _ (List.getElem_mem hi')
  refine ⟨its[i].A, its[i].c, ?_, ?_, ?_, ?_⟩
  · rw [h1]; simp [It.sl]
  · rw [List.getElem_map]; exact Rd.own h2.1
  · rw [List.getElem_map]; exact (own_cap h2.1).1
  · exact (own_cap h2.1).2
theorem OwnRows.on {w w' : World} {base : Nat} {v : Value} {l : List (List UInt8)} (h : OwnRows w base v l) (b : Below w.heap.size w w') : OwnRows w' base v l := by
  obtain ⟨its, hown, hl, hall⟩ := h
  exact ⟨its, own_on hown b, hl, fun x hx => (hall x hx).on b⟩
theorem OwnRows.short {w : World} {base : Nat} {v : Value} {l : List (List UInt8)} (h : OwnRows w base v l) : ∀ x ∈ l, x.length ≤ 1000000 := by
  obtain ⟨its, _, rfl, hall⟩ := h
  intro x hx
  obtain ⟨y, hy, rfl⟩ := List.mem_map.1 hx
  have := (hall y hy).2
  omega
def lightB (ga gd gl : Int) (l : List (List UInt8)) : Bool := decide (pagesOf ga gd gl ≤ 30) && decide (l.length ≤ 40) && l.all fun b => decide (b.length ≤ 600)
theorem light_of {ga gd gl : Int} {l : List (List UInt8)} (h : lightB ga gd gl l = true) : pagesOf ga gd gl ≤ 30 ∧ l.length ≤ 40 ∧ ∀ b ∈ l, b.length ≤ 600 := by
  simp [lightB] at h
  exact ⟨h.1.1, h.1.2, h.2⟩
set_option maxHeartbeats 1000000 in
theorem light_any (ga gd gl : Int) (A : Option Addr) (l : List (List UInt8)) (n c : Nat) (w : World) (hG : Gb ga gd gl) (hr : Rws w w.heap.size A l) (hn : n = l.length) (hc : n ≤ maxLen) :
    Calls Try.prog 29 #[gv ga gd gl, .slice A n c] w fun e w' => e = .returned (.bool (lightB ga gd gl l)) ∧ Below w.heap.size w w' := by
  obtain ⟨z0, z1, z2⟩ := gthree (Blk.new w (gcell ga gd gl) 23)
  have b0 := b1alloc w (.cells (gcell ga gd gl).toArray 23)
  have HP := Lib.hid (fun W => Geom.rpages_any ga gd gl W hG.a0 hG.a1 hG.d0 hG.d1 hG.g0 hG.g1)
  have hL : lightB ga gd gl l = (decide (pagesOf ga gd gl ≤ 30) && decide (l.length ≤ 40) && l.all fun b => decide (b.length ≤ 600)) := rfl
  obtain ⟨q, hq⟩ : ∃ q, q = pagesOf ga gd gl := ⟨_, rfl⟩
  obtain ⟨R, hR⟩ : ∃ R, R = lightB ga gd gl l := ⟨_, rfl⟩
  rw [← hq] at HP hL
  rw [← hR] at hL ⊢
  clear hq hR
  by_cases h1 : q ≤ 30
  rotate_left
  · rw [decide_eq_false h1, Bool.false_and, Bool.false_and] at hL
    have h1' : 30 < q := by omega
    have HL := Lib.hid hL
    clear hL h1 hr hn
    go_enter Try.func29, Try.ntmps29
    go_wp2_with (go_at_call 33; refine (HP.out _).mono ?_; rintro e w' ⟨rfl, b1⟩)
    go_ret
    rw [HL.out]
    exact ⟨rfl, bt b0 b1⟩
  rw [decide_eq_true h1, Bool.true_and] at hL
  have h1' : ¬ 30 < q := by omega
  by_cases h2 : n ≤ 40
  rotate_left
  · rw [← hn, decide_eq_false h2, Bool.false_and] at hL
    have h2' : (40 : Int) < (n : Int) := by omega
    have HL := Lib.hid hL
    clear hL h1 h2 hr hn
    go_enter Try.func29, Try.ntmps29
    go_wp2_with (go_at_call 33; refine (HP.out _).mono ?_; rintro e w' ⟨rfl, b1⟩)
    go_ret
    rw [HL.out]
    exact ⟨rfl, bt b0 b1⟩
  have h2' : ¬ (40 : Int) < (n : Int) := by omega
  rw [← hn, decide_eq_true h2, Bool.true_and] at hL
  have HL := Lib.hid hL
  have Hn := Lib.hid hn
  clear hL h1 hn
  go_enter Try.func29, Try.ntmps29
  go_wp2_with (go_at_call 33; refine (HP.out _).mono ?_; rintro e w' ⟨rfl, b1⟩)
  have bw := bt b0 b1
  clear z0 z1 z2
  go_loopw [5] (fun i wr => ∃ k : Nat, k ≤ n ∧ i = .int .i64 (k : Int) ∧ Below w.heap.size w wr ∧ Hid (∀ j (hj : j < l.length), j < k → l[j].length ≤ 600)) (fun i _ => n - (intOf i).toNat)
  case atStart => exact ⟨0, by omega, rfl, bw, Lib.hid (fun j hj h => by omega)⟩
  case round =>
    obtain ⟨k, hk, rfl, bel, hall⟩ := hrel
    have hwk : wrap64 ((k : Int) + 1) = (k : Int) + 1 := by unfold wrap64; omega
    by_cases hlt : k < n
    · have hkl : k < l.length := by have := Hn.out; omega
      have hkm : (k : Int) < (n : Int) := by omega
      obtain ⟨b1', o1, A1, c1, rfl, hb1, hc1, hr1, _, _⟩ := (hr.below bel).get hkl
      obtain ⟨x, hx⟩ : ∃ x, x = l[k].length := ⟨_, rfl⟩
      rw [← hx] at hc1
      have Hx := Lib.hid hx
      clear hx hr1
      by_cases h3 : x ≤ 600
      · have h3' : ¬ (600 : Int) < (x : Int) := by omega
        go_wp2
        case roundEnd => exact ⟨⟨k + 1, by omega, rfl, bel, Lib.hid (fun j hj h => by
          rcases (show j < k ∨ j = k by omega) with h4 | h4
          · exact hall.out j hj h4
          · subst h4; rw [← Hx.out]; exact h3)⟩, by simp only [intOf]; omega⟩
      · have h3' : (600 : Int) < (x : Int) := by omega
        go_wp2
        go_ret
        refine ⟨ret_bool ?_, bel⟩
        rw [HL.out]
        symm
        rw [List.all_eq_false]
        exact ⟨l[k], List.getElem_mem _, by rw [← Hx.out]; simpa using h3⟩
    · have hkn : ¬ (k : Int) < (n : Int) := by omega
      go_wp2
      go_ret
      refine ⟨ret_bool ?_, bel⟩
      rw [HL.out]
      symm
      rw [List.all_eq_true]
      intro b hb
      obtain ⟨j, hj, rfl⟩ := List.mem_iff_getElem.1 hb
      exact decide_eq_true (hall.out j hj (by have := Hn.out; omega))
def okB (ga gd gl : Int) (l : List (List UInt8)) : Bool := (l.all fun b => decide (b.length ≤ 479)) && (Geom.right ga gd gl && decide ((l.length : Int) = pagesOf ga gd gl))
theorem ok_of {ga gd gl : Int} {n : Nat} {l : List (List UInt8)} (hn : (n : Int) = Geom.sizeOf ga gd gl) (h : okB ga gd gl l = true) : PagesOk ga gd gl n l ∧ Geom.right ga gd gl = true ∧ longB l = false := by
  simp [okB] at h
  exact ⟨⟨hn, h.2.2, fun j hj => h.1 _ (List.getElem_mem hj)⟩, h.2.1, longB_no fun j hj => h.1 _ (List.getElem_mem hj)⟩
set_option maxHeartbeats 1000000 in
theorem rright_any (ga gd gl : Int) (A : Option Addr) (l : List (List UInt8)) (n c : Nat) (w : World) (hG : Gb ga gd gl) (hr : Rws w w.heap.size A l) (hn : n = l.length) (hc : n ≤ 1000) :
    Calls Try.prog 34 #[gv ga gd gl, .slice A n c] w fun e w' => e = .returned (.bool (okB ga gd gl l)) ∧ Below w.heap.size w w' := by
  have FG := Blk.new w (gcell ga gd gl) 23
  have b0 := b1alloc w (.cells (gcell ga gd gl).toArray 23)
  have HP := Lib.hid (fun W => Geom.rpages_any ga gd gl W hG.a0 hG.a1 hG.d0 hG.d1 hG.g0 hG.g1)
  have HR := Lib.hid (fun W => Geom.rright_any ga gd gl W hG.a0 hG.a1 hG.d0 hG.d1 hG.g0 hG.g1)
  have hL : okB ga gd gl l = ((l.all fun b => decide (b.length ≤ 479)) && (Geom.right ga gd gl && decide ((l.length : Int) = pagesOf ga gd gl))) := rfl
  obtain ⟨q, hq⟩ : ∃ q, q = pagesOf ga gd gl := ⟨_, rfl⟩
  obtain ⟨r, hrr⟩ : ∃ r, r = Geom.right ga gd gl := ⟨_, rfl⟩
  obtain ⟨R, hR⟩ : ∃ R, R = okB ga gd gl l := ⟨_, rfl⟩
  rw [← hq] at HP hL
  rw [← hrr] at HR hL
  rw [← hR] at hL ⊢
  rw [← hn] at hL
  have HL := Lib.hid hL
  have Hn := Lib.hid hn
  have HG := Lib.hid FG
  clear hq hR hrr hL hn FG
  go_enter Try.func34, Try.ntmps34
  go_wp2_with fail
  go_loopw [5] (fun i wr => ∃ k : Nat, k ≤ n ∧ i = .int .i64 (k : Int) ∧ Below (w.alloc (.cells (gcell ga gd gl).toArray 23)).heap.size (w.alloc (.cells (gcell ga gd gl).toArray 23)) wr ∧ Hid (∀ j (hj : j < l.length), j < k → l[j].length ≤ 479)) (fun i _ => n - (intOf i).toNat)
  case atStart => exact ⟨0, by omega, rfl, Below.refl _ _, Lib.hid (fun j hj h => by omega)⟩
  case round =>
    obtain ⟨k, hk, rfl, bel0, hall⟩ := hrel
    have bel := bt b0 bel0
    have hwk : wrap64 ((k : Int) + 1) = (k : Int) + 1 := by unfold wrap64; omega
    by_cases hlt : k < n
    · have hkl : k < l.length := by have := Hn.out; omega
      have hkm : (k : Int) < (n : Int) := by omega
      obtain ⟨b1', o1, A1, c1, rfl, hb1, hc1, hr1, _, _⟩ := (hr.below bel).get hkl
      obtain ⟨x, hx⟩ : ∃ x, x = l[k].length := ⟨_, rfl⟩
      rw [← hx] at hc1
      have Hx := Lib.hid hx
      clear hx hr1
      by_cases h3 : x ≤ 479
      · have h3' : ¬ (479 : Int) < (x : Int) := by omega
        go_wp2
        case roundEnd => exact ⟨⟨k + 1, by omega, rfl, bel0, Lib.hid (fun j hj h => by
          rcases (show j < k ∨ j = k by omega) with h4 | h4
          · exact hall.out j hj h4
          · subst h4; rw [← Hx.out]; exact h3)⟩, by simp only [intOf]; omega⟩
      · have h3' : (479 : Int) < (x : Int) := by omega
        go_wp2
        go_ret
        refine ⟨ret_bool ?_, bel⟩
        rw [HL.out]
        symm
        rw [Bool.and_eq_false_iff]
        left
        rw [List.all_eq_false]
        exact ⟨l[k], List.getElem_mem _, by rw [← Hx.out]; simpa using h3⟩
    · have hkn : ¬ (k : Int) < (n : Int) := by omega
      have ht := Lib.hid (show R = (r && decide ((n : Int) = q)) by
        rw [HL.out, show (l.all fun b => decide (b.length ≤ 479)) = true from ?_, Bool.true_and]
        rw [List.all_eq_true]
        intro b hb
        obtain ⟨j, hj, rfl⟩ := List.mem_iff_getElem.1 hb
        exact decide_eq_true (hall.out j hj (by have := Hn.out; omega)))
      obtain ⟨z0, z1, z2⟩ := gthree (HG.out.on bel0)
      have H1 := fun W (bW : Below wr.heap.size wr W) => gthree ((HG.out.on bel0).on bW)
      cases r with
      | true =>
        rw [Bool.true_and] at ht
        go_wp2_with (first
          | (go_at_call 19; refine (HR.out _).mono ?_; rintro e w1 ⟨rfl, b1⟩; clear z0 z1 z2; obtain ⟨z0, z1, z2⟩ := H1 _ b1)
          | (go_at_call 33; refine (HP.out _).mono ?_; rintro e w2 ⟨rfl, b2⟩))
        go_ret
        exact ⟨ret_bool (by rw [ht.out]; first | rfl | simp | exact Bool.beq_eq_decide_eq _ _), bt bel (bt b1 b2)⟩
      | false =>
        rw [Bool.false_and] at ht
        go_wp2_with (go_at_call 19; refine (HR.out _).mono ?_; rintro e w1 ⟨rfl, b1⟩)
        go_ret
        exact ⟨ret_bool (by rw [ht.out]), bt bel b1⟩
theorem rsector_any (life : UInt64) (k : Int) (A : Option Addr) (n c : Nat) (w : World) : Calls Try.prog 36 #[.int .u64 (life.toNat : Int), .int .i64 k, .slice A n c] w fun e w' => e = .returned (.agg #[.int .i64 3, .int .u64 (life.toNat : Int), .int .i64 k, .int .u64 0, .slice A n c]) ∧ Below w.heap.size w w' := by
  have F := Blk.new w [.int .i64 0, .int .u64 0, .int .i64 0, .int .u64 0, .slice none 0 0] 49
  go_enter Try.func36, Try.ntmps36
  go_wp2
  refine bodyPost_ret (v := .agg #[.int .i64 3, .int .u64 (life.toNat : Int), .int .i64 k, .int .u64 0, .slice A n c]) (by simp [results, Try.results36, go_sem]) rfl ⟨rfl, ?_⟩
  exact b1alloc _ _
theorem box_rdQ {W : World} {g : Nat} {v : Value} {Q : Nat → Prop} (h : Box W g v) (hq : Q g) : RdQ W Q (some ⟨g, 0, none⟩) [v] := fun _ => ⟨g, 0, rfl, h.lt, hq, fun i hi => by
  obtain rfl : i = 0 := by simp at hi; exact hi
  exact h.cell⟩
theorem lit3 (w : World) (t1 t2 t3 : TypeId) : Rw (((w.alloc (.cells #[.int .u8 1] t1)).alloc (.cells #[.int .u8 2] t2)).alloc (.cells #[.slice (some ⟨w.heap.size, 0, none⟩) 1 1, .slice none 0 0, .slice (some ⟨w.heap.size + 1, 0, none⟩) 1 1] t3)) (fun j => w.heap.size ≤ j) (some ⟨w.heap.size + 1 + 1, 0, none⟩) [[1], [], [2]] := by
  have x1 := ((Box.new w t1 (.int .u8 1)).alloc (.cells #[.int .u8 2] t2)).alloc (.cells #[.slice (some ⟨w.heap.size, 0, none⟩) 1 1, .slice none 0 0, .slice (some ⟨w.heap.size + 1, 0, none⟩) 1 1] t3)
  have x2 := (Box.new (w.alloc (.cells #[.int .u8 1] t1)) t2 (.int .u8 2)).alloc (.cells #[.slice (some ⟨w.heap.size, 0, none⟩) 1 1, .slice none 0 0, .slice (some ⟨w.heap.size + 1, 0, none⟩) 1 1] t3)
  have x3 := Blk.new ((w.alloc (.cells #[.int .u8 1] t1)).alloc (.cells #[.int .u8 2] t2)) [.slice (some ⟨w.heap.size, 0, none⟩) 1 1, .slice none 0 0, .slice (some ⟨w.heap.size + 1, 0, none⟩) 1 1] t3
  simp at x2 x3
  obtain ⟨c0, c1, c2⟩ := gthree x3
  refine fun _ => ⟨w.heap.size + 1 + 1, 0, rfl, x3.lt, by omega, fun i hi => ?_⟩
  rcases (show i = 0 ∨ i = 1 ∨ i = 2 by simp at hi; omega) with rfl | rfl | rfl
  · exact ⟨_, _, c0, box_rdQ x1 (Nat.le_refl _), Nat.le_refl _, by unfold maxLen; omega⟩
  · exact ⟨_, _, c1, RdQ.nil _ _ _, Nat.le_refl _, by unfold maxLen; omega⟩
  · exact ⟨_, _, c2, box_rdQ x2 (by omega), Nat.le_refl _, by unfold maxLen; omega⟩
set_option maxHeartbeats 4000000 in
theorem alive_any (w : World) : Calls Try.prog 30 #[] w fun e w' => e = .returned (.bool true) ∧ Below w.heap.size w w' := by
  have hp3 : pagesOf 2 1 3 = 3 := by decide
  have r0 : srightF (new 13) 2 1 3 = 0 := srightF_new (n := 13) right213 rfl (by rw [size213]; rfl)
  have hz0 : (new 13).sz = 0 := rfl
  have hok : PagesOk 2 1 3 13 [[1], [], [2]] := ⟨by rw [size213]; rfl, by rw [hp3]; rfl, fun j hj => by
    rcases (show j = 0 ∨ j = 1 ∨ j = 2 by simp at hj; omega) with rfl | rfl | rfl <;> simp⟩
  have hno : snapR [] (new 13) 2 1 3 1 3 = none := by
    unfold snapR
    rw [if_neg]
    unfold allPg
    rw [List.all_eq_true]
    intro h
    have h0 := h 0 (by simp)
    unfold isPg rdAt at h0
    have hpl := area_ok (ga := 2) (gd := 1) (gl := 3) (life := 1) (k := 0) (by rw [hp3]; decide)
    rw [size213] at hpl
    rw [Enc.rd_zero (up_new 13) hpl.1 (by exact hpl.2.1) rfl] at h0
    simp at h0
  obtain ⟨u1, u2, u3, u4, u5, u6⟩ := hok.up 1 [] (up_new 13)
  obtain ⟨lm1, lm2⟩ := Enc.enf_lim (pItems 2 1 3 1 0 [[1], [], [2]]) [] (new 13)
  have hR1 := fun g fp gS bS W h => read_any g fp (new 13) gS bS [] 2 1 3 1 W gb213 h (by simp) (by omega) r0 rfl 3 hp3.symm
  rw [hno] at hR1
  have hW := fun g fp gS bS Q A c W h hr hQ => write_any g fp (new 13) gS bS [] 2 1 3 1 Q A [[1], [], [2]] c W gb213 h (by simp) (by omega) r0 hr hQ (by rw [hp3]; rfl) rfl
  have hq : snapF 2 1 3 1 [[1], [], [2]] [] (new 13) = Enc.enf (pItems 2 1 3 1 0 [[1], [], [2]]) [] (new 13) := rfl
  rw [← hq] at lm1 lm2
  obtain ⟨V, hV⟩ : ∃ V, V = snapF 2 1 3 1 [[1], [], [2]] [] (new 13) := ⟨_, rfl⟩
  rw [← hV] at u1 u2 u3 u4 u5 u6 hW lm1 lm2
  rw [u1] at hW
  rw [pItems_len] at lm1 lm2
  simp only [List.length_nil, List.length_cons] at lm1 lm2
  have rV : srightF V.2.1 2 1 3 = 0 := srightF_new (n := 13) right213 u2.size (by rw [size213]; rfl)
  have hyes := (snapR_some (fun k hk => rdAt_good u2 hok hk (u4 k hk))).1
  have hR2 := fun g fp gS bS W h => read_any g fp V.2.1 gS bS V.1 2 1 3 1 W gb213 h (by omega) (by omega) rV u2.down 3 hp3.symm
  rw [show ([[1], [], [2]] : List (List UInt8)).length = 3 from rfl] at hyes
  rw [hyes] at hR2
  have hE := fun W => empty_any 2 1 3 W gb213
  rw [hp3] at hE
  have HR1 := Lib.hid hR1
  have HR2 := Lib.hid hR2
  have HW := Lib.hid hW
  have HE := Lib.hid hE
  clear hR1 hR2 hW hE hq hV u1 u2 u3 u4 u5 u6 lm1 lm2 rV hyes hno hok r0 hz0 hp3
  have tR : True := trivial
  have F := Lib.hid (Blk.new w (gcell 2 1 3) 23)
  have hltF := F.out.lt
  have b0 := b1alloc w (.cells (gcell 2 1 3).toArray 23)
  go_enter Try.func30, Try.ntmps30
  go_wp2_with (first
    | (go_at_call 12; refine (newN_any 13 13 rfl (by omega) (by omega) _).mono ?_; rintro e w1 ⟨g, fp, rfl, hD, hfp, b1⟩)
    | (go_at_call 14; refine (symbolic_any _).mono ?_; rintro e w2 ⟨gS, bS, rfl, hS, hgS, hbS, b2⟩; have H2 := Here.start hD hfp b1 hS hgS hbS b2; obtain ⟨m0, m1, m2⟩ := gthree (F.out.below H2.bel hltF))
    | (go_at_call 37; have _t := tR; refine (HR1.out _ _ _ _ _ H2.both).mono ?_; rintro e w3 ⟨rfl, b3⟩; have H3 := H2.on b3; clear m0 m1 m2; obtain ⟨m0, m1, m2⟩ := gthree (F.out.below H3.bel hltF); clear tR)
    | (go_at_call 31; have H4 := H3.on (b3alloc w3 (.cells #[.int .u8 1] 5) (.cells #[.int .u8 2] 5) (.cells #[.slice (some ⟨w3.heap.size, 0, none⟩) 1 1, .slice none 0 0, .slice (some ⟨w3.heap.size + 1, 0, none⟩) 1 1] 37)); refine (HW.out _ _ _ _ _ _ _ _ H4.both (lit3 w3 _ _ _) (fun j hj _ e => by rcases List.mem_cons.1 e with e | e; (have := H3.both.sym.lt.2; omega); (have := H3.both.disk.lt _ e; omega))).mono ?_; rintro e w5 ⟨rfl, T5⟩; obtain ⟨fp5, H5, _, _⟩ := H4.turn T5; clear m0 m1 m2; obtain ⟨m0, m1, m2⟩ := gthree (F.out.below H5.bel hltF))
    | (go_at_call 37; refine (HR2.out _ _ _ _ _ H5.both).mono ?_; rintro e w6 ⟨⟨A6, c6, rfl, _⟩, b6⟩; have H6 := H5.on b6; clear m0 m1 m2; obtain ⟨m0, m1, m2⟩ := gthree (F.out.below H6.bel hltF))
    | (go_at_call 32; refine (HE.out _).mono ?_; rintro e w7 ⟨A7, c7, rfl, _, b7⟩))
  go_ret
  exact ⟨rfl, bt b0 (bt H6.bel b7)⟩
end Go.Proofs.Ytmpmibcdpkolkaa.Snap

/- What the law on reading supers needs of the reference: Of, and the law's best. -/
namespace Go.Proofs.Ytmpmibcdpkolkaa.Sup
open Go.RowKit
open Go.Proofs.Ytmpmibcdpkolkaa.Geom
open Go.Proofs.Ytmpmibcdpkolkaa.Disk (St DAt Did New8 Told8 new)
open Go.Proofs.Ytmpmibcdpkolkaa.Sec (X SymAt text sumOf sumAfter ckS blankB rightF xv RetX X0 five5x symbolic_any bset5)
set_option linter.unusedVariables false
set_option maxRecDepth 100000
def ofR (ga gd gl p : Int) (x : X) : Option SV := if isSup ga gd gl p (x, 0) = true then some ⟨x.life, x.seq, x.gen⟩ else none
def ofV : Option SV → Value
  | some x => .tuple #[x.v, .bool true]
  | none => .tuple #[SV.zero.v, .bool false]
set_option maxHeartbeats 2000000 in
theorem rof_any (ga gd gl p : Int) (x : X) (A : Option Addr) (c : Nat) (w : World) (hG : Gb ga gd gl) (hr : Rd w w.heap.size A (x.body.map e8)) (hl : x.body.length ≤ 1000000) :
    Calls Try.prog 44 #[gv ga gd gl, .int .i64 p, .agg #[.int .i64 x.kind, .int .u64 (x.life.toNat : Int), .int .i64 x.seq, .int .u64 (x.gen.toNat : Int), .slice A x.body.length c]] w fun e w' => e = .returned (ofV (ofR ga gd gl p x)) ∧ Below w.heap.size w w' := by
  have FG : Blk (((w.alloc (.cells (gcell ga gd gl).toArray 23)).alloc (.cells ([.int .i64 x.kind, .int .u64 (x.life.toNat : Int), .int .i64 x.seq, .int .u64 (x.gen.toNat : Int), .slice A x.body.length c] : List Value).toArray 49)).alloc (.cells #[.int .u64 0, .int .i64 0, .int .u64 0] 26)) w.heap.size (gcell ga gd gl) := ((Blk.new w (gcell ga gd gl) 23).alloc _).alloc _
  have FX : Blk (((w.alloc (.cells (gcell ga gd gl).toArray 23)).alloc (.cells ([.int .i64 x.kind, .int .u64 (x.life.toNat : Int), .int .i64 x.seq, .int .u64 (x.gen.toNat : Int), .slice A x.body.length c] : List Value).toArray 49)).alloc (.cells #[.int .u64 0, .int .i64 0, .int .u64 0] 26)) (w.heap.size + 1) [.int .i64 x.kind, .int .u64 (x.life.toNat : Int), .int .i64 x.seq, .int .u64 (x.gen.toNat : Int), .slice A x.body.length c] := by simpa using (Blk.new (w.alloc (.cells (gcell ga gd gl).toArray 23)) [.int .i64 x.kind, .int .u64 (x.life.toNat : Int), .int .i64 x.seq, .int .u64 (x.gen.toNat : Int), .slice A x.body.length c] 49).alloc (.cells #[.int .u64 0, .int .i64 0, .int .u64 0] 26)
  have FR : Blk (((w.alloc (.cells (gcell ga gd gl).toArray 23)).alloc (.cells ([.int .i64 x.kind, .int .u64 (x.life.toNat : Int), .int .i64 x.seq, .int .u64 (x.gen.toNat : Int), .slice A x.body.length c] : List Value).toArray 49)).alloc (.cells #[.int .u64 0, .int .i64 0, .int .u64 0] 26)) (w.heap.size + 1 + 1) [.int .u64 0, .int .i64 0, .int .u64 0] := by simpa using Blk.new ((w.alloc (.cells (gcell ga gd gl).toArray 23)).alloc (.cells ([.int .i64 x.kind, .int .u64 (x.life.toNat : Int), .int .i64 x.seq, .int .u64 (x.gen.toNat : Int), .slice A x.body.length c] : List Value).toArray 49)) [.int .u64 0, .int .i64 0, .int .u64 0] 26
  have b0 := b3alloc w (.cells (gcell ga gd gl).toArray 23) (.cells ([.int .i64 x.kind, .int .u64 (x.life.toNat : Int), .int .i64 x.seq, .int .u64 (x.gen.toNat : Int), .slice A x.body.length c] : List Value).toArray 49) (.cells #[.int .u64 0, .int .i64 0, .int .u64 0] 26)
  obtain ⟨w0, hw0⟩ : ∃ q, q = (((w.alloc (.cells (gcell ga gd gl).toArray 23)).alloc (.cells ([.int .i64 x.kind, .int .u64 (x.life.toNat : Int), .int .i64 x.seq, .int .u64 (x.gen.toNat : Int), .slice A x.body.length c] : List Value).toArray 49)).alloc (.cells #[.int .u64 0, .int .i64 0, .int .u64 0] 26)) := ⟨_, rfl⟩
  rw [← hw0] at FG FX FR b0
  have HM := Lib.hid (fun W => rmark_any ga gd gl W hG)
  have HP := Lib.hid (fun W => rplace_any x.life _ (by rfl) W)
  have HW0 := Lib.hid (show (((w.alloc (.cells #[.int .i64 ga, .int .i64 gd, .int .i64 gl] 23)).alloc (.cells #[.int .i64 x.kind, .int .u64 (x.life.toNat : Int), .int .i64 x.seq, .int .u64 (x.gen.toNat : Int), .slice A x.body.length c] 49)).alloc (.cells #[.int .u64 0, .int .i64 0, .int .u64 0] 26)) = w0 from hw0.symm)
  have hlX := FX.lt
  have hlG := FG.lt
  have hlR := FR.lt
  unfold ofR
  clear hw0
  by_cases e1 : x.kind = 2
  rotate_left
  · rw [if_neg (by simp [isSup, e1])]
    have t1 := bne_yes e1
    clear e1
    go_enter Try.func44, Try.ntmps44
    go_wp2
    rw [HW0.out]
    obtain ⟨z0, z1, z2⟩ := gthree FG
    obtain ⟨x0, x1, x2, x3, x4⟩ := five5x FX
    refine region_inb (by kernel_rfl) (by kernel_rfl) ?_
    have inbNe := InB.some
    have inbW := @wrap_small
    have inbU := IntKind.wrap_u8'
    repeat (refine wpQuiet_step (fun K hK => ?_); go_simp; first | (refine hK _ ?_; clear hK K) | (apply Exists.intro; refine ⟨?_, hK _ ?_⟩; (· (intro w' hw'; first | fail | (have hcw := hw'.cell; go_simp; exact rfl))); clear hK K))
    refine wpQuiet_nil ?_
    intro wq hq
    clear inbNe inbW inbU
    clear z0 z1 z2 x0 x1 x2 x3 x4
    obtain ⟨u0, u1, u2⟩ := gthree (FR.on hq.below)
    obtain ⟨x0, x1, x2, x3, x4⟩ := five5x (FX.on hq.below)
    have fx := (FR.on hq.below).free
    go_wp2
    refine bodyPost_ret (v := ofV none) (by simp [results, Try.results44, go_sem, ofV, SV.v, SV.zero, sv, *]) rfl ⟨rfl, ?_⟩
    exact bset (bset (bset (bt b0 hq.below) (by omega) _) (by omega) _) (by omega) _
  have t1 := bne_no e1
  by_cases e2 : splace x.life = p
  rotate_left
  · rw [if_neg (by simp [isSup, e2])]
    have t2 := bne_yes e2
    clear e1 e2
    go_enter Try.func44, Try.ntmps44
    go_wp2
    rw [HW0.out]
    obtain ⟨z0, z1, z2⟩ := gthree FG
    obtain ⟨x0, x1, x2, x3, x4⟩ := five5x FX
    refine region_inb (by kernel_rfl) (by kernel_rfl) ?_
    have inbNe := InB.some
    have inbW := @wrap_small
    have inbU := IntKind.wrap_u8'
    repeat (refine wpQuiet_step (fun K hK => ?_); go_simp; first | (refine hK _ ?_; clear hK K) | (apply Exists.intro; refine ⟨?_, hK _ ?_⟩; (· (intro w' hw'; first | (go_at_call 21; refine (HP.out _).mono ?_; rintro e q1 ⟨rfl, rfl⟩; exact ⟨rfl, hw'⟩) | (have hcw := hw'.cell; go_simp; exact rfl))); clear hK K))
    refine wpQuiet_nil ?_
    intro wq hq
    clear inbNe inbW inbU
    clear z0 z1 z2 x0 x1 x2 x3 x4
    obtain ⟨u0, u1, u2⟩ := gthree (FR.on hq.below)
    obtain ⟨x0, x1, x2, x3, x4⟩ := five5x (FX.on hq.below)
    have fx := (FR.on hq.below).free
    go_wp2
    refine bodyPost_ret (v := ofV none) (by simp [results, Try.results44, go_sem, ofV, SV.v, SV.zero, sv, *]) rfl ⟨rfl, ?_⟩
    exact bset (bset (bset (bt b0 hq.below) (by omega) _) (by omega) _) (by omega) _
  have t2 := bne_no e2
  have hSa := fun A B c d' W h3 h4 => R1.same_any A B x.body (mk ga gd gl) x.body.length (mk ga gd gl).length c d' W rfl rfl h3 h4 (by omega) (by have := mk_len ga gd gl; omega)
  cases e3 : R1.sameB x.body (mk ga gd gl) with
  | false =>
    rw [if_neg (by simp [isSup, e3])]
    rw [e3] at hSa
    have HSa := Lib.hid hSa
    obtain ⟨M, hM⟩ : ∃ M, M = mk ga gd gl := ⟨_, rfl⟩
    rw [← hM] at HSa HM
    clear hSa e1 e2 e3 hM
    go_enter Try.func44, Try.ntmps44
    go_wp2
    rw [HW0.out]
    obtain ⟨z0, z1, z2⟩ := gthree FG
    obtain ⟨x0, x1, x2, x3, x4⟩ := five5x FX
    have cz : Below w0.heap.size w0 w0.drew := (Below.refl _ _).drew
    go_region_held3 (fun w' => (w'.cell? ⟨w.heap.size + 1, 0, none⟩ = some (.int .i64 x.kind) ∧ w'.cell? ⟨w.heap.size + 1, 1, none⟩ = some (.int .u64 (x.life.toNat : Int)) ∧ w'.cell? ⟨w.heap.size + 1, 2, none⟩ = some (.int .i64 x.seq) ∧ w'.cell? ⟨w.heap.size + 1, 3, none⟩ = some (.int .u64 (x.gen.toNat : Int)) ∧ w'.cell? ⟨w.heap.size + 1, 4, none⟩ = some (.slice A x.body.length c)) ∧ (w'.cell? ⟨w.heap.size, 0, none⟩ = some (.int .i64 ga) ∧ w'.cell? ⟨w.heap.size, 1, none⟩ = some (.int .i64 gd) ∧ w'.cell? ⟨w.heap.size, 2, none⟩ = some (.int .i64 gl))) (first | exact ⟨five5x (FX.on cz), gthree (FG.on cz)⟩ | exact ⟨five5x (FX.on cm), gthree (FG.on cm)⟩ | exact ⟨five5x (FX.on cs), gthree (FG.on cs)⟩) (first
      | (go_at_call 21; refine (HP.out _).mono ?_; rintro e q6 ⟨rfl, rfl⟩)
      | (go_at_call 18; refine (HM.out _).mono ?_; rintro e q7 ⟨A7, c7, rfl, own7, t7⟩; have cm := bt cz t7)
      | (go_at_call 16; refine (HSa.out A A7 c c7 _ (hr.on (bt b0 cm)) (Rd.own own7)).mono ?_; rintro e q8 ⟨rfl, t8⟩; have cs := bt cm t8))
    clear z0 z1 z2 x0 x1 x2 x3 x4
    obtain ⟨u0, u1, u2⟩ := gthree (FR.on cs)
    obtain ⟨x0, x1, x2, x3, x4⟩ := five5x (FX.on cs)
    have fx := (FR.on cs).free
    go_wp2
    refine bodyPost_ret (v := ofV none) (by simp [results, Try.results44, go_sem, ofV, SV.v, SV.zero, sv, *]) rfl ⟨rfl, ?_⟩
    exact bset (bset (bset (bt b0 cs) (by omega) _) (by omega) _) (by omega) _
  | true =>
    rw [if_pos (by simp [isSup, e1, e2, e3])]
    rw [e3] at hSa
    have HSa := Lib.hid hSa
    obtain ⟨M, hM⟩ : ∃ M, M = mk ga gd gl := ⟨_, rfl⟩
    rw [← hM] at HSa HM
    clear hSa e1 e2 e3 hM
    go_enter Try.func44, Try.ntmps44
    go_wp2
    rw [HW0.out]
    obtain ⟨z0, z1, z2⟩ := gthree FG
    obtain ⟨x0, x1, x2, x3, x4⟩ := five5x FX
    have cz : Below w0.heap.size w0 w0.drew := (Below.refl _ _).drew
    go_region_held3 (fun w' => (w'.cell? ⟨w.heap.size + 1, 0, none⟩ = some (.int .i64 x.kind) ∧ w'.cell? ⟨w.heap.size + 1, 1, none⟩ = some (.int .u64 (x.life.toNat : Int)) ∧ w'.cell? ⟨w.heap.size + 1, 2, none⟩ = some (.int .i64 x.seq) ∧ w'.cell? ⟨w.heap.size + 1, 3, none⟩ = some (.int .u64 (x.gen.toNat : Int)) ∧ w'.cell? ⟨w.heap.size + 1, 4, none⟩ = some (.slice A x.body.length c)) ∧ (w'.cell? ⟨w.heap.size, 0, none⟩ = some (.int .i64 ga) ∧ w'.cell? ⟨w.heap.size, 1, none⟩ = some (.int .i64 gd) ∧ w'.cell? ⟨w.heap.size, 2, none⟩ = some (.int .i64 gl))) (first | exact ⟨five5x (FX.on cz), gthree (FG.on cz)⟩ | exact ⟨five5x (FX.on cm), gthree (FG.on cm)⟩ | exact ⟨five5x (FX.on cs), gthree (FG.on cs)⟩) (first
      | (go_at_call 21; refine (HP.out _).mono ?_; rintro e q6 ⟨rfl, rfl⟩)
      | (go_at_call 18; refine (HM.out _).mono ?_; rintro e q7 ⟨A7, c7, rfl, own7, t7⟩; have cm := bt cz t7)
      | (go_at_call 16; refine (HSa.out A A7 c c7 _ (hr.on (bt b0 cm)) (Rd.own own7)).mono ?_; rintro e q8 ⟨rfl, t8⟩; have cs := bt cm t8))
    clear z0 z1 z2 x0 x1 x2 x3 x4
    obtain ⟨u0, u1, u2⟩ := gthree (FR.on cs)
    obtain ⟨x0, x1, x2, x3, x4⟩ := five5x (FX.on cs)
    have fx := (FR.on cs).free
    go_wp2
    refine bodyPost_ret (v := ofV (some ⟨x.life, x.seq, x.gen⟩)) (by simp [results, Try.results44, go_sem, ofV, SV.v, sv, *]) rfl ⟨rfl, ?_⟩
    exact bset (bset (bset (bt b0 cs) (by omega) _) (by omega) _) (by omega) _
theorem lbest_any (o p : Option SV) (w : World) (hne : ∀ x y, o = some x → p = some y → x.life ≠ y.life) :
    Calls Try.prog 46 #[sv (oV o).life (oV o).base (oV o).gen, sv (oV p).life (oV p).base (oV p).gen, .bool o.isSome, .bool p.isSome] w fun e w' => e = .returned (rdV (best (best none o) p)) ∧ Below w.heap.size w w' := by
  have b0 := fun (a b : SV) => b3alloc w (.cells (scell a.life a.base a.gen).toArray 26) (.cells (scell b.life b.base b.gen).toArray 26) (.cells #[.int .u64 0, .int .i64 0, .int .u64 0] 26)
  cases o with
  | none =>
    cases p with
    | none =>
      have bb := b0 (oV none) (oV none)
      rw [show (Option.isSome (none : Option SV)) = false from rfl]
      go_enter Try.func46, Try.ntmps46
      go_wp2
      refine bodyPost_ret (v := rdV none) (by simp [results, Try.results46, go_sem, rdV, SV.v, SV.zero, sv]) rfl ⟨rfl, ?_⟩
      exact b3alloc _ _ _ _
    | some y =>
      have bb := b0 (oV none) y
      rw [show (Option.isSome (none : Option SV)) = false from rfl, show (Option.isSome (some y)) = true from rfl, show oV (some y) = y from rfl]
      go_enter Try.func46, Try.ntmps46
      go_wp2
      refine bodyPost_ret (v := rdV (some y)) (by simp [results, Try.results46, go_sem, rdV, SV.v, sv]) rfl ⟨rfl, ?_⟩
      exact b3alloc _ _ _ _
  | some x =>
    cases p with
    | none =>
      have bb := b0 x (oV none)
      rw [show (Option.isSome (none : Option SV)) = false from rfl, show (Option.isSome (some x)) = true from rfl, show oV (some x) = x from rfl]
      go_enter Try.func46, Try.ntmps46
      go_wp2
      refine bodyPost_ret (v := rdV (some x)) (by simp [results, Try.results46, go_sem, rdV, SV.v, sv]) rfl ⟨rfl, ?_⟩
      exact b3alloc _ _ _ _
    | some y =>
      have hn := hne x y rfl rfl
      have bb := b0 x y
      rw [show (Option.isSome (some y)) = true from rfl, show (Option.isSome (some x)) = true from rfl, show oV (some x) = x from rfl, show oV (some y) = y from rfl]
      by_cases hlt : y.life.toNat < x.life.toNat
      · have hb := Lib.hid (show best (best none (some x)) (some y) = some x by
          have h2 : ¬ x.life < y.life := fun e => by rw [UInt64.lt_iff_toNat_lt] at e; omega
          simp [best, after1, h2])
        have hi : (y.life.toNat : Int) < (x.life.toNat : Int) := by omega
        clear hn hne
        go_enter Try.func46, Try.ntmps46
        go_wp2
        refine bodyPost_ret (v := rdV (some x)) (by simp [results, Try.results46, go_sem, rdV, SV.v, sv]) rfl ⟨by rw [hb.out], ?_⟩
        exact b3alloc _ _ _ _
      · have hb := Lib.hid (show best (best none (some x)) (some y) = some y by
          have h3 : x.life.toNat ≠ y.life.toNat := fun e => hn (UInt64.toNat_inj.1 e)
          have h2 : x.life < y.life := by rw [UInt64.lt_iff_toNat_lt]; omega
          simp [best, after1, h2])
        have hi : ¬ (y.life.toNat : Int) < (x.life.toNat : Int) := by omega
        clear hn hne
        go_enter Try.func46, Try.ntmps46
        go_wp2
        refine bodyPost_ret (v := rdV (some y)) (by simp [results, Try.results46, go_sem, rdV, SV.v, sv]) rfl ⟨by rw [hb.out], ?_⟩
        exact b3alloc _ _ _ _
/-! the two places, one behind the other -/
def bytesAt (q : List (List UInt8) × St) (p : Int) (x : X) : List UInt8 := text p x ++ sumOf q.1 (text p x)
theorem bytesAt_len (q : List (List UInt8) × St) (p : Int) (x : X) : (bytesAt q p x).length = 512 := by unfold bytesAt; rw [List.length_append, Sec.text_len, Sec.sumOf_len]
def stp (q : List (List UInt8) × St) (p : Int) (x : X) : List (List UInt8) × St := if rightF p x = 0 then (sumAfter q.1 (text p x), (Disk.put q.2 p (bytesAt q p x)).1) else q
theorem stp_yes {q : List (List UInt8) × St} {p : Int} {x : X} (h : rightF p x = 0) : stp q p x = (sumAfter q.1 (text p x), (Disk.put q.2 p (bytesAt q p x)).1) := if_pos h
theorem stp_no {q : List (List UInt8) × St} {p : Int} {x : X} (h : rightF p x ≠ 0) : stp q p x = q := if_neg h
theorem UpN.put {s : St} {n : Nat} (h : UpN s n) {p : Int} (h0 : 0 ≤ p) (h1 : p < n) {b : List UInt8} (hb : b.length = 512) : UpN (Disk.put s p b).1 n ∧ (Disk.put s p b).1.all = s.all ++ [(p.toNat, b)] ∧ (Disk.put s p b).1.sz ≤ s.sz + 1 := by
  refine ⟨?_, ?_, Disk.sz_put _ _ _⟩ <;> unfold Disk.put <;> rw [if_neg (by rw [h.size]; omega), if_neg (by omega)]
  exact ⟨h.size, h.pend, h.down, h.fuse⟩
/-- what is at a place that a sector was put at, or was not -/
def ofAt (ga gd gl p : Int) (x : X) : Option SV := if rightF p x = 0 then ofR ga gd gl p x else none
theorem UpN.at_good {s : St} {n : Nat} (h : UpN s n) {l : List (List UInt8)} {ga gd gl p : Int} (h0 : 0 ≤ p) (h1 : p < n) {x : X} (hg : Good l p x (Disk.kept s.all p.toNat)) : atR l s ga gd gl p = ofR ga gd gl p x := by
  unfold atR Sup.dec
  rw [h.read h0 h1]
  simp only []
  rw [hg.dec]; rfl
theorem sumAfter_len (l : List (List UInt8)) (T : List UInt8) : (sumAfter l T).length ≤ l.length + 1 := by unfold sumAfter; split <;> simp
structure One (n : Nat) (ga gd gl : Int) (q : List (List UInt8) × St) (a : X) : Prop where
  up : UpN q.2 n
  len : q.1.length ≤ 1
  sz : q.2.sz ≤ 1
  good : rightF 2 a = 0 → Good q.1 2 a (Disk.kept q.2.all 2)
  zero2 : rightF 2 a ≠ 0 → Disk.kept q.2.all 2 = Disk.zero512
  zero3 : Disk.kept q.2.all 3 = Disk.zero512
theorem one {n : Nat} (hn : 4 ≤ n) (ga gd gl : Int) (a : X) : One n ga gd gl (stp ([], new n) 2 a) a := by
  by_cases h : rightF 2 a = 0
  · rw [stp_yes h]
    obtain ⟨u, e, z⟩ := (up_new n).put (p := 2) (by omega) (by omega) (bytesAt_len ([], new n) 2 a)
    exact ⟨u, sumAfter_len [] (text 2 a), z, fun _ => by rw [e, show ((2 : Int).toNat) = 2 from rfl, kept_after]; exact Good.made [] h, fun h2 => absurd h h2, by rw [e, kept_beside _ _ (by decide)]; rfl⟩
  · rw [stp_no h]
    exact ⟨up_new n, by simp, Nat.zero_le _, fun h2 => absurd h2 h, fun _ => rfl, rfl⟩
theorem One.at2 {n : Nat} (hn : 4 ≤ n) {ga gd gl : Int} {q : List (List UInt8) × St} {a : X} (h : One n ga gd gl q a) : atR q.1 q.2 ga gd gl 2 = ofAt ga gd gl 2 a := by
  unfold ofAt
  by_cases h1 : rightF 2 a = 0
  · rw [if_pos h1]; exact h.up.at_good (by omega) (by omega) (h.good h1)
  · rw [if_neg h1]; exact h.up.at_zero (by omega) (by omega) (h.zero2 h1)
structure Two (n : Nat) (ga gd gl : Int) (q : List (List UInt8) × St) (a b : X) : Prop where
  up : UpN q.2 n
  len : q.1.length ≤ 2
  sz : q.2.sz ≤ 2
  at2 : atR q.1 q.2 ga gd gl 2 = ofAt ga gd gl 2 a
  at3 : atR q.1 q.2 ga gd gl 3 = ofAt ga gd gl 3 b
theorem two {n : Nat} (hn : 4 ≤ n) (ga gd gl : Int) (a b : X) : Two n ga gd gl (stp (stp ([], new n) 2 a) 3 b) a b := by
  have h1 := one hn ga gd gl a
  obtain ⟨q, hq⟩ : ∃ q, q = stp ([], new n) 2 a := ⟨_, rfl⟩
  rw [← hq] at h1 ⊢
  by_cases h : rightF 3 b = 0
  · rw [stp_yes h]
    obtain ⟨u, e, z⟩ := h1.up.put (p := 3) (by omega) (by omega) (bytesAt_len q 3 b)
    have hl := sumAfter_len q.1 (text 3 b)
    have l1 := h1.len
    have s1 := h1.sz
    refine ⟨u, by simp only []; omega, by simp only []; omega, ?_, ?_⟩
    · unfold ofAt
      by_cases h2 : rightF 2 a = 0
      · rw [if_pos h2]; exact u.at_good (by omega) (by omega) (by rw [e, kept_beside _ _ (by decide)]; exact (h1.good h2).more _)
      · rw [if_neg h2]; exact u.at_zero (by omega) (by omega) (by rw [e, kept_beside _ _ (by decide)]; exact h1.zero2 h2)
    · unfold ofAt
      rw [if_pos h]; exact u.at_good (by omega) (by omega) (by rw [e, show ((3 : Int).toNat) = 3 from rfl, kept_after]; exact Good.made q.1 h)
  · rw [stp_no h]
    refine ⟨h1.up, by have := h1.len; omega, by have := h1.sz; omega, h1.at2 hn, ?_⟩
    unfold ofAt
    rw [if_neg h]; exact h1.up.at_zero (by omega) (by omega) h1.zero3
theorem ofAt_place {ga gd gl p : Int} {x : X} {y : SV} (h : ofAt ga gd gl p x = some y) : splace y.life = p := by
  unfold ofAt ofR at h
  split at h
  · split at h
    · rename_i h1 h2
      injection h with h
      subst h
      simp [isSup] at h2
      exact h2.1.2
    · cases h
  · cases h
theorem ofAt_ne {ga gd gl : Int} {a b : X} {x y : SV} (h : ofAt ga gd gl 2 a = some x) (h' : ofAt ga gd gl 3 b = some y) : x.life ≠ y.life := fun e => by
  have h1 := ofAt_place h
  have h2 := ofAt_place h'
  rw [e] at h1; omega
end Go.Proofs.Ytmpmibcdpkolkaa.Sup

/- The pages of a life, in plain Lean: what is read of any sectors in their places. -/
namespace Go.Proofs.Ytmpmibcdpkolkaa.Snap
open Go.RowKit
open Go.Proofs.Ytmpmibcdpkolkaa.Geom
open Go.Proofs.Ytmpmibcdpkolkaa.Disk (St Wr read kept new zero512)
open Go.Proofs.Ytmpmibcdpkolkaa.Sec (X text text_len sumAfter rightF X0)
open Go.Proofs.Ytmpmibcdpkolkaa.Sup (UpN stp stp_yes stp_no bytesAt bytesAt_len)
open Go.Proofs.Ytmpmibcdpkolkaa.Enc (rd rd_good rd_zero)
set_option linter.unusedVariables false
/-- the sectors put, up to the k-th place -/
def qs (ga gd gl : Int) (life : UInt64) (l : List X) (n : Nat) : Nat → List (List UInt8) × St
  | 0 => ([], new n)
  | k + 1 => if h : k < l.length then stp (qs ga gd gl life l n k) (areaAt ga gd gl life.toNat k) l[k] else qs ga gd gl life l n k
theorem qs_at {ga gd gl : Int} {life : UInt64} {l : List X} {n k : Nat} (h : k < l.length) : qs ga gd gl life l n (k + 1) = stp (qs ga gd gl life l n k) (areaAt ga gd gl life.toNat k) l[k] := dif_pos h
theorem qs_past {ga gd gl : Int} {life : UInt64} {l : List X} {n k : Nat} (h : ¬ k < l.length) : qs ga gd gl life l n (k + 1) = qs ga gd gl life l n k := dif_neg h
/-- was a sector put there? -/
def putB (ga gd gl : Int) (life : UInt64) (l : List X) (j : Nat) : Bool := if h : j < l.length then decide (rightF (areaAt ga gd gl life.toNat j) l[j] = 0) else false
/-- is it the page? -/
def isL (ga gd gl : Int) (life : UInt64) (l : List X) (j : Nat) : Bool := if h : j < l.length then decide (rightF (areaAt ga gd gl life.toNat j) l[j] = 0) && isX life j l[j] else false
structure QInv (ga gd gl : Int) (life : UInt64) (l : List X) (n N k : Nat) (q : List (List UInt8) × St) : Prop where
  up : UpN q.2 n
  len : q.1.length ≤ k
  sz : q.2.sz ≤ k
  good : ∀ j (h : j < l.length), j < k → rightF (areaAt ga gd gl life.toNat j) l[j] = 0 → Sup.Good q.1 (areaAt ga gd gl life.toNat j) l[j] (kept q.2.all (areaAt ga gd gl life.toNat j).toNat)
  zero : ∀ j, j < N → ¬ (j < k ∧ putB ga gd gl life l j = true) → kept q.2.all (areaAt ga gd gl life.toNat j).toNat = zero512
theorem area_bd {ga gd gl : Int} {n N : Nat} (hn : (n : Int) = Geom.sizeOf ga gd gl) (hN : (N : Int) = pagesOf ga gd gl) (life : UInt64) {k : Nat} (hk : k < N) : 0 ≤ areaAt ga gd gl life.toNat k ∧ areaAt ga gd gl life.toNat k < n := by
  have := area_ok (ga := ga) (gd := gd) (gl := gl) (life := life) (k := k) (by omega)
  omega
theorem qs_inv {ga gd gl : Int} {n N : Nat} (hn : (n : Int) = Geom.sizeOf ga gd gl) (hN : (N : Int) = pagesOf ga gd gl) (life : UInt64) (l : List X) : ∀ k, k ≤ N → QInv ga gd gl life l n N k (qs ga gd gl life l n k)
  | 0, _ => ⟨Sup.up_new n, by simp [qs], Nat.zero_le _, fun j h hj => by omega, fun j _ _ => rfl⟩
  | k + 1, hk => by
    have ih := qs_inv hn hN life l k (by omega)
    by_cases h : k < l.length
    · rw [qs_at h]
      obtain ⟨q, hq⟩ : ∃ q, q = qs ga gd gl life l n k := ⟨_, rfl⟩
      rw [← hq] at ih ⊢
      have hp := area_bd hn hN life (k := k) (by omega)
      by_cases hr : rightF (areaAt ga gd gl life.toNat k) l[k] = 0
      · rw [stp_yes hr]
        obtain ⟨u, e, z⟩ := Sup.UpN.put ih.up hp.1 hp.2 (bytesAt_len q (areaAt ga gd gl life.toNat k) l[k])
        have hl := Sup.sumAfter_len q.1 (text (areaAt ga gd gl life.toNat k) l[k])
        have hne : ∀ j, j < N → j ≠ k → (areaAt ga gd gl life.toNat k).toNat ≠ (areaAt ga gd gl life.toNat j).toNat := fun j hj hjk he => by
          have hpj := area_bd hn hN life hj
          exact hjk (area_inj (m := life.toNat) (by omega) (by omega) (show areaAt ga gd gl life.toNat j = areaAt ga gd gl life.toNat k by omega))
        refine ⟨u, by have := ih.len; simp only []; omega, by have := ih.sz; simp only []; omega, fun j hj hjk hrj => ?_, fun j hj hnj => ?_⟩
        · by_cases hjk' : j = k
          · subst hjk'
            rw [e, Sup.kept_after]
            exact Sup.Good.made q.1 hr
          · rw [e, Sup.kept_beside _ _ (hne j (by omega) hjk')]
            exact (ih.good j hj (by omega) hrj).more _
        · have hjk' : j ≠ k := fun e => hnj ⟨by omega, by subst e; unfold putB; rw [dif_pos h]; exact decide_eq_true hr⟩
          rw [e, Sup.kept_beside _ _ (hne j hj hjk')]
          exact ih.zero j hj (fun hh => hnj ⟨by omega, hh.2⟩)
      · rw [stp_no hr]
        refine ⟨ih.up, by have := ih.len; omega, by have := ih.sz; omega, fun j hj hjk hrj => ?_, fun j hj hnj => ?_⟩
        · by_cases hjk' : j = k
          · subst hjk'; exact absurd hrj hr
          · exact ih.good j hj (by omega) hrj
        · exact ih.zero j hj (fun hh => hnj ⟨by omega, hh.2⟩)
    · rw [qs_past h]
      refine ⟨ih.up, by have := ih.len; omega, by have := ih.sz; omega, fun j hj hjk hrj => ?_, fun j hj hnj => ih.zero j hj (fun hh => hnj ⟨by omega, hh.2⟩)⟩
      exact ih.good j hj (by omega) hrj
theorem QInv.isPg {ga gd gl : Int} {n N : Nat} (hn : (n : Int) = Geom.sizeOf ga gd gl) (hN : (N : Int) = pagesOf ga gd gl) {life : UInt64} {l : List X} {q : List (List UInt8) × St} (h : QInv ga gd gl life l n N N q) {j : Nat} (hj : j < N) : isPg q.1 q.2 ga gd gl life j = isL ga gd gl life l j := by
  have hp := area_bd hn hN life hj
  unfold Snap.isPg rdAt isL
  by_cases h1 : j < l.length
  · rw [dif_pos h1]
    by_cases h2 : rightF (areaAt ga gd gl life.toNat j) l[j] = 0
    · rw [rd_good h.up hp.1 hp.2 (h.good j h1 hj h2)]
      simp [h2]
    · rw [rd_zero h.up hp.1 hp.2 (h.zero j hj (fun hh => by have := hh.2; unfold putB at this; rw [dif_pos h1] at this; exact h2 (of_decide_eq_true this)))]
      simp [h2]
  · rw [dif_neg h1, rd_zero h.up hp.1 hp.2 (h.zero j hj (fun hh => by have := hh.2; unfold putB at this; rw [dif_neg h1] at this; cases this))]
    simp
/-- the numbers of the pages that are not there, up to the k-th -/
def wants (ga gd gl : Int) (life : UInt64) (l : List X) (k : Nat) : List Int := ((List.range k).filter (fun j => !isL ga gd gl life l j)).map (fun j : Nat => (j : Int))
theorem wants_no {ga gd gl : Int} {life : UInt64} {l : List X} {k : Nat} (h : isL ga gd gl life l k = false) : wants ga gd gl life l (k + 1) = wants ga gd gl life l k ++ [(k : Int)] := by
  unfold wants; rw [List.range_succ, List.filter_append, List.map_append]; simp [h]
theorem wants_yes {ga gd gl : Int} {life : UInt64} {l : List X} {k : Nat} (h : isL ga gd gl life l k = true) : wants ga gd gl life l (k + 1) = wants ga gd gl life l k := by
  unfold wants; rw [List.range_succ, List.filter_append, List.map_append]; simp [h]
theorem wants_len (ga gd gl : Int) (life : UInt64) (l : List X) (k : Nat) : (wants ga gd gl life l k).length ≤ k := by
  unfold wants; rw [List.length_map]; exact Nat.le_trans (List.length_filter_le _ _) (by simp)
theorem QInv.badL {ga gd gl : Int} {n N : Nat} (hn : (n : Int) = Geom.sizeOf ga gd gl) (hN : (N : Int) = pagesOf ga gd gl) {life : UInt64} {l : List X} {q : List (List UInt8) × St} (h : QInv ga gd gl life l n N N q) : Snap.badL q.1 q.2 ga gd gl life N = wants ga gd gl life l N := by
  unfold Snap.badL wants
  congr 1
  apply List.filter_congr
  intro j hj
  rw [h.isPg hn hN (List.mem_range.1 hj)]
theorem QInv.snapR {ga gd gl : Int} {n N : Nat} (hn : (n : Int) = Geom.sizeOf ga gd gl) (hN : (N : Int) = pagesOf ga gd gl) {life : UInt64} {l : List X} {q : List (List UInt8) × St} (h : QInv ga gd gl life l n N N q) :
    ((wants ga gd gl life l N).length = 0 ∧ ∃ r, Snap.snapR q.1 q.2 ga gd gl life N = some r ∧ r.length = N) ∨ (0 < (wants ga gd gl life l N).length ∧ Snap.snapR q.1 q.2 ga gd gl life N = none) := by
  rw [← h.badL hn hN]
  unfold Snap.snapR
  by_cases ha : allPg q.1 q.2 ga gd gl life N = true
  · left
    rw [if_pos ha]
    refine ⟨?_, _, rfl, bodies_len _ _ _ _ _ _ _⟩
    unfold Snap.badL
    unfold allPg at ha
    rw [List.all_eq_true] at ha
    rw [List.filter_eq_nil_iff.2 (fun k hk => by rw [ha k hk]; simp)]
    rfl
  · right
    rw [if_neg ha]
    refine ⟨?_, rfl⟩
    have ha' : allPg q.1 q.2 ga gd gl life N = false := by simpa using ha
    unfold allPg at ha'
    rw [List.all_eq_false] at ha'
    obtain ⟨k, hk, hp⟩ := ha'
    unfold Snap.badL
    rw [List.length_map]
    exact List.length_pos_of_mem (List.mem_filter.2 ⟨hk, by simpa using hp⟩)
end Go.Proofs.Ytmpmibcdpkolkaa.Snap

/- How a sector (a struct of five fields, one of them a slice of bytes) comes in as an argument. -/
namespace Go.Proofs.Ytmpmibcdpkolkaa
open Go.ChangeShapes Go.WideShapes Go.ChangeAt Go.RowKit Go.Joins Go.Deep
set_option maxRecDepth 100000
set_option linter.unusedVariables false
theorem array5 {α : Type} {cs : Array α} (h : cs.size = 5) : ∃ c0 c1 c2 c3 c4, cs = #[c0, c1, c2, c3, c4] := by
  obtain ⟨l⟩ := cs
  match l, h with
  | [c0, c1, c2, c3, c4], _ => exact ⟨c0, c1, c2, c3, c4, rfl⟩
theorem open_agg5 {H : Type} {enc : TypeId × Value → H} {P : Program} {w : World} {base : Nat} {spare : Nat → Bool} {held : Bool} {r : Reach} {b0 : Nat} {t : TypeId} {f0 f1 f2 f3 f4 : Field} {v : Value} {d : DataW H} {p : List MemPlace}
    (hs : P.underlying t = some (.struct #[f0, f1, f2, f3, f4])) (hone : oneCellFields P #[f0, f1, f2, f3, f4] = true) (hC : P.cellsOf t = 5)
    (hv : Value.okWide P w r b0 t v) (h : DataW.Trod enc P w base spare held t v d p) :
    ∃ (v0 v1 v2 v3 v4 : Value) (y0 y1 y2 y3 y4 : DataW H × List MemPlace) (n : Nat), v = .agg #[v0, v1, v2, v3, v4] ∧
      DataW.trod enc P w base spare held n f0.type [v0] = some y0 ∧ DataW.trod enc P w base spare held n f1.type [v1] = some y1 ∧ DataW.trod enc P w base spare held n f2.type [v2] = some y2 ∧ DataW.trod enc P w base spare held n f3.type [v3] = some y3 ∧ DataW.trod enc P w base spare held n f4.type [v4] = some y4 := by
  obtain ⟨cs, rfl, hsz⟩ := okWide_struct hs hv
  obtain ⟨c0, c1, c2, c3, c4, rfl⟩ := array5 (hsz.trans hC)
  obtain ⟨fuel, hf⟩ := h
  obtain ⟨ys, n, _, hx, hl, hlen, hf⟩ := DataW.trod_struct hs hf
  obtain ⟨o0, k0⟩ := hone_of hone 0 f0 rfl
  obtain ⟨o1, k1⟩ := hone_of hone 1 f1 rfl
  obtain ⟨o2, k2⟩ := hone_of hone 2 f2 rfl
  obtain ⟨o3, k3⟩ := hone_of hone 3 f3 rfl
  obtain ⟨o4, k4⟩ := hone_of hone 4 f4 rfl
  match ys, hlen with
  | [y0, y1, y2, y3, y4], _ =>
    have e0 := hf 0 f0 rfl
    have e1 := hf 1 f1 rfl
    have e2 := hf 2 f2 rfl
    have e3 := hf 3 f3 rfl
    have e4 := hf 4 f4 rfl
    exact ⟨c0, c1, c2, c3, c4, y0, y1, y2, y3, y4, n, rfl, by simpa [Value.cells, o0, k0] using e0, by simpa [Value.cells, o1, k1] using e1, by simpa [Value.cells, o2, k2] using e2, by simpa [Value.cells, o3, k3] using e3, by simpa [Value.cells, o4, k4] using e4⟩
theorem sector_of {H : Type} {enc : TypeId × Value → H} {w : World} {r : Reach} {b0 : Nat} {v : Value} {d : DataW H} {p : List MemPlace} (hv : Value.okWide Try.prog w r b0 49 v) (h : DataW.Trod enc Try.prog w 0 (fun _ => true) true 49 v d p) :
    ∃ (x : Sec.X) (A : Option Addr) (c : Nat), v = .agg #[.int .i64 x.kind, .int .u64 (x.life.toNat : Int), .int .i64 x.seq, .int .u64 (x.gen.toNat : Int), .slice A x.body.length c] ∧ Rd w w.heap.size A (x.body.map e8) ∧ x.body.length ≤ c ∧ c ≤ maxLen := by
  obtain ⟨v0, v1, v2, v3, v4, y0, y1, y2, y3, y4, n, rfl, t0, t1, t2, t3, t4⟩ := open_agg5 Try.underlying49 (by kernel_rfl) (by kernel_rfl) hv h
  obtain ⟨k, e0, _, wk⟩ := DataW.trod_int Try.underlying3 t0
  obtain ⟨u1, e1, _, w1⟩ := DataW.trod_int Try.underlying24 t1
  obtain ⟨s, e2, _, ws⟩ := DataW.trod_int Try.underlying3 t2
  obtain ⟨u3, e3, _, w3⟩ := DataW.trod_int Try.underlying24 t3
  obtain ⟨A4, l4, c4, e4, r4, q4, m4⟩ := bytes_of1 Try.underlying37 Try.underlying5 (by kernel_rfl) t4
  simp only [List.cons.injEq, and_true] at e0 e1 e2 e3
  subst e0 e1 e2 e3 e4
  obtain ⟨u1', rfl⟩ := wf64 w1
  obtain ⟨u3', rfl⟩ := wf64 w3
  exact ⟨⟨k, u1', s, u3', l4⟩, A4, c4, rfl, r4, q4, m4⟩
end Go.Proofs.Ytmpmibcdpkolkaa

/- Rows of sectors ([]Sector): how they read, and how they come in as an argument. -/
namespace Go.Proofs.Ytmpmibcdpkolkaa
open Go.RowKit
set_option linter.unusedVariables false
/-- a sector in five cells -/
structure SecAt (w : World) (B b o : Nat) (x : Sec.X) (Ai : Option Addr) (ci : Nat) : Prop where
  c0 : w.cell? ⟨b, o, none⟩ = some (.int .i64 x.kind)
  c1 : w.cell? ⟨b, o + 1, none⟩ = some (.int .u64 (x.life.toNat : Int))
  c2 : w.cell? ⟨b, o + 2, none⟩ = some (.int .i64 x.seq)
  c3 : w.cell? ⟨b, o + 3, none⟩ = some (.int .u64 (x.gen.toNat : Int))
  c4 : w.cell? ⟨b, o + 4, none⟩ = some (.slice Ai x.body.length ci)
  rd : Rd w B Ai (x.body.map e8)
  cap : x.body.length ≤ ci
  max : ci ≤ maxLen
/-- a slice of sectors -/
def Secs (w : World) (B : Nat) (A : Option Addr) (l : List Sec.X) : Prop :=
  l ≠ [] → ∃ b off, A = some ⟨b, off, none⟩ ∧ b < B ∧ ∀ i (h : i < l.length), ∃ Ai ci, SecAt w B b (off + i * 5) l[i] Ai ci
theorem Secs.get {w : World} {B : Nat} {A : Option Addr} {l : List Sec.X} (h : Secs w B A l) {i : Nat} (hi : i < l.length) :
    ∃ b off Ai ci, A = some ⟨b, off, none⟩ ∧ b < B ∧ SecAt w B b (off + i * 5) l[i] Ai ci := by
  obtain ⟨b, off, rfl, hb, hc⟩ := h (by intro e; rw [e] at hi; exact absurd hi (by simp))
  obtain ⟨Ai, ci, h1⟩ := hc i hi
  exact ⟨b, off, Ai, ci, rfl, hb, h1⟩
theorem SecAt.below {w w' : World} {B b o : Nat} {x : Sec.X} {Ai : Option Addr} {ci : Nat} (h : SecAt w B b o x Ai ci) (hb : Below B w w') (hlt : b < B) : SecAt w' B b o x Ai ci :=
  ⟨(hb.cell (p := ⟨b, _, none⟩) hlt).trans h.c0, (hb.cell (p := ⟨b, _, none⟩) hlt).trans h.c1, (hb.cell (p := ⟨b, _, none⟩) hlt).trans h.c2, (hb.cell (p := ⟨b, _, none⟩) hlt).trans h.c3, (hb.cell (p := ⟨b, _, none⟩) hlt).trans h.c4, h.rd.below hb, h.cap, h.max⟩
theorem Secs.below {w w' : World} {B : Nat} {A : Option Addr} {l : List Sec.X} (h : Secs w B A l) (hb : Below B w w') : Secs w' B A l := by
  intro hne
  obtain ⟨b, off, rfl, hlt, hc⟩ := h hne
  refine ⟨b, off, rfl, hlt, fun i hi => ?_⟩
  obtain ⟨Ai, ci, h1⟩ := hc i hi
  exact ⟨Ai, ci, h1.below hb hlt⟩
open Go.ChangeShapes Go.WideShapes Go.ChangeAt Go.Joins Go.Deep
set_option maxRecDepth 100000
theorem sectors_of {A : Option Addr} {len cap : Nat} {H : Type} {enc : TypeId × Value → H} {w : World} {held : Bool} {fuel : Nat} {x : DataW H × List MemPlace}
    (h : DataW.trod enc Try.prog w 0 (fun _ => true) held fuel 71 (Value.slice A len cap).cells.toList = some x) :
    ∃ l : List Sec.X, l.length = len ∧ Secs w w.heap.size A l ∧ len ≤ cap ∧ cap ≤ maxLen := by
  rcases open_slice_fields Try.underlying71 Try.underlying49 (by kernel_rfl) (by kernel_rfl) h with hcs | ⟨a, l', c', m, hcs, _, hl, hm, hmm, hi⟩
  · simp [Value.cells] at hcs
    obtain ⟨rfl, rfl, rfl⟩ := hcs
    exact ⟨[], rfl, fun h => absurd rfl h, by omega, by unfold maxLen; omega⟩
  · simp [Value.cells] at hcs
    obtain ⟨rfl, rfl, rfl⟩ := hcs
    simp only [if_true] at hmm
    subst hmm
    have key : ∀ i, i < len → ∃ f : Sec.X, ∃ b off, a = ⟨b, off, none⟩ ∧ b < w.heap.size ∧ ∃ Ai ci, SecAt w w.heap.size b (off + i * 5) f Ai ci := by
      intro i hil
      obtain ⟨ys, n, hf⟩ := hi i (by omega)
      obtain ⟨v0, y0, c0, _, t0⟩ := hf 0 _ rfl
      obtain ⟨v1, y1, c1, _, t1⟩ := hf 1 _ rfl
      obtain ⟨v2, y2, c2, _, t2⟩ := hf 2 _ rfl
      obtain ⟨v3, y3, c3, _, t3⟩ := hf 3 _ rfl
      obtain ⟨v4, y4, c4, _, t4⟩ := hf 4 _ rfl
      obtain ⟨k, e0, _, wk⟩ := DataW.trod_int Try.underlying3 t0
      obtain ⟨u1, e1, _, w1⟩ := DataW.trod_int Try.underlying24 t1
      obtain ⟨s, e2, _, ws⟩ := DataW.trod_int Try.underlying3 t2
      obtain ⟨u3, e3, _, w3⟩ := DataW.trod_int Try.underlying24 t3
      obtain ⟨A4, l4, c4', e4, r4, q4, m4⟩ := bytes_of1 Try.underlying37 Try.underlying5 (by kernel_rfl) t4
      simp only [List.cons.injEq, and_true] at e0 e1 e2 e3
      subst e0 e1 e2 e3 e4
      obtain ⟨u1', rfl⟩ := wf64 w1
      obtain ⟨u3', rfl⟩ := wf64 w3
      obtain ⟨b, off, spot⟩ := a
      have hspot : spot = none := by
        obtain ⟨_, _, hf0⟩ := hi 0 (by omega)
        obtain ⟨_, _, c00, _, _⟩ := hf0 0 _ rfl
        exact World.cell?_spot c00
      subst hspot
      rw [Addr.add_lit] at c0 c1 c2 c3 c4
      have hb : b < w.heap.size := by
        rcases Nat.lt_or_ge b w.heap.size with h | h
        · exact h
        · simp [World.cell?, Array.getElem?_eq_none h] at c0
      exact ⟨⟨k, u1', s, u3', l4⟩, b, off, rfl, hb, A4, c4', c0, c1, c2, c3, c4, r4, q4, m4⟩
    obtain ⟨l, hll, hp⟩ := choose_list key
    refine ⟨l, hll, fun hne => ?_, hl, hm⟩
    have hpos : 0 < l.length := by cases l; exact absurd rfl hne; simp
    obtain ⟨b, off, rfl, hb, _⟩ := hp 0 hpos
    refine ⟨b, off, rfl, hb, fun i hi => ?_⟩
    obtain ⟨b', off', e, _, h2⟩ := hp i hi
    injection e with e1 e2 _
    subst e1 e2
    exact h2
end Go.Proofs.Ytmpmibcdpkolkaa

/- For the law on what is read of any sectors: the reference's test, a row that grows beside a disk. -/
namespace Go.Proofs.Ytmpmibcdpkolkaa
open Go.RowKit
set_option linter.unusedVariables false
theorem Here.row {w0 w w' : World} {g : Nat} {fp : List Nat} {s : Disk.St} {gS bS : Nat} {l : List (List UInt8)} {row : Option Nat} (h : Here w0 w g fp s gS bS l) (hg : w.grownBy w' row) (hr : ∀ r, row = some r → w0.heap.size ≤ r ∧ r ∉ gS :: bS :: fp) : Here w0 w' g fp s gS bS l := by
  have k : Keep row.toList w w' := Keep.of_grown hg (fun g e => by simp [e])
  have hn : ∀ r ∈ row.toList, w0.heap.size ≤ r ∧ r ∉ gS :: bS :: fp := fun r hr' => hr r (by simpa using hr')
  refine ⟨⟨h.both.disk.keep k (fun j hj e => (hn j e).2 (by simp [hj])), h.both.sym.keepK k (fun e => (hn _ e).2 (by simp)) (fun e => (hn _ e).2 (by simp)), h.both.nS, h.both.nB⟩, h.bel.grown hg h.bel.size (fun g e => (hr g e).1), h.own⟩
theorem Blk.row {w w' : World} {b : Nat} {xs : List Value} {row : Option Nat} (h : Blk w b xs) (hg : w.grownBy w' row) (hr : ∀ r, row = some r → r ≠ b) : Blk w' b xs := h.elim fun t hh => ⟨t, (hg.block b (lt_of_block hh) (fun e => hr b e.symm rfl)).trans hh⟩
end Go.Proofs.Ytmpmibcdpkolkaa
namespace Go.Proofs.Ytmpmibcdpkolkaa.Snap
open Go.RowKit
open Go.Proofs.Ytmpmibcdpkolkaa.Sec (X five5x)
set_option linter.unusedVariables false
set_option maxRecDepth 100000
set_option maxHeartbeats 1000000 in
theorem ris_any (x : X) (A : Option Addr) (c : Nat) (k : Nat) (life : UInt64) (w : World) :
    Calls Try.prog 47 #[.int .u64 (life.toNat : Int), .int .i64 (k : Int), .agg #[.int .i64 x.kind, .int .u64 (x.life.toNat : Int), .int .i64 x.seq, .int .u64 (x.gen.toNat : Int), .slice A x.body.length c]] w fun e w' => e = .returned (.bool (isX life k x)) ∧ Below w.heap.size w w' := by
  have b0 := b1alloc w (.cells ([.int .i64 x.kind, .int .u64 (x.life.toNat : Int), .int .i64 x.seq, .int .u64 (x.gen.toNat : Int), .slice A x.body.length c] : List Value).toArray 49)
  have hX := Blk.new w [.int .i64 x.kind, .int .u64 (x.life.toNat : Int), .int .i64 x.seq, .int .u64 (x.gen.toNat : Int), .slice A x.body.length c] 49
  obtain ⟨x0, x1, x2, x3, x4⟩ := five5x hX
  by_cases e1 : x.kind = 3
  rotate_left
  · have hn := Lib.hid (show isX life k x = false by simp [isX, e1])
    have t1 := beq_no e1
    clear e1
    go_enter Try.func47, Try.ntmps47
    go_wp2
    go_ret
    exact ⟨ret_bool hn.out.symm, b0⟩
  have t1 := beq_yes e1
  by_cases e2 : x.life = life
  rotate_left
  · have hn := Lib.hid (show isX life k x = false by simp [isX, e2])
    have t2 := beq_no (show (x.life.toNat : Int) ≠ (life.toNat : Int) from fun e => e2 (UInt64.toNat_inj.1 (by omega)))
    clear e1 e2
    go_enter Try.func47, Try.ntmps47
    go_wp2
    go_ret
    exact ⟨ret_bool hn.out.symm, b0⟩
  have t2 := beq_yes (show (x.life.toNat : Int) = (life.toNat : Int) by rw [e2])
  by_cases e3 : x.seq = (k : Int)
  rotate_left
  · have hn := Lib.hid (show isX life k x = false by simp [isX, e3])
    have t3 := beq_no e3
    clear e1 e2 e3
    go_enter Try.func47, Try.ntmps47
    go_wp2
    go_ret
    exact ⟨ret_bool hn.out.symm, b0⟩
  have t3 := beq_yes e3
  by_cases e4 : x.gen = 0
  · have hn := Lib.hid (show isX life k x = true by simp [isX, e1, e2, e3, e4])
    have t4 := beq_yes (show (x.gen.toNat : Int) = 0 by rw [e4]; rfl)
    clear e1 e2 e3 e4
    go_enter Try.func47, Try.ntmps47
    go_wp2
    go_ret
    exact ⟨ret_bool hn.out.symm, b0⟩
  · have hn := Lib.hid (show isX life k x = false by simp [isX, e4])
    have t4 := beq_no (show (x.gen.toNat : Int) ≠ 0 from fun e => e4 (UInt64.toNat_inj.1 (by rw [show (0 : UInt64).toNat = 0 from rfl]; omega)))
    clear e1 e2 e3 e4
    go_enter Try.func47, Try.ntmps47
    go_wp2
    go_ret
    exact ⟨ret_bool hn.out.symm, b0⟩
end Go.Proofs.Ytmpmibcdpkolkaa.Snap
