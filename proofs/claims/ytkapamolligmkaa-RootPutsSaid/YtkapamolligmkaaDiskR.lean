/- The walk of disk.Read. -/
import Derived.Test.YtkapamolligmkaaBack
import Derived.WalkMore
import Derived.ScopeJumps
namespace Go.Proofs.Ytkapamolligmkaa.Disk
open Go.RowKit Go.Shelf Go.Proofs.Ytkapamolligmkaa.Ch
attribute [local go_sem] Oper.semAt_some
set_option linter.unusedVariables false
set_option maxRecDepth 100000

/-- what is read: the newest pending write of the place, else what is kept -/
theorem kept_pend (all pend : List Wr) (p : Nat) (k : Nat) (hk : k < pend.length) (hp : pend[pend.length - 1 - k].1 = p) (hno : ∀ j, j < k → ∀ (h : pend.length - 1 - j < pend.length), pend[pend.length - 1 - j].1 ≠ p) : kept (all ++ pend) p = pend[pend.length - 1 - k].2 := by
  obtain ⟨i, hi⟩ : ∃ i, i = pend.length - 1 - k := ⟨_, rfl⟩
  have hil : i < pend.length := by omega
  have hsplit : all ++ pend = (all ++ pend.take i ++ [pend[i]]) ++ pend.drop (i + 1) := by
    rw [List.append_assoc all, ← List.take_succ_eq_append_getElem hil, List.append_assoc, List.take_append_drop]
  rw [hsplit, kept_append _ _ _ (fun w hw => by
    obtain ⟨j, hj, rfl⟩ := List.getElem_of_mem hw
    rw [List.length_drop] at hj
    rw [List.getElem_drop]
    have := hno (k - 1 - j) (by omega) (by omega)
    have he : pend.length - 1 - (k - 1 - j) = i + 1 + j := by omega
    simp only [he] at this
    exact this), kept_snoc]
  subst hi
  rw [if_pos hp]
theorem kept_none (all pend : List Wr) (p : Nat) (hno : ∀ j, j < pend.length → ∀ (h : pend.length - 1 - j < pend.length), pend[pend.length - 1 - j].1 ≠ p) : kept (all ++ pend) p = kept all p :=
  kept_append _ _ _ (fun w hw => by
    obtain ⟨j, hj, rfl⟩ := List.getElem_of_mem hw
    have := hno (pend.length - 1 - j) (by omega) (by omega)
    have he : pend.length - 1 - (pend.length - 1 - j) = j := by omega
    simp only [he] at this
    exact this)
/-- what Read tells -/
def Told8 (w w' : World) (r : List UInt8 × Int) (e : Ending) : Prop := ∃ v, e = .returned (.tuple #[v, .int .i64 r.2]) ∧ New8 w w' r.1 v ∧ Below w.heap.size w w'
/-- the walk stopped at the newest write of the place: its row lies in a block of its own, the results in their cells -/
def Hit (X : World) (B : Nat) (q : Nat) (pend : List Wr) (pre : List (Fin pend.length)) : Prop :=
  ∃ (pre0 : List (Fin pend.length)) (x : Fin pend.length) (bx : Nat), pre = pre0 ++ [x] ∧ (∀ y ∈ pre0, pend[y.1].1 ≠ q) ∧ pend[x.1].1 = q ∧ B ≤ bx ∧
    (BlkT X (B + 1) 23 [.slice (some ⟨bx, 1, none⟩) 512 512] ∧ BlkT X (B + 1 + 1) 26 [.int .i64 0] ∧ BlkT X bx 89 (wcells pend[x.1]))
theorem hit_from {B0 B q : Nat} {pend : List Wr} : OwnFrom B0 (fun pre W => Hit W B q pend pre) := fun pre W W' row hs hg hr => by
  obtain ⟨pre0, x, bx, h1, h2, h3, h4, h5, h6, h7⟩ := hs
  exact ⟨pre0, x, bx, h1, h2, h3, h4, blkT_from (β := Unit) _ _ _ () W W' row h5 hg hr, blkT_from (β := Unit) _ _ _ () W W' row h6 hg hr, blkT_from (β := Unit) _ _ _ () W W' row h7 hg hr⟩
theorem new8_wait {w X : World} {bx : Nat} {x : Wr} (hbx : w.heap.size ≤ bx) (h : BlkT X bx 89 (wcells x)) (hl : x.2.length = 512) : New8 w X x.2 (.slice (some ⟨bx, 1, none⟩) 512 512) := by
  refine ⟨_, 512, by rw [hl], by omega, by unfold maxLen; omega, fun _ => ⟨bx, 1, rfl, hbx, lt_of_block h, fun i hi => ?_⟩⟩
  have := blk_bytes (BlkT.blk h) i (x.2.map e8)[i] (List.getElem?_eq_getElem hi)
  exact this
theorem New8.move {w w1 w2 w3 : World} {l : List UInt8} {v : Value} (h : New8 w1 w2 l v) (hs : w.heap.size ≤ w1.heap.size) (hk : ∀ b, w1.heap.size ≤ b → b < w2.heap.size → w3.heap[b]? = w2.heap[b]?) (hz : w2.heap.size ≤ w3.heap.size) : New8 w w3 l v := by
  obtain ⟨A, c, h0, h1, h2, h3⟩ := h
  refine ⟨A, c, h0, h1, h2, fun hne => ?_⟩
  obtain ⟨b, off, h4, h5, h6, h7⟩ := h3 hne
  exact ⟨b, off, h4, by omega, by omega, fun i hi => (World.cell?_of_block (hk b h5 h6)).trans (h7 i hi)⟩
theorem hit_kept (all pend : List Wr) (q k : Nat) (hk : k ≤ pend.length) (pre0 : List (Fin pend.length)) (x : Fin pend.length) (hpk : pre0 ++ [x] = (bkAll pend.length).take k) (hno : ∀ y ∈ pre0, pend[y.1].1 ≠ q) (hxq : pend[x.1].1 = q) :
    kept (all ++ pend) q = pend[x.1].2 := by
  cases k with
  | zero => simp at hpk
  | succ k =>
    have hkl : k < pend.length := hk
    rw [bkAll_take hkl] at hpk
    obtain ⟨rfl, hx⟩ := List.append_inj' hpk rfl
    obtain rfl : x = bk pend.length k hkl := by simpa using hx
    refine kept_pend all pend q k (by omega) hxq (fun j hj h => ?_)
    refine hno (bk pend.length j (by omega)) ?_
    have h1 : bk pend.length j (by omega) ∈ (bkAll pend.length).take (j + 1) := by rw [bkAll_take (by omega)]; simp
    have h2 : (bkAll pend.length).take (j + 1) = ((bkAll pend.length).take k).take (j + 1) := by rw [List.take_take, Nat.min_eq_left (by omega)]
    rw [h2] at h1
    exact List.mem_of_mem_take h1
set_option maxHeartbeats 2000000 in
theorem read_any (g : Nat) (fp : List Nat) (s : St) (p : Int) (w : World) (h : DAt w g fp s) (hs : s.sz ≤ 100000000) :
    Calls Try.prog 28 #[.pointer (some ⟨g, 0, none⟩), .int .i64 p] w fun e w' => Told8 w w' (read s p) e := by
  have hdn := fun W (hW : Below w.heap.size w W) => down_any g fp s W (h.on hW)
  have has := fun W (hW : Below w.heap.size w W) => asked_any g fp s p W (h.on hW)
  have bw3 := b3alloc w (.cells #[.int .i64 p] 3) (.cells #[.slice none 0 0] 23) (.cells #[.int .i64 0] 26)
  cases hd : s.down with
  | true =>
    have hw : read s p = ([], 12) := by unfold read; rw [if_pos hd]
    rw [hw]
    rw [hd] at hdn
    have Hdn := Lib.hid hdn
    clear hw hd has hdn
    go_enter Try.func28, Try.ntmps28
    go_wp2_with fail
    go_step3
    go_wp2_with fail
    refine (Hdn.out _ bw3).mono ?_
    rintro e w1 ⟨rfl, rfl⟩
    go_wp2
    rw [Exit.noGoto_ret]
    refine bodyPost_ret (v := .tuple #[.slice none 0 0, .int .i64 12]) (by simp [results, Try.results28, go_sem]) rfl ?_
    exact ⟨_, rfl, New8.nil _ _, b3alloc _ _ _ _⟩
  | false =>
    rw [hd] at hdn
    have Hdn := Lib.hid hdn
    by_cases hp : p < 0 ∨ (s.size : Int) ≤ p
    · have hw : read s p = ([], 2) := by unfold read; rw [if_neg (by simp [hd]), if_pos hp]
      have hf : askF s p = 2 := if_pos hp
      rw [hw]
      rw [hf] at has
      have Has := Lib.hid has
      clear hw hd has hdn hp hf
      go_enter Try.func28, Try.ntmps28
      go_wp2_with fail
      go_step3
      go_wp2_with fail
      refine (Hdn.out _ bw3).mono ?_
      rintro e w1 ⟨rfl, rfl⟩
      go_wp2_with fail
      refine (Has.out _ bw3).mono ?_
      rintro e w1 ⟨rfl, rfl⟩
      go_wp2
      rw [Exit.noGoto_ret]
      refine bodyPost_ret (v := .tuple #[.slice none 0 0, .int .i64 2]) (by simp [results, Try.results28, go_sem]) rfl ?_
      exact ⟨_, rfl, New8.nil _ _, b3alloc _ _ _ _⟩
    · have hf : askF s p = 0 := if_neg hp
      have hw : read s p = (kept (s.all ++ s.pend) p.toNat, 0) := by unfold read; rw [if_neg (by simp [hd]), if_neg hp]
      rw [hw]
      rw [hf] at has
      have Has := Lib.hid has
      obtain ⟨q, rfl⟩ : ∃ q : Nat, p = (q : Int) := ⟨p.toNat, by omega⟩
      rw [Int.toNat_natCast]
      have hka := kept_any g fp s (q : Int)
      rw [show keptAt s (q : Int) = kept s.all q from by rw [keptAt, if_neg hp, Int.toNat_natCast]] at hka
      have Hka := Lib.hid hka
      obtain ⟨vk, vp, va, acs, hL⟩ := h
      obtain ⟨Ap, cp, rfl⟩ := own_form hL.pend
      have hL3 := hL.on bw3
      obtain ⟨_, d1, _, _, _, _, _⟩ := six hL3.blk
      have hpl : s.pend.length ≤ 100000000 := by unfold St.sz at hs; omega
      clear hw hd has hdn hp hf hka
      refine (callsIn_wide (n := 8)).1 ?_
      refine callsIn_of_wp_marks Try.func28 rfl trivial ?_ rfl
      simp only [Try.ntmps28, List.size_toArray, List.length_cons, List.length_nil, Nat.reduceAdd, Nat.reduceSub, Array.replicate_succ, Array.replicate_zero, List.push_toArray, List.append_toArray, List.nil_append, List.cons_append]
      gi_wp2_with fail
      refine wpIn_wide.2 (wp_scope_straight ((wpIn_wide (n := 8)).1 ?_))
      gi_wp2_with fail
      have e3 : (((w.alloc (.cells #[.int .i64 (q : Int)] 3)).alloc (.cells #[.slice none 0 0] 23)).alloc (.cells #[.int .i64 0] 26)).heap[w.heap.size]? = some (.cells #[.int .i64 (q : Int)] 3 (0, 0)) :=
        (Below.heap_alloc _ _ _ (by simp; omega)).trans ((Below.heap_alloc _ _ _ (by simp)).trans (heap_alloc_new w _))
      have e4 : (((w.alloc (.cells #[.int .i64 (q : Int)] 3)).alloc (.cells #[.slice none 0 0] 23)).alloc (.cells #[.int .i64 0] 26)).heap[w.heap.size + 1]? = some (.cells #[.slice none 0 0] 23 (0, 0)) :=
        (Below.heap_alloc _ _ _ (by simp)).trans (by have := heap_alloc_new (w.alloc (.cells #[.int .i64 (q : Int)] 3)) (.cells #[.slice none 0 0] 23); simpa using this)
      have e5 : (((w.alloc (.cells #[.int .i64 (q : Int)] 3)).alloc (.cells #[.slice none 0 0] 23)).alloc (.cells #[.int .i64 0] 26)).heap[w.heap.size + 1 + 1]? = some (.cells #[.int .i64 0] 26 (0, 0)) := by
        have := heap_alloc_new ((w.alloc (.cells #[.int .i64 (q : Int)] 3)).alloc (.cells #[.slice none 0 0] 23)) (.cells #[.int .i64 0] 26)
        simpa using this
      have hs3 : (((w.alloc (.cells #[.int .i64 (q : Int)] 3)).alloc (.cells #[.slice none 0 0] 23)).alloc (.cells #[.int .i64 0] 26)).heap.size = w.heap.size + 3 := by simp
      obtain ⟨w3, hw3⟩ : ∃ w3, w3 = ((w.alloc (.cells #[.int .i64 (q : Int)] 3)).alloc (.cells #[.slice none 0 0] 23)).alloc (.cells #[.int .i64 0] 26) := ⟨_, rfl⟩
      rw [← hw3] at bw3 hL3 d1 e3 e4 e5 hs3 ⊢
      replace hs3 := Nat.le_of_eq hs3.symm
      clear hw3
      have c3 := cell_of_one e3
      refine ⟨trivial, (callsIn_wide.2 (Hdn.out _ bw3)).mono ?_⟩
      rintro e w1 ⟨rfl, rfl⟩
      gi_wp2_with fail
      refine ⟨trivial, (callsIn_wide.2 (Has.out _ bw3)).mono ?_⟩
      rintro e w1 ⟨rfl, rfl⟩
      gi_wp2_with fail
      refine wpIn_label ?_
      gi_wp2_with fail
      refine ⟨trivial, (callsIn_wide.2 (backward_any Ap s.pend.length cp _)).mono ?_⟩
      rintro e w6 ⟨rfl, cs6, b6, hs6⟩
      gi_wp2_with fail
      have hp512 : ∀ x ∈ s.pend, x.2.length = 512 := fun x hx => (hL3.ok.pend x hx).2
      have hAp : ∀ k (hk : k < s.pend.length), ∃ gp, Ap = some ⟨gp, 0, none⟩ ∧ gp < w6.heap.size ∧ w6.rangeAt gp (k * 513) (wcells s.pend[k]) := fun k hk => by
        obtain ⟨gp, cp', e0, _⟩ := own_some hL3.pend (by omega)
        obtain ⟨rfl, rfl⟩ : Ap = some ⟨gp, 0, none⟩ ∧ cp = cp' := by injection e0 with e1 e2 e3; exact ⟨e1, e3⟩
        obtain ⟨cs, hcs⟩ := own_blk hL3.pend
        exact ⟨gp, rfl, Nat.lt_of_lt_of_le (lt_of_block hcs) b6.size, fun j v hv => (b6.cell (p := ⟨gp, _, none⟩) (lt_of_block hcs)).trans (pend_range hL3 k hk j v hv)⟩
      have hlt3 : w3.heap.size ≤ w6.heap.size := b6.size
      have f3 : BlkT w6 w.heap.size 3 [.int .i64 (q : Int)] := (b6.block _ (by omega)).trans e3
      have f4 : BlkT w6 (w.heap.size + 1) 23 [.slice none 0 0] := (b6.block _ (by omega)).trans e4
      have f5 : BlkT w6 (w.heap.size + 1 + 1) 26 [.int .i64 0] := (b6.block _ (by omega)).trans e5
      have hL6 := hL3.on b6
      have bw6 : Below w.heap.size w w6 := bt bw3 b6
      have HAp := Lib.hid hAp
      have h512 := Lib.hid hp512
      clear hAp hp512 d1 c3 e3 e4 e5 b6 hL3 bw3
      refine wpIn_rangeFunc_ownH (n := 8) rfl (by omega) (gf := 58) (lb := #[.pointer (some ⟨w3.heap.size, 0, none⟩)]) rfl trivial (enters_of Try.func58 (by kernel_rfl) rfl)
        (back_stops (8 - 1) (by omega) w6.heap.size w3.heap.size cp Ap s.pend h512.out (by omega) w6 hs6 (Nat.le_refl _) cs6 HAp.out) belowK_t (belowK_b (Nat.le_refl _)) (Below.refl _ _) (fun _ => rfl)
        (fun pre X => Below w6.heap.size w6 X ∧ Hid (∀ y ∈ pre, s.pend[y.1].1 ≠ q))
        (fun c pre X => c = .ret ∧ Hit X w.heap.size q s.pend pre ∧ Below w.heap.size w X)
        (OwnFrom.and (ownFrom_below (Nat.le_refl _) (Nat.le_refl _)) (fun _ _ _ _ hs _ _ => hs))
        (fun c => OwnFrom.and (fun _ _ _ _ hs _ _ => hs) (OwnFrom.and hit_from (ownFrom_below (Nat.le_refl _) bw6.size)))
        ⟨Below.refl _ _, Lib.hid (fun y hy => by cases hy)⟩
        (fun x a' W => ∃ Bx, w6.heap.size ≤ Bx ∧ BlkT W Bx 89 (wcells s.pend[x.1]) ∧ a' = { tmps := #[.pointer (some ⟨g, 0, none⟩), .int .i64 (q : Int), undef, .pointer (some ⟨w.heap.size, 0, none⟩), .pointer (some ⟨w.heap.size + 1, 0, none⟩), .pointer (some ⟨w.heap.size + 1 + 1, 0, none⟩), .int .i64 0, undef, .pointer (some ⟨Bx, 0, none⟩),
          .pointer (some ⟨g, 0, none⟩), .bool false, .pointer (some ⟨g, 0, none⟩), .int .i64 (q : Int), .int .i64 0, .int .i64 0, .bool false, undef, .pointer (some ⟨g, 0, none⟩), .pointer (some ⟨g, 0, none⟩), .pointer (some ⟨g, 1, none⟩), .slice Ap s.pend.length cp, .func (.func 58) #[] #[.pointer (some ⟨w3.heap.size, 0, none⟩)],
          .int .i64 (x.1 : Int), .agg (wcells s.pend[x.1]).toArray, undef, undef, undef, undef, undef, undef, undef, undef, undef], defers := [] })
        (fun x a' _ X Y row hs hg hr => by obtain ⟨Bx, h1, h2, h3⟩ := hs; exact ⟨Bx, h1, blkT_from (β := Unit) Bx _ _ () X Y row h2 hg hr, h3⟩)
        ?assign ?body ?done ?stop
      case assign =>
        rintro l pre x X K ⟨bX, hno⟩ hK
        have hx2 := h512.out _ (List.getElem_mem x.2)
        obtain ⟨y, hy⟩ : ∃ y, y = s.pend[x.1] := ⟨_, rfl⟩
        rw [← hy] at hx2 hK
        unfold encW arrV
        rw [← hy]
        have hyl := wcells_len hx2
        have hszw := wcells_szW hx2
        have hzl : (wcells (0, zero512)).length = (wcells y).length := by rw [hyl, wcells_len (show ((0, zero512) : Wr).2.length = 512 from by simp [zero512])]
        have h1y : ∀ v ∈ wcells y, v.oneCell' = true := wcells_one _
        clear hy
        simp [List.zip_toArray, List.setIfInBounds_toArray]
        gi_wp2_with (first
          | (refine wpListIn_allocT rfl _ rfl (wcells (0, zero512)) zeroW ?_; intro X1 hb1 bX1)
          | (refine wpListIn_storeT rfl _ _ _ rfl rfl (ys := wcells y) rfl hb1 hzl h1y hszw ?_; intro X2 hb2 hg2))
        have b12 : Below X.heap.size X X2 := below_row bX1 hg2 (Nat.le_refl _) bX1.size
        exact hK _ _ ((keeps_below b12).from _) (b12.mono bX.size) ⟨bX.trans (b12.mono bX.size), hno⟩ ⟨X.heap.size, bX.size, hb2, rfl⟩
      case body =>
        rintro l pre x a' X hlw hlr ⟨bX, hno⟩ ⟨Bx, hBx, hb, rfl⟩ hpm
        obtain ⟨y, hy⟩ : ∃ y, y = s.pend[x.1] := ⟨_, rfl⟩
        have hx2 := h512.out _ (List.getElem_mem x.2)
        rw [← hy] at hb hx2
        have hlB : Bx < X.heap.size := lt_of_block hb
        have hcx : X.cell? ⟨Bx, 0, none⟩ = some (.int .i64 (y.1 : Int)) := by
          have := hb.blk.cell (k := 0) (by simp [wcells])
          simpa [wcells] using this
        have hcq : X.cell? ⟨w.heap.size, 0, none⟩ = some (.int .i64 (q : Int)) := cell_of_one ((bX.block _ (by omega)).trans f3)
        have g4 : Boxed X (w.heap.size + 1) 23 (.slice none 0 0) := (bX.block _ (by omega)).trans f4
        have g5 : Boxed X (w.heap.size + 1 + 1) 26 (.int .i64 0) := (bX.block _ (by omega)).trans f5
        have bwX : Below w.heap.size w X := bw6.trans (bX.mono bw6.size)
        have Hy := Lib.hid hy
        simp only [← hy]
        clear hy f3 f4 f5 HAp hL6 cs6
        by_cases hq : y.1 = q
        · have hnn : ((y.1 : Int) != (q : Int)) = false := by simp [hq]
          have hc4 := g4.cell
          have hv4 := g4.frozen
          have g5' := g5.other (B' := w.heap.size + 1) (by omega) (.slice (some ⟨Bx, 1, none⟩) 512 512)
          have hc5 := g5'.cell
          have hv5 := g5'.frozen
          have hb' : BlkT (X.setCell ⟨w.heap.size + 1, 0, none⟩ (.slice (some ⟨Bx, 1, none⟩) 512 512)) Bx 89 (wcells y) := ((grownBy_setCell' X (w.heap.size + 1) _).block Bx hlB (by simp; omega)).trans hb
          have hb'' : BlkT ((X.setCell ⟨w.heap.size + 1, 0, none⟩ (.slice (some ⟨Bx, 1, none⟩) 512 512)).setCell ⟨w.heap.size + 1 + 1, 0, none⟩ (.int .i64 0)) Bx 89 (wcells y) := ((grownBy_setCell' _ (w.heap.size + 1 + 1) _).block Bx (lt_of_block hb') (by simp; omega)).trans hb'
          have h4' := (g4.set (.slice (some ⟨Bx, 1, none⟩) 512 512)).other (B' := w.heap.size + 1 + 1) (by omega) (.int .i64 0)
          have h5' := g5'.set (.int .i64 0)
          have hk : KeepsOthers X ((X.setCell ⟨w.heap.size + 1, 0, none⟩ (.slice (some ⟨Bx, 1, none⟩) 512 512)).setCell ⟨w.heap.size + 1 + 1, 0, none⟩ (.int .i64 0)) :=
            (keeps_row (grownBy_setCell' X (w.heap.size + 1) _) (BlkT.blk g4)).trans (keeps_row (grownBy_setCell' _ (w.heap.size + 1 + 1) _) (BlkT.blk g5'))
          have hbw := (bwX.setCell (p := ⟨w.heap.size + 1, 0, none⟩) (by show w.heap.size ≤ w.heap.size + 1; omega) (.slice (some ⟨Bx, 1, none⟩) 512 512)).setCell (p := ⟨w.heap.size + 1 + 1, 0, none⟩) (by show w.heap.size ≤ w.heap.size + 1 + 1; omega) (.int .i64 0)
          gi_wp2_with fail
          refine ⟨hk.from _, rfl, ⟨pre, x, Bx, rfl, hno.out, by rw [← Hy.out]; exact hq, by omega, h4', h5', by rw [← Hy.out]; exact hb''⟩, hbw⟩
        · have hnn : ((y.1 : Int) != (q : Int)) = true := by simp; omega
          gi_wp2_with fail
          refine ⟨(keeps_below (Below.refl _ _)).from _, Below.refl _ _, bX, Lib.hid (fun z hz => ?_)⟩
          rcases List.mem_append.1 hz with hz | hz
          · exact hno.out z hz
          · obtain rfl := List.mem_singleton.1 hz
            rw [← Hy.out]; exact hq
      case done =>
        rintro D ys X hD rfl ⟨bX, hno⟩ hKD
        have hDX : D < X.heap.size := lt_of_block hKD
        have hno2 : ∀ j, j < s.pend.length → ∀ (h : s.pend.length - 1 - j < s.pend.length), s.pend[s.pend.length - 1 - j].1 ≠ q := fun j hj h => hno.out ⟨s.pend.length - 1 - j, h⟩ (by simp [bkAll])
        have Hkn := Lib.hid (kept_none s.all s.pend q hno2)
        have g4 : Boxed X (w.heap.size + 1) 23 (.slice none 0 0) := (bX.block _ (by omega)).trans f4
        have g5 : Boxed X (w.heap.size + 1 + 1) 26 (.int .i64 0) := (bX.block _ (by omega)).trans f5
        have hcq : X.cell? ⟨w.heap.size, 0, none⟩ = some (.int .i64 (q : Int)) := cell_of_one ((bX.block _ (by omega)).trans f3)
        have bwX : Below w.heap.size w X := bw6.trans (bX.mono bw6.size)
        have Dx : DAt X g fp s := ⟨_, _, _, _, hL6.on bX⟩
        have hwX : w6.heap.size ≤ X.heap.size := bX.size
        clear hno2 f3 f4 f5 HAp hL6 cs6 hno bX
        gi_wp2_with fail
        refine ⟨trivial, (callsIn_wide.2 (Hka.out _ Dx)).mono ?_⟩
        rintro e w8 ⟨v8, rfl, hn8, b8⟩
        have hn9 := hn8
        obtain ⟨A8, c8, rfl, _⟩ := hn9
        have h84 : Boxed w8 (w.heap.size + 1) 23 (.slice none 0 0) := (b8.block _ (by omega)).trans g4
        have h85 : Boxed w8 (w.heap.size + 1 + 1) 26 (.int .i64 0) := (b8.block _ (by omega)).trans g5
        have h8D : w8.heap[D]? = some (.deferred (some [])) := (b8.block _ hDX).trans hKD
        have bw8 : Below w.heap.size w w8 := bwX.trans (b8.mono bwX.size)
        have hsz8 : X.heap.size ≤ w8.heap.size := b8.size
        clear g4 g5 hcq Dx hKD b8 bwX
        have hc4 := h84.cell
        have hv4 := h84.frozen
        have g5' := h85.other (B' := w.heap.size + 1) (by omega) (.slice A8 (kept s.all q).length c8)
        have hc5 := g5'.cell
        have hv5 := g5'.frozen
        gi_wp2_with fail
        have s1 := grownBy_setCell' w8 (w.heap.size + 1) (.slice A8 (kept s.all q).length c8)
        obtain ⟨wa, hwa⟩ : ∃ wa, wa = w8.setCell ⟨w.heap.size + 1, 0, none⟩ (.slice A8 (kept s.all q).length c8) := ⟨_, rfl⟩
        have h94 : Boxed wa (w.heap.size + 1) 23 (.slice A8 (kept s.all q).length c8) := by rw [hwa]; exact h84.set _
        have hba : Below w.heap.size w wa := by rw [hwa]; exact bw8.setCell (p := ⟨w.heap.size + 1, 0, none⟩) (by show w.heap.size ≤ w.heap.size + 1; omega) _
        have hka : ∀ b, b ≠ w.heap.size + 1 → b < w8.heap.size → wa.heap[b]? = w8.heap[b]? := fun b hb hl => by rw [hwa]; exact s1.block b hl (by simp; omega)
        have hza : wa.heap.size = w8.heap.size := by rw [hwa]; simp
        rw [← hwa] at g5' ⊢
        clear hwa s1 hc4 hv4 hc5 hv5 h84 h85
        have s2 := grownBy_setCell' wa (w.heap.size + 1 + 1) (.int .i64 0)
        obtain ⟨wb, hwb⟩ : ∃ wb, wb = wa.setCell ⟨w.heap.size + 1 + 1, 0, none⟩ (.int .i64 0) := ⟨_, rfl⟩
        have h95 : Boxed wb (w.heap.size + 1 + 1) 26 (.int .i64 0) := by rw [hwb]; exact g5'.set _
        have h96 : Boxed wb (w.heap.size + 1) 23 (.slice A8 (kept s.all q).length c8) := by rw [hwb]; exact h94.other (by omega) _
        have hbb : Below w.heap.size w wb := by rw [hwb]; exact hba.setCell (p := ⟨w.heap.size + 1 + 1, 0, none⟩) (by show w.heap.size ≤ w.heap.size + 1 + 1; omega) _
        have hkb : ∀ b, b ≠ w.heap.size + 1 → b ≠ w.heap.size + 1 + 1 → b < w8.heap.size → wb.heap[b]? = w8.heap[b]? := fun b hb hb2 hl => by rw [hwb]; exact (s2.block b (by omega) (by simp; omega)).trans (hka b hb hl)
        have hzb : wb.heap.size = w8.heap.size := by rw [hwb]; simp [hza]
        rw [← hwb]
        clear hwb s2 g5' h94 hba hka hza
        have hKb : wb.heap[D]? = some (.deferred (some [])) := (hkb D (by omega) (by omega) (by omega)).trans h8D
        have hc4 : ((wb.putObj D (.deferred none))).cell? ⟨w.heap.size + 1, 0, none⟩ = some (.slice A8 (kept s.all q).length c8) :=
          (World.cell?_of_block (World.putObj_heap_other (by dsimp only; omega))).trans h96.cell
        have hc5 : ((wb.putObj D (.deferred none))).cell? ⟨w.heap.size + 1 + 1, 0, none⟩ = some (.int .i64 0) :=
          (World.cell?_of_block (World.putObj_heap_other (by dsimp only; omega))).trans h95.cell
        rw [Exit.noGoto_ret]
        refine ⟨by simp, .inl ⟨_, _, rfl, run_takeDeferred hKb, ?_⟩⟩
        refine ⟨.tuple #[.slice A8 (kept s.all q).length c8, .int .i64 0], (by simp [results, Try.results28, go_sem, hc4, hc5]), ?_⟩
        refine ⟨_, rfl, ?_, hbb.trans (belowK_b (w := w) (Nat.le_refl _) _ D _ _ (by omega) hKb rfl rfl)⟩
        rw [Hkn.out]
        exact hn8.move (by omega) (fun b h1 h2 => (World.putObj_heap_other (by omega)).trans (hkb b (by omega) (by omega) h2)) (by simp; omega)
      case stop =>
        rintro D c pre X hD hpre ⟨rfl, hit, hB⟩ hKD
        obtain ⟨k, hk, hpk⟩ := hpre
        obtain ⟨pre0, x, bx, rfl, hno, hxq, hbx, h4, h5, hb⟩ := hit
        have Hkp := Lib.hid (hit_kept s.all s.pend q k hk pre0 x hpk hno hxq)
        have hc4 : ((X.putObj D (.deferred none))).cell? ⟨w.heap.size + 1, 0, none⟩ = some (.slice (some ⟨bx, 1, none⟩) 512 512) :=
          (World.cell?_of_block (World.putObj_heap_other (by dsimp only; omega))).trans (cell_of_one h4)
        have hc5 : ((X.putObj D (.deferred none))).cell? ⟨w.heap.size + 1 + 1, 0, none⟩ = some (.int .i64 0) :=
          (World.cell?_of_block (World.putObj_heap_other (by dsimp only; omega))).trans (cell_of_one h5)
        have hne : bx ≠ D := fun e => by
          rw [e] at hb
          rw [show X.heap[D]? = _ from hb] at hKD
          cases hKD
        have hb2 : BlkT (X.putObj D (.deferred none)) bx 89 (wcells s.pend[x.1]) := (World.putObj_heap_other hne).trans hb
        have hx2 := h512.out _ (List.getElem_mem x.2)
        clear hpk hno hb
        gi_wp2_with fail
        rw [Exit.noGoto_ret]
        refine ⟨by simp, .inl ⟨_, _, rfl, run_takeDeferred hKD, ?_⟩⟩
        refine ⟨.tuple #[.slice (some ⟨bx, 1, none⟩) 512 512, .int .i64 0], (by simp [results, Try.results28, go_sem, hc4, hc5]), ?_⟩
        refine ⟨_, rfl, ?_, hB.trans (belowK_b (w := w) (Nat.le_refl _) _ D _ _ (by omega) hKD rfl rfl)⟩
        rw [Hkp.out]
        exact new8_wait hbx hb2 hx2
end Go.Proofs.Ytkapamolligmkaa.Disk
