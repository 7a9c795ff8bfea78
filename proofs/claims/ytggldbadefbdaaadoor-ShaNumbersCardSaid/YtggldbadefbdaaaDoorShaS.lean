/- The walks of sha.First, sha.Pad, sha.Sum. -/
import Derived.Test.YtggldbadefbdaaaDoorShaB
import Derived.Test.YtggldbadefbdaaaDoorArr2
import Derived.Test.YtggldbadefbdaaaDoorCat
import Derived.Test.YtggldbadefbdaaaDoorChunk
namespace Go.Proofs.YtggldbadefbdaaaDoor.Sha
open Go.RowKit Go.Shelf Go.Proofs.YtggldbadefbdaaaDoor.Ch
set_option linter.unusedVariables false
set_option maxRecDepth 100000
attribute [local go_sem] Oper.semAt_some

set_option maxHeartbeats 400000 in
theorem first_any (w : World) : Calls Tryd.prog 25 #[] w fun e w' => e = .returned (h8V first) ∧ Below w.heap.size w w' := by
  go_enter Tryd.func25, Tryd.ntmps25
  go_wp2_with (first
    | (refine wpList_allocN rfl _ rfl (vw (List.replicate 8 0)) zero23 ?_; intro w1 hb1 bw1 hs1)
    | (refine wpList_run rfl (h8V first) rfl ?_)
    | (refine wpList_storeN rfl _ _ _ rfl rfl (ys := first.vals) rfl hb1 rfl (vw_one _) size23 ?_; intro w2 hb2 hg2))
  exact bodyPost_ret (v := h8V first) (results_arr Tryd.results25 _ hb2 Tryd.underlying23 size23 rfl) rfl ⟨rfl, below_row bw1 hg2 (Nat.le_refl _) bw1.size⟩
/-- what Pad tells, of any number -/
def padZ (n : Int) : List UInt8 := if 0 ≤ n ∧ n ≤ 1099511627776 then padB n.toNat else []
set_option maxHeartbeats 400000 in
theorem pad_any (n : Nat) (m : Int) (hm : m = (n : Int)) (h : n ≤ 1099511627776) (w : World) : Calls Tryd.prog 15 #[.int .i64 m] w fun e w' => RetB 5 w (padB n) e w' := by
  subst hm
  obtain ⟨i0, hi0, hz0, hz1, hz2⟩ := info_parts Num.info8
  have h0 : ((n : Int) < 0) = False := by simp
  obtain ⟨z, hz⟩ : ∃ z, z = (119 - n % 64) % 64 := ⟨_, rfl⟩
  have hz64 : z < 64 := by omega
  have hzz : ((119 - (n : Int) % 64) % 64) = (z : Int) := by omega
  have Hz := Lib.hid hz
  clear hz
  go_enter Tryd.func15, Tryd.ntmps15
  go_wp2_with (first
    | (refine wpList_makeN rfl _ _ _ rfl Tryd.underlying24 hi0 hz0 hz1 (1 + z) (9 + z) rfl (by omega) rfl (by omega) (by omega) (by rw [hz2]; omega) (by unfold maxLen; omega) ?_; intro w1 hown1 bw1 hs1; have hcell : w1.cell? ⟨w.heap.size, 0, none⟩ = some (.int .u8 0) := (by rw [World.ownsRow.cellAt hown1 0 (by omega), List.getElem?_replicate, if_pos (by omega)]); have hfr := World.ownsRow.frozenAt hown1 0)
    | fail)
  have hset := (World.ownsRow.stored hown1 0 (.int .u8 128)).1
  have bw2 := bset_new bw1 0 (.int .u8 128)
  have hu : ((UInt64.ofNat (8 * n)).toNat : Int) = (n : Int) * 8 := by rw [UInt64.toNat_ofNat']; omega
  have hu' : (UInt64.ofNat (8 * n)).toNat = 8 * n := by rw [UInt64.toNat_ofNat']; omega
  refine (Num.put_any (UInt64.ofNat (8 * n)) _ hu.symm 8 _ rfl (by omega) (by omega) _).mono ?_
  rw [hu']
  rintro e w3 ⟨A3, c3, rfl, hown3, bw3⟩
  clear hu hu' hcell hfr
  have hl3 := Num.putL_len (8 * n) 8
  rw [hl3] at hown3
  have Hl3 := Lib.hid hl3
  clear hl3
  have hs2 : w.heap.size < (w1.setCell ⟨w.heap.size, 0, none⟩ (.int .u8 128)).heap.size := by simpa [World.setCell] using hs1
  have hset3 := own_on hset bw3
  have bw4 := bt bw2 bw3
  go_wp2_with (at_builtin; refine wpList_append_rd _ rfl _ _ _ rfl w.heap.size 5 i0 _ 1 1 Tryd.underlying24 hi0 hz0 hz1 hz2 rfl (by omega) _ (1 + z) _ rfl hset3 _ A3 8 c3 ((Num.putL (8 * n) 8).map e8) rfl (by simp [Hl3.out]) (Rd.own hown3) (e8_one _) (by simp only [maxLen]; omega) (by omega) bw4.size ?_; intro v5 w5 hown5 hg5 hat5)
  go_ret
  have hlist : (List.replicate (1 + z) (Value.int .u8 0)).set 0 (.int .u8 128) ++ (Num.putL (8 * n) 8).map e8 = (padB n).map e8 := by
    rw [show 1 + z = z + 1 by omega, List.replicate_succ, List.set_cons_zero, padB, ← Hz.out]; simp
  rw [hlist] at hown5
  exact RetB.mk hown5 rfl (bw4.grown hg5 bw4.size (fun k hk => own_block hset3 hk))
def foldT (all : List UInt8) {m : Nat} (pre : List (Fin m)) : H8 := pre.foldl (fun h x => block h (blk all x.1)) first
theorem foldT_snoc (all : List UInt8) {m : Nat} (pre : List (Fin m)) (x : Fin m) : foldT all (pre ++ [x]) = block (foldT all pre) (blk all x.1) := by simp [foldT]
theorem foldT_take (all : List UInt8) {m : Nat} : ∀ k, k ≤ m → foldT all ((List.finRange m).take k) = turned all k
  | 0, _ => rfl
  | k + 1, h => by rw [fin_take (show k < m by omega), foldT_snoc, foldT_take all k (by omega)]; rfl
theorem foldT_all (all : List UInt8) (m : Nat) : foldT all (List.finRange m) = turned all m := by
  rw [← foldT_take all m (Nat.le_refl _), List.take_of_length_le (by simp)]
/-- the words as bytes, while the first k are written -/
def outK (s : H8) (k : Nat) : List UInt8 := (s.list.take k).flatMap fun x => Num.putL x.toNat 4
theorem outK_all (s : H8) : outK s 8 = out8 s := rfl
theorem outK_len (s : H8) (k : Nat) (h : k ≤ 8) : (outK s k).length = 4 * k := by
  have : ∀ l : List UInt32, (l.flatMap fun x => Num.putL x.toNat 4).length = 4 * l.length := by
    intro l
    induction l with
    | nil => rfl
    | cons a l ih => rw [List.flatMap_cons, List.length_append, ih, Num.putL_len, List.length_cons]; omega
  rw [outK, this, List.length_take, H8.list_len]; omega
theorem outK_succ (s : H8) (k : Nat) (h : k < 8) : outK s (k + 1) = outK s k ++ Num.putL (s.list.getD k 0).toNat 4 := by
  unfold outK
  rw [List.take_succ_eq_append_getElem (by rw [H8.list_len]; exact h), List.flatMap_append]
  have hk' : k < s.list.length := by rw [H8.list_len]; exact h
  simp [List.getD, List.getElem?_eq_getElem hk']
theorem index23 (s : H8) (k : Nat) (hk : k < 8) (w : World) : (Instr.index 23 (arrV s.vals) (.int .i64 (k : Int))).run Tryd.prog w = .ok (e32 (s.list.getD k 0)) w := by
  have hk' : k < s.list.length := by rw [H8.list_len]; exact hk
  exact run_index_ints (P := Tryd.prog) (n := 8) (k := .i64) Tryd.underlying23 Tryd.underlying22 (by kernel_rfl) hk (by simp [H8.vals, vw, List.getD, List.getElem?_eq_getElem hk']) w
set_option maxHeartbeats 1000000 in
theorem sum_any (A : Option Addr) (l : List UInt8) (n c : Nat) (w : World) (hn : n = l.length) (hr : Rd w w.heap.size A (l.map e8)) (hl : l.length ≤ 1000000000) (hk : Tab w) :
    Calls Tryd.prog 22 #[.slice A n c] w fun e w' => RetB 5 w (sum l) e w' := by
  subst hn
  refine (callsIn_wide (n := 8)).1 ?_
  refine callsIn_of_wp_marks Tryd.func22 rfl trivial ?_ rfl
  simp only [Tryd.ntmps22, List.size_toArray, List.length_cons, List.length_nil, Nat.reduceAdd, Nat.reduceSub, Array.replicate_succ, Array.replicate_zero, List.push_toArray, List.append_toArray, List.nil_append, List.cons_append]
  gi_wp2_with fail
  refine ⟨trivial, (callsIn_wide.2 (first_any w)).mono ?_⟩
  rintro e w1 ⟨rfl, bw1⟩
  gi_wp2_with (first
    | (refine wpListIn_allocN rfl _ rfl (vw (List.replicate 8 0)) zero23 ?_; intro w2 hb2 bw2 hs2)
    | (refine wpListIn_storeN rfl _ _ _ rfl rfl (ys := first.vals) rfl hb2 rfl (vw_one _) size23 ?_; intro w3 hb3 hg3)
    | fail)
  have bt2 := bt bw1 bw2
  have bt3 := below_row bt2 hg3 bw1.size bt2.size
  refine ⟨trivial, (callsIn_wide.2 (pad_any l.length _ rfl (by omega) w3)).mono ?_⟩
  rintro e w4 ⟨A4, c4, rfl, own4, bw4⟩
  have bt4 := bt bt3 bw4
  have h4 := hb3.on bw4
  gi_wp2_with fail
  have hcat : Cat.cat [⟨A, l, c⟩, ⟨A4, padB l.length, c4⟩] = whole l := by simp [Cat.cat, whole]
  have hpl := padB_le l.length
  have hwl : (whole l).length ≤ 1000000072 := by rw [whole, List.length_append]; omega
  have hlt4 : w1.heap.size < w4.heap.size := Nat.lt_of_lt_of_le hb3.lt bw4.size
  have hcc := Cat.concat_any w4.heap.size [⟨A, l, c⟩, ⟨A4, padB l.length, c4⟩] 2 2 (w4.alloc (.cells #[.slice A l.length c, .slice A4 (padB l.length).length c4] 24)) rfl (by simp)
    (by intro k hk
        match k, hk with
        | 0, _ => simp [Cat.Pc.val]
        | 1, _ => simp [Cat.Pc.val])
    (by intro p hp
        simp only [List.mem_cons, List.not_mem_nil, or_false] at hp
        rcases hp with rfl | rfl
        · exact (hr.on bt4).on (b1alloc _ _)
        · exact (Rd.own own4).on (b1alloc _ _))
    (by unfold Cat.lens; rw [hcat]; omega) (by simp)
  rw [hcat] at hcc
  refine ⟨trivial, (callsIn_wide.2 hcc).mono ?_⟩
  clear hcc
  rintro e w5 ⟨A5, c5, rfl, own5, bw5⟩
  have h5 := (h4.alloc (.cells #[.slice A l.length c, .slice A4 (padB l.length).length c4] 24)).on bw5
  have bt5 := bt (bt bt4 (b1alloc w4 (.cells #[.slice A l.length c, .slice A4 (padB l.length).length c4] 24))) bw5
  obtain ⟨m, hm⟩ : ∃ m, (whole l).length = 64 * m := ⟨(whole l).length / 64, by have := whole_mod l; omega⟩
  have hm0 : 0 < m := by
    rcases Nat.eq_zero_or_pos m with h | h
    · subst h; simp [whole, padB] at hm
    · exact h
  obtain ⟨g5, rfl, hg5, hc5, hcm5, hrd5⟩ : ∃ g, A5 = some ⟨g, 0, none⟩ ∧ w4.heap.size < g ∧ 64 * m ≤ c5 ∧ c5 ≤ maxLen ∧ Rd w5 w5.heap.size (some ⟨g, 0, none⟩) ((whole l).map e8) := by
    have hcap := own_cap own5
    have hrd := Rd.own own5
    rcases own5.2 with ⟨hv, hn⟩ | ⟨g, cap, cur, hv, hg, _⟩
    · omega
    · injection hv with hA _ _
      subst hA
      simp at hg
      exact ⟨g, rfl, by omega, by omega, hcap.2, hrd⟩
  have hg5s : g5 < w5.heap.size := by
    obtain ⟨b, off, hb, hlt, _⟩ := hrd5 (by intro e; have h0 := congrArg List.length e; rw [List.length_map, hm] at h0; simp at h0; omega)
    cases hb; exact hlt
  rw [hm]
  clear own5 own4
  gi_wp2_with fail
  refine ⟨trivial, (callsIn_wide.2 (chunk_any _ _ _ w5)).mono ?_⟩
  rintro e w6 ⟨rfl, cs6, cn6, bw6, hs6⟩
  have h6 := h5.on bw6
  have bt6 := bt bt5 bw6
  have hrd6 := hrd5.on bw6
  have hB05 := h5.lt
  have hsz6 := bw6.size
  have hg56 : w1.heap.size < g5 := by omega
  gi_wp2_with fail
  refine wpIn_rangeFunc_ownF (n := 8) rfl (by omega) (gf := 68) (lb := #[.pointer (some ⟨w5.heap.size, 0, none⟩), .pointer (some ⟨w5.heap.size + 1, 0, none⟩)]) rfl trivial (enters_of Tryd.func68 (by kernel_rfl) rfl)
    (chunk_stops (KpX w1.heap.size w6.heap.size) (8 - 1) (by omega) w5.heap.size (w5.heap.size + 1) g5 0 m c5 (by omega) hc5 hcm5 w6 (by omega) (by omega) (fun W W' h => h.cell (by omega) (by omega) 0) (fun W W' h => h.cell (by omega) (by omega) 0) cs6 cn6)
    (fun h k => KpX.trans h k) (fun W l o o' hl h _ _ => KpX.turn W l o' hl) (Below.refl _ _) (fun _ => rfl)
    (fun pre W => (Blk W w1.heap.size (foldT (whole l) pre).vals ∧ KpX w1.heap.size w6.heap.size w6 W) ∧ Below w.heap.size w W)
    (fun _ _ _ => False)
    (OwnFrom.and (fun s A B row hs hg hr => ⟨hs.1.grown hg (fun e => by
        obtain ⟨t, ht⟩ := hs.1
        obtain ⟨_, o, ho, hc⟩ := hr _ e.symm
        rw [ht] at ho; cases ho; cases hc), hs.2.trans ⟨hg.size, fun j hj hn => hg.block j (Nat.lt_of_lt_of_le hj hs.2.1) (fun e => by have := (hr _ e.symm).1; omega)⟩⟩) (ownFrom_below (Nat.le_refl _) bt6.size))
    (fun _ _ _ _ _ hs _ _ => hs)
    ⟨⟨h6, KpX.refl _ _ _⟩, bt6⟩
    (fun x => { tmps := #[.slice A l.length c, undef, .slice none 0 0, .pointer (some ⟨w1.heap.size, 0, none⟩), Ch.part g5 0 x.1, undef, undef, h8V first, .slice A l.length c, .slice A l.length c, .int .i64 l.length,
      .slice A4 (padB l.length).length c4, .slice (some ⟨w4.heap.size, 0, none⟩) 2 2, .slice (some ⟨g5, 0, none⟩) (64 * m) c5, .func (.func 68) #[] #[.pointer (some ⟨w5.heap.size, 0, none⟩), .pointer (some ⟨w5.heap.size + 1, 0, none⟩)],
      Ch.part g5 0 x.1, undef, undef, undef, undef, undef, undef, undef, undef, undef, undef, undef, undef, undef, undef], defers := [] }) ?assign ?body ?done ?stop
  case assign =>
    intro l x W K hK
    gi_wp2
    exact hK
  case body =>
    rintro l' pre x W ⟨⟨hb, hkp⟩, hB⟩ _
    obtain ⟨R, hR⟩ : ∃ R, R = foldT (whole l) pre := ⟨_, rfl⟩
    rw [← hR] at hb
    have hsz : w6.heap.size ≤ W.heap.size := hkp.1
    have hxm := x.2
    have hlx : (blk (whole l) x.1).length = 64 := by rw [blk, List.length_take, List.length_drop]; omega
    have hrd : Rd W W.heap.size (some ⟨g5, 0 + 64 * x.1, none⟩) ((blk (whole l) x.1).map e8) := by
      have h1 := ((Ch.Rd.keepX (A := none) hrd6 hkp (by omega)).more hsz).drop (64 * x.1)
      simp only [Option.map_some, Addr.add_lit] at h1
      rw [blk, List.map_take, List.map_drop]
      exact h1.take 64
    have hbk := block_any R (some ⟨g5, 0 + 64 * x.1, none⟩) (blk (whole l) x.1) 64 64 W hlx.symm (Nat.le_refl _) (by unfold maxLen; omega) hrd (hk.on hB)
    have HR := Lib.hid (show foldT (whole l) (pre ++ [x]) = block R (blk (whole l) x.1) by rw [foldT_snoc, hR])
    clear hR hlx hrd
    obtain ⟨S, hS⟩ : ∃ S, S = block R (blk (whole l) x.1) := ⟨_, rfl⟩
    rw [← hS] at hbk HR
    clear hS
    gi_wp2_with (first
      | (refine wpListIn_loadA rfl _ _ rfl rfl hb Tryd.underlying23 size23 ?_)
      | fail)
    refine ⟨trivial, (CallsIn.inRound l' (callsIn_wide.2 hbk)).mono ?_⟩
    rintro e W2 ⟨rfl, bw2⟩
    have hb2 := hb.on bw2
    gi_wp2_with (first
      | (refine wpListIn_storeN rfl _ _ _ rfl rfl (ys := S.vals) rfl hb2 rfl (vw_one _) size23 ?_; intro W3 hb3 hg3)
      | fail)
    have k2 : KpX w1.heap.size w6.heap.size W W2 := KpX.of_below bw2 hsz
    have k3 : KpX w1.heap.size w6.heap.size W2 W3 := KpX.of_row hg3 (Nat.le_trans hsz bw2.size)
    have hbl2 := bt hB bw2
    exact ⟨(keeps_below bw2).trans (keeps_row hg3 hb2), k2.trans k3, ⟨by rw [HR.out]; exact hb3, hkp.trans (k2.trans k3)⟩, below_row hbl2 hg3 bw1.size hbl2.size⟩
  case done =>
    rintro D ys W hD rfl ⟨⟨hb, hkp⟩, hB⟩ hKD
    rw [foldT_all] at hb
    have hres : sum l = out8 (turned (whole l) m) := by rw [sum, hm, Nat.mul_div_cancel_left _ (by omega)]
    obtain ⟨S, hS⟩ : ∃ S, S = turned (whole l) m := ⟨_, rfl⟩
    rw [← hS] at hb hres
    have Hres := Lib.hid hres
    clear hS hres hkp
    have hDlt : D < W.heap.size := (Array.getElem?_eq_some_iff.1 hKD).1
    obtain ⟨i0, hi0, hz0, hz1, hz2⟩ := info_parts Num.info8
    gi_wp2_with (first
      | (refine wpListIn_loadA rfl _ _ rfl rfl hb Tryd.underlying23 size23 ?_)
      | fail)
    gi_loopw [2, 20] (fun v i wr => ∃ k : Nat, k ≤ 8 ∧ i = .int .i64 k ∧ wr.ownsRow W.heap.size 5 1 v (4 * k) ((outK S k).map e8) ∧ Below W.heap.size W wr) (fun _ i _ => 8 - (intOf i).toNat)
    case atStart => exact ⟨0, by omega, rfl, own_nil _ _ _ _, Below.refl _ _⟩
    case round =>
      obtain ⟨k, hk8, rfl, hown, bel⟩ := hrel
      by_cases hlt : k < 8
      · have hix := index23 S k hlt
        have Hs := Lib.hid (outK_succ S k hlt)
        obtain ⟨y, hy⟩ : ∃ y, y = S.list.getD k 0 := ⟨_, rfl⟩
        rw [← hy] at hix Hs
        clear hy
        have hu := UInt64.toNat_ofNat' (n := y.toNat)
        have hy32 := y.toNat_lt
        have hu' : (UInt64.ofNat y.toNat).toNat = y.toNat := by omega
        have hcv : c32 y = ((UInt64.ofNat y.toNat).toNat : Int) := by unfold c32; omega
        have y0 := c32_lo y
        have y1 := c32_hi y
        have hpt := Num.put_any (UInt64.ofNat y.toNat) (c32 y) hcv 4 4 rfl (by omega) (by omega) wr
        rw [hu'] at hpt
        clear hu hu' hcv
        have hl4 := Num.putL_len y.toNat 4
        obtain ⟨p, hp⟩ : ∃ p, p = Num.putL y.toNat 4 := ⟨_, rfl⟩
        rw [← hp] at hpt hl4 Hs
        clear hp
        gi_wp2_with fail
        refine ⟨trivial, (callsIn_wide.2 hpt).mono ?_⟩
        clear hpt
        rintro e w8 ⟨A8, c8, rfl, own8, bw8⟩
        rw [hl4] at own8 ⊢
        have Hl4 := Lib.hid hl4
        clear hl4
        have hown8 := own_on hown bw8
        have bel8 := bt bel bw8
        gi_wp2_with (gi_at_builtin; refine wpListIn_append_rd _ rfl _ _ _ rfl W.heap.size 5 i0 _ 1 1 Tryd.underlying24 hi0 hz0 hz1 hz2 rfl (by omega) _ (4 * k) _ rfl hown8 _ A8 4 c8 (p.map e8) rfl (by simp [Hl4.out]) (Rd.own own8) (e8_one _) (by simp only [maxLen]; omega) (by omega) bel8.size ?_; intro v9 w9 hown9 hg9 hat9)
        go_roundw
        case rel => exact ⟨k + 1, by omega, by go_num, by rw [Hs.out, List.map_append]; exact hown9, bel8.grown hg9 bel8.size (fun g hg => own_block hown8 hg)⟩
        case measure => simp [intOf]; omega
      · obtain rfl : k = 8 := by omega
        rw [outK_all] at hown
        have hKD' : wr.heap[D]? = some (.deferred (some [])) := (bel.block D hDlt).trans hKD
        have hBw := hB.trans (bel.mono hB.size)
        gi_wp2
        refine ⟨by simp, .inl ⟨_, _, rfl, run_takeDeferred hKD', ?_⟩⟩
        refine ⟨_, results_tmp rfl _ _ _, ?_⟩
        rw [Hres.out]
        exact RetB.mk (own_base (ownsRow_putObj hown _ hKD' rfl) hB.size) rfl (hBw.trans (belowK_b (w := w) (Nat.le_refl _) wr D _ _ (by have := bt6.size; omega) hKD' rfl rfl))
  case stop =>
    rintro D c pre W _ _ h _
    exact h.elim
end Go.Proofs.YtggldbadefbdaaaDoor.Sha
