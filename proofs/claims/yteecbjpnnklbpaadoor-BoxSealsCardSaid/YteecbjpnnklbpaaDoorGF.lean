/- Texts of this claim, joined: ShaS, ShaA, ShaR, ShaR2, ShaR3. -/
import Derived.Test.YteecbjpnnklbpaaDoorGE
import Derived.Test.YteecbjpnnklbpaaDoorGA
/- The walks of sha.First, sha.Pad, sha.Sum. -/
namespace Go.Proofs.YteecbjpnnklbpaaDoor.Sha
open Go.RowKit Go.Shelf Go.Proofs.YteecbjpnnklbpaaDoor.Ch
set_option linter.unusedVariables false
set_option maxRecDepth 100000
attribute [local go_sem] Oper.semAt_some

set_option maxHeartbeats 400000 in
theorem first_any (w : World) : Calls Tryd.prog 96 #[] w fun e w' => e = .returned (h8V first) ∧ Below w.heap.size w w' := by
  go_enter Tryd.func96, Tryd.ntmps96
  go_wp2_with (first
    | (refine wpList_allocN rfl _ rfl (vw (List.replicate 8 0)) zero23 ?_; intro w1 hb1 bw1 hs1)
    | (refine wpList_run rfl (h8V first) rfl ?_)
    | (refine wpList_storeN rfl _ _ _ rfl rfl (ys := first.vals) rfl hb1 rfl (vw_one _) size23 ?_; intro w2 hb2 hg2))
  exact bodyPost_ret (v := h8V first) (results_arr Tryd.results96 _ hb2 Tryd.underlying98 size23 rfl) rfl ⟨rfl, below_row bw1 hg2 (Nat.le_refl _) bw1.size⟩
/-- what Pad tells, of any number -/
def padZ (n : Int) : List UInt8 := if 0 ≤ n ∧ n ≤ 1099511627776 then padB n.toNat else []
set_option maxHeartbeats 400000 in
theorem pad_any (n : Nat) (m : Int) (hm : m = (n : Int)) (h : n ≤ 1099511627776) (w : World) : Calls Tryd.prog 98 #[.int .i64 m] w fun e w' => RetB 5 w (padB n) e w' := by
  subst hm
  obtain ⟨i0, hi0, hz0, hz1, hz2⟩ := info_parts Num.info8
  have h0 : ((n : Int) < 0) = False := by simp
  obtain ⟨z, hz⟩ : ∃ z, z = (119 - n % 64) % 64 := ⟨_, rfl⟩
  have hz64 : z < 64 := by omega
  have hzz : ((119 - (n : Int) % 64) % 64) = (z : Int) := by omega
  have Hz := Lib.hid hz
  clear hz
  go_enter Tryd.func98, Tryd.ntmps98
  go_wp2_with (first
    | (refine wpList_makeN rfl _ _ _ rfl Tryd.underlying37 hi0 hz0 hz1 (1 + z) (9 + z) rfl (by omega) rfl (by omega) (by omega) (by rw [hz2]; omega) (by unfold maxLen; omega) ?_; intro w1 hown1 bw1 hs1; have hcell : w1.cell? ⟨w.heap.size, 0, none⟩ = some (.int .u8 0) := (by rw [World.ownsRow.cellAt hown1 0 (by omega), List.getElem?_replicate, if_pos (by omega)]); have hfr := World.ownsRow.frozenAt hown1 0)
    | fail)
  have hset := (World.ownsRow.stored hown1 0 (.int .u8 128)).1
  have bw2 := bset_new bw1 0 (.int .u8 128)
  have hu : ((UInt64.ofNat (8 * n)).toNat : Int) = (n : Int) * 8 := by rw [UInt64.toNat_ofNat']; omega
  have hu' : (UInt64.ofNat (8 * n)).toNat = 8 * n := by rw [UInt64.toNat_ofNat']; omega
  refine (Num.put_any (UInt64.ofNat (8 * n)) _ hu.symm 8 _ rfl (by omega) (by omega) _).mono ?_
  rw [hu']
  rintro e w3 ⟨A3, c3, rfl, hown3, bw3⟩
  clear hu hu' hcell hfr
  have hl3 := Num.putL_len (8 * n) 8
  rw [hl3] at hown3
  have Hl3 := Lib.hid hl3
  clear hl3
  have hs2 : w.heap.size < (w1.setCell ⟨w.heap.size, 0, none⟩ (.int .u8 128)).heap.size := by simpa [World.setCell] using hs1
  have hset3 := own_on hset bw3
  have bw4 := bt bw2 bw3
  go_wp2_with (at_builtin; refine wpList_append_rd _ rfl _ _ _ rfl w.heap.size 5 i0 _ 1 1 Tryd.underlying37 hi0 hz0 hz1 hz2 rfl (by omega) _ (1 + z) _ rfl hset3 _ A3 8 c3 ((Num.putL (8 * n) 8).map e8) rfl (by simp [Hl3.out]) (Rd.own hown3) (e8_one _) (by simp only [maxLen]; omega) (by omega) bw4.size ?_; intro v5 w5 hown5 hg5 hat5)
  go_ret
  have hlist : (List.replicate (1 + z) (Value.int .u8 0)).set 0 (.int .u8 128) ++ (Num.putL (8 * n) 8).map e8 = (padB n).map e8 := by
    rw [show 1 + z = z + 1 by omega, List.replicate_succ, List.set_cons_zero, padB, ← Hz.out]; simp
  rw [hlist] at hown5
  exact RetB.mk hown5 rfl (bw4.grown hg5 bw4.size (fun k hk => own_block hset3 hk))
def foldT (all : List UInt8) {m : Nat} (pre : List (Fin m)) : H8 := pre.foldl (fun h x => block h (blk all x.1)) first
theorem foldT_snoc (all : List UInt8) {m : Nat} (pre : List (Fin m)) (x : Fin m) : foldT all (pre ++ [x]) = block (foldT all pre) (blk all x.1) := by simp [foldT]
theorem foldT_take (all : List UInt8) {m : Nat} : ∀ k, k ≤ m → foldT all ((List.finRange m).take k) = turned all k
  | 0, _ => rfl
  | k + 1, h => by rw [fin_take (show k < m by omega), foldT_snoc, foldT_take all k (by omega)]; rfl
theorem foldT_all (all : List UInt8) (m : Nat) : foldT all (List.finRange m) = turned all m := by
  rw [← foldT_take all m (Nat.le_refl _), List.take_of_length_le (by simp)]
/-- the words as bytes, while the first k are written -/
def outK (s : H8) (k : Nat) : List UInt8 := (s.list.take k).flatMap fun x => Num.putL x.toNat 4
theorem outK_all (s : H8) : outK s 8 = out8 s := rfl
theorem outK_len (s : H8) (k : Nat) (h : k ≤ 8) : (outK s k).length = 4 * k := by
  have : ∀ l : List UInt32, (l.flatMap fun x => Num.putL x.toNat 4).length = 4 * l.length := by
    intro l
    induction l with
    | nil => rfl
    | cons a l ih => rw [List.flatMap_cons, List.length_append, ih, Num.putL_len, List.length_cons]; omega
  rw [outK, this, List.length_take, H8.list_len]; omega
theorem outK_succ (s : H8) (k : Nat) (h : k < 8) : outK s (k + 1) = outK s k ++ Num.putL (s.list.getD k 0).toNat 4 := by
  unfold outK
  rw [List.take_succ_eq_append_getElem (by rw [H8.list_len]; exact h), List.flatMap_append]
  have hk' : k < s.list.length := by rw [H8.list_len]; exact h
  simp [List.getD, List.getElem?_eq_getElem hk']
theorem index23 (s : H8) (k : Nat) (hk : k < 8) (w : World) : (Instr.index 98 (arrV s.vals) (.int .i64 (k : Int))).run Tryd.prog w = .ok (e32 (s.list.getD k 0)) w := by
  have hk' : k < s.list.length := by rw [H8.list_len]; exact hk
  exact run_index_ints (P := Tryd.prog) (n := 8) (k := .i64) Tryd.underlying98 Tryd.underlying82 (by kernel_rfl) hk (by simp [H8.vals, vw, List.getD, List.getElem?_eq_getElem hk']) w
set_option maxHeartbeats 1000000 in
theorem sum_any (A : Option Addr) (l : List UInt8) (n c : Nat) (w : World) (hn : n = l.length) (hr : Rd w w.heap.size A (l.map e8)) (hl : l.length ≤ 1000000000) (hk : Tab w) :
    Calls Tryd.prog 77 #[.slice A n c] w fun e w' => RetB 5 w (sum l) e w' := by
  subst hn
  refine (callsIn_wide (n := 8)).1 ?_
  refine callsIn_of_wp_marks Tryd.func77 rfl trivial ?_ rfl
  simp only [Tryd.ntmps77, List.size_toArray, List.length_cons, List.length_nil, Nat.reduceAdd, Nat.reduceSub, Array.replicate_succ, Array.replicate_zero, List.push_toArray, List.append_toArray, List.nil_append, List.cons_append]
  gi_wp2_with fail
  refine ⟨trivial, (callsIn_wide.2 (first_any w)).mono ?_⟩
  rintro e w1 ⟨rfl, bw1⟩
  gi_wp2_with (first
    | (refine wpListIn_allocN rfl _ rfl (vw (List.replicate 8 0)) zero23 ?_; intro w2 hb2 bw2 hs2)
    | (refine wpListIn_storeN rfl _ _ _ rfl rfl (ys := first.vals) rfl hb2 rfl (vw_one _) size23 ?_; intro w3 hb3 hg3)
    | fail)
  have bt2 := bt bw1 bw2
  have bt3 := below_row bt2 hg3 bw1.size bt2.size
  refine ⟨trivial, (callsIn_wide.2 (pad_any l.length _ rfl (by omega) w3)).mono ?_⟩
  rintro e w4 ⟨A4, c4, rfl, own4, bw4⟩
  have bt4 := bt bt3 bw4
  have h4 := hb3.on bw4
  gi_wp2_with fail
  have hcat : Cat.cat [⟨A, l, c⟩, ⟨A4, padB l.length, c4⟩] = whole l := by simp [Cat.cat, whole]
  have hpl := padB_le l.length
  have hwl : (whole l).length ≤ 1000000072 := by rw [whole, List.length_append]; omega
  have hlt4 : w1.heap.size < w4.heap.size := Nat.lt_of_lt_of_le hb3.lt bw4.size
  have hcc := Cat.concat_any w4.heap.size [⟨A, l, c⟩, ⟨A4, padB l.length, c4⟩] 2 2 (w4.alloc (.cells #[.slice A l.length c, .slice A4 (padB l.length).length c4] 37)) rfl (by simp)
    (by intro k hk
        match k, hk with
        | 0, _ => simp [Cat.Pc.val]
        | 1, _ => simp [Cat.Pc.val])
    (by intro p hp
        simp only [List.mem_cons, List.not_mem_nil, or_false] at hp
        rcases hp with rfl | rfl
        · exact (hr.on bt4).on (b1alloc _ _)
        · exact (Rd.own own4).on (b1alloc _ _))
    (by unfold Cat.lens; rw [hcat]; omega) (by simp)
  rw [hcat] at hcc
  refine ⟨trivial, (callsIn_wide.2 hcc).mono ?_⟩
  clear hcc
  rintro e w5 ⟨A5, c5, rfl, own5, bw5⟩
  have h5 := (h4.alloc (.cells #[.slice A l.length c, .slice A4 (padB l.length).length c4] 37)).on bw5
  have bt5 := bt (bt bt4 (b1alloc w4 (.cells #[.slice A l.length c, .slice A4 (padB l.length).length c4] 37))) bw5
  obtain ⟨m, hm⟩ : ∃ m, (whole l).length = 64 * m := ⟨(whole l).length / 64, by have := whole_mod l; omega⟩
  have hm0 : 0 < m := by
    rcases Nat.eq_zero_or_pos m with h | h
    · subst h; simp [whole, padB] at hm
    · exact h
  obtain ⟨g5, rfl, hg5, hc5, hcm5, hrd5⟩ : ∃ g, A5 = some ⟨g, 0, none⟩ ∧ w4.heap.size < g ∧ 64 * m ≤ c5 ∧ c5 ≤ maxLen ∧ Rd w5 w5.heap.size (some ⟨g, 0, none⟩) ((whole l).map e8) := by
    have hcap := own_cap own5
    have hrd := Rd.own own5
    rcases own5.2 with ⟨hv, hn⟩ | ⟨g, cap, cur, hv, hg, _⟩
    · omega
    · injection hv with hA _ _
      subst hA
      simp at hg
      exact ⟨g, rfl, by omega, by omega, hcap.2, hrd⟩
  have hg5s : g5 < w5.heap.size := by
    obtain ⟨b, off, hb, hlt, _⟩ := hrd5 (by intro e; have h0 := congrArg List.length e; rw [List.length_map, hm] at h0; simp at h0; omega)
    cases hb; exact hlt
  rw [hm]
  clear own5 own4
  gi_wp2_with fail
  refine ⟨trivial, (callsIn_wide.2 (chunk_any _ _ _ w5)).mono ?_⟩
  rintro e w6 ⟨rfl, cs6, cn6, bw6, hs6⟩
  have h6 := h5.on bw6
  have bt6 := bt bt5 bw6
  have hrd6 := hrd5.on bw6
  have hB05 := h5.lt
  have hsz6 := bw6.size
  have hg56 : w1.heap.size < g5 := by omega
  gi_wp2_with fail
  refine wpIn_rangeFunc_ownF (n := 8) rfl (by omega) (gf := 113) (lb := #[.pointer (some ⟨w5.heap.size, 0, none⟩), .pointer (some ⟨w5.heap.size + 1, 0, none⟩)]) rfl trivial (enters_of Tryd.func113 (by kernel_rfl) rfl)
    (chunk_stops (KpX w1.heap.size w6.heap.size) (8 - 1) (by omega) w5.heap.size (w5.heap.size + 1) g5 0 m c5 (by omega) hc5 hcm5 w6 (by omega) (by omega) (fun W W' h => h.cell (by omega) (by omega) 0) (fun W W' h => h.cell (by omega) (by omega) 0) cs6 cn6)
    (fun h k => KpX.trans h k) (fun W l o o' hl h _ _ => KpX.turn W l o' hl) (Below.refl _ _) (fun _ => rfl)
    (fun pre W => (Blk W w1.heap.size (foldT (whole l) pre).vals ∧ KpX w1.heap.size w6.heap.size w6 W) ∧ Below w.heap.size w W)
    (fun _ _ _ => False)
    (OwnFrom.and (fun s A B row hs hg hr => ⟨hs.1.grown hg (fun e => by
        obtain ⟨t, ht⟩ := hs.1
        obtain ⟨_, o, ho, hc⟩ := hr _ e.symm
        rw [ht] at ho; cases ho; cases hc), hs.2.trans ⟨hg.size, fun j hj hn => hg.block j (Nat.lt_of_lt_of_le hj hs.2.1) (fun e => by have := (hr _ e.symm).1; omega)⟩⟩) (ownFrom_below (Nat.le_refl _) bt6.size))
    (fun _ _ _ _ _ hs _ _ => hs)
    ⟨⟨h6, KpX.refl _ _ _⟩, bt6⟩
    (fun x => { tmps := #[.slice A l.length c, undef, .slice none 0 0, .pointer (some ⟨w1.heap.size, 0, none⟩), Ch.part g5 0 x.1, undef, undef, h8V first, .slice A l.length c, .slice A l.length c, .int .i64 l.length,
      .slice A4 (padB l.length).length c4, .slice (some ⟨w4.heap.size, 0, none⟩) 2 2, .slice (some ⟨g5, 0, none⟩) (64 * m) c5, .func (.func 113) #[] #[.pointer (some ⟨w5.heap.size, 0, none⟩), .pointer (some ⟨w5.heap.size + 1, 0, none⟩)],
      Ch.part g5 0 x.1, undef, undef, undef, undef, undef, undef, undef, undef, undef, undef, undef, undef, undef, undef], defers := [] }) ?assign ?body ?done ?stop
  case assign =>
    intro l x W K hK
    gi_wp2
    exact hK
  case body =>
    rintro l' pre x W ⟨⟨hb, hkp⟩, hB⟩ _
    obtain ⟨R, hR⟩ : ∃ R, R = foldT (whole l) pre := ⟨_, rfl⟩
    rw [← hR] at hb
    have hsz : w6.heap.size ≤ W.heap.size := hkp.1
    have hxm := x.2
    have hlx : (blk (whole l) x.1).length = 64 := by rw [blk, List.length_take, List.length_drop]; omega
    have hrd : Rd W W.heap.size (some ⟨g5, 0 + 64 * x.1, none⟩) ((blk (whole l) x.1).map e8) := by
      have h1 := ((Ch.Rd.keepX (A := none) hrd6 hkp (by omega)).more hsz).drop (64 * x.1)
      simp only [Option.map_some, Addr.add_lit] at h1
      rw [blk, List.map_take, List.map_drop]
      exact h1.take 64
    have hbk := block_any R (some ⟨g5, 0 + 64 * x.1, none⟩) (blk (whole l) x.1) 64 64 W hlx.symm (Nat.le_refl _) (by unfold maxLen; omega) hrd (hk.on hB)
    have HR := Lib.hid (show foldT (whole l) (pre ++ [x]) = block R (blk (whole l) x.1) by rw [foldT_snoc, hR])
    clear hR hlx hrd
    obtain ⟨S, hS⟩ : ∃ S, S = block R (blk (whole l) x.1) := ⟨_, rfl⟩
    rw [← hS] at hbk HR
    clear hS
    gi_wp2_with (first
      | (refine wpListIn_loadA rfl _ _ rfl rfl hb Tryd.underlying98 size23 ?_)
      | fail)
    refine ⟨trivial, (CallsIn.inRound l' (callsIn_wide.2 hbk)).mono ?_⟩
    rintro e W2 ⟨rfl, bw2⟩
    have hb2 := hb.on bw2
    gi_wp2_with (first
      | (refine wpListIn_storeN rfl _ _ _ rfl rfl (ys := S.vals) rfl hb2 rfl (vw_one _) size23 ?_; intro W3 hb3 hg3)
      | fail)
    have k2 : KpX w1.heap.size w6.heap.size W W2 := KpX.of_below bw2 hsz
    have k3 : KpX w1.heap.size w6.heap.size W2 W3 := KpX.of_row hg3 (Nat.le_trans hsz bw2.size)
    have hbl2 := bt hB bw2
    exact ⟨(keeps_below bw2).trans (keeps_row hg3 hb2), k2.trans k3, ⟨by rw [HR.out]; exact hb3, hkp.trans (k2.trans k3)⟩, below_row hbl2 hg3 bw1.size hbl2.size⟩
  case done =>
    rintro D ys W hD rfl ⟨⟨hb, hkp⟩, hB⟩ hKD
    rw [foldT_all] at hb
    have hres : sum l = out8 (turned (whole l) m) := by rw [sum, hm, Nat.mul_div_cancel_left _ (by omega)]
    obtain ⟨S, hS⟩ : ∃ S, S = turned (whole l) m := ⟨_, rfl⟩
    rw [← hS] at hb hres
    have Hres := Lib.hid hres
    clear hS hres hkp
    have hDlt : D < W.heap.size := (Array.getElem?_eq_some_iff.1 hKD).1
    obtain ⟨i0, hi0, hz0, hz1, hz2⟩ := info_parts Num.info8
    gi_wp2_with (first
      | (refine wpListIn_loadA rfl _ _ rfl rfl hb Tryd.underlying98 size23 ?_)
      | fail)
    gi_loopw [2, 20] (fun v i wr => ∃ k : Nat, k ≤ 8 ∧ i = .int .i64 k ∧ wr.ownsRow W.heap.size 5 1 v (4 * k) ((outK S k).map e8) ∧ Below W.heap.size W wr) (fun _ i _ => 8 - (intOf i).toNat)
    case atStart => exact ⟨0, by omega, rfl, own_nil _ _ _ _, Below.refl _ _⟩
    case round =>
      obtain ⟨k, hk8, rfl, hown, bel⟩ := hrel
      by_cases hlt : k < 8
      · have hix := index23 S k hlt
        have Hs := Lib.hid (outK_succ S k hlt)
        obtain ⟨y, hy⟩ : ∃ y, y = S.list.getD k 0 := ⟨_, rfl⟩
        rw [← hy] at hix Hs
        clear hy
        have hu := UInt64.toNat_ofNat' (n := y.toNat)
        have hy32 := y.toNat_lt
        have hu' : (UInt64.ofNat y.toNat).toNat = y.toNat := by omega
        have hcv : c32 y = ((UInt64.ofNat y.toNat).toNat : Int) := by unfold c32; omega
        have y0 := c32_lo y
        have y1 := c32_hi y
        have hpt := Num.put_any (UInt64.ofNat y.toNat) (c32 y) hcv 4 4 rfl (by omega) (by omega) wr
        rw [hu'] at hpt
        clear hu hu' hcv
        have hl4 := Num.putL_len y.toNat 4
        obtain ⟨p, hp⟩ : ∃ p, p = Num.putL y.toNat 4 := ⟨_, rfl⟩
        rw [← hp] at hpt hl4 Hs
        clear hp
        gi_wp2_with fail
        refine ⟨trivial, (callsIn_wide.2 hpt).mono ?_⟩
        clear hpt
        rintro e w8 ⟨A8, c8, rfl, own8, bw8⟩
        rw [hl4] at own8 ⊢
        have Hl4 := Lib.hid hl4
        clear hl4
        have hown8 := own_on hown bw8
        have bel8 := bt bel bw8
        gi_wp2_with (gi_at_builtin; refine wpListIn_append_rd _ rfl _ _ _ rfl W.heap.size 5 i0 _ 1 1 Tryd.underlying37 hi0 hz0 hz1 hz2 rfl (by omega) _ (4 * k) _ rfl hown8 _ A8 4 c8 (p.map e8) rfl (by simp [Hl4.out]) (Rd.own own8) (e8_one _) (by simp only [maxLen]; omega) (by omega) bel8.size ?_; intro v9 w9 hown9 hg9 hat9)
        go_roundw
        case rel => exact ⟨k + 1, by omega, by go_num, by rw [Hs.out, List.map_append]; exact hown9, bel8.grown hg9 bel8.size (fun g hg => own_block hown8 hg)⟩
        case measure => simp [intOf]; omega
      · obtain rfl : k = 8 := by omega
        rw [outK_all] at hown
        have hKD' : wr.heap[D]? = some (.deferred (some [])) := (bel.block D hDlt).trans hKD
        have hBw := hB.trans (bel.mono hB.size)
        gi_wp2
        refine ⟨by simp, .inl ⟨_, _, rfl, run_takeDeferred hKD', ?_⟩⟩
        refine ⟨_, results_tmp rfl _ _ _, ?_⟩
        rw [Hres.out]
        exact RetB.mk (own_base (ownsRow_putObj hown _ hKD' rfl) hB.size) rfl (hBw.trans (belowK_b (w := w) (Nat.le_refl _) wr D _ _ (by have := bt6.size; omega) hKD' rfl rfl))
  case stop =>
    rintro D c pre W _ _ h _
    exact h.elim
end Go.Proofs.YteecbjpnnklbpaaDoor.Sha

/- The laws' example: the sum of no bytes. -/
namespace Go.Proofs.YteecbjpnnklbpaaDoor.Sha
open Go.RowKit
set_option linter.unusedVariables false
set_option maxRecDepth 100000
theorem sum_nil : (sum []).take 4 = [0xe3, 0xb0, 0xc4, 0x42] := by decide +kernel
theorem take4_at {l : List UInt8} {a b c d : UInt8} (h : l.take 4 = [a, b, c, d]) : l[0]? = some a ∧ l[1]? = some b ∧ l[2]? = some c ∧ l[3]? = some d := by
  have g : ∀ i, i < 4 → l[i]? = [a, b, c, d][i]? := fun i hi => by rw [← h, List.getElem?_take, if_pos hi]
  exact ⟨g 0 (by omega), g 1 (by omega), g 2 (by omega), g 3 (by omega)⟩
/-- the first four bytes of a slice that reads so -/
theorem rd4 {w : World} {A : Option Addr} {l : List UInt8} {a b c d : UInt8} (hr : Rd w w.heap.size A (l.map e8)) (h : l.take 4 = [a, b, c, d]) :
    ∃ g o, A = some ⟨g, o, none⟩ ∧ w.cell? ⟨g, o, none⟩ = some (e8 a) ∧ w.cell? ⟨g, o + 1, none⟩ = some (e8 b) ∧ w.cell? ⟨g, o + 2, none⟩ = some (e8 c) ∧ w.cell? ⟨g, o + 3, none⟩ = some (e8 d) := by
  obtain ⟨h0, h1, h2, h3⟩ := take4_at h
  have hne : l.map e8 ≠ [] := by intro e; simp at e; subst e; simp at h0
  obtain ⟨g, o, rfl, hlt, hc⟩ := hr hne
  have key : ∀ i x, l[i]? = some x → w.cell? ⟨g, o + i, none⟩ = some (e8 x) := fun i x hx => by
    obtain ⟨hi, rfl⟩ := List.getElem?_eq_some_iff.1 hx
    rw [hc i (by simpa using hi)]
    simp
  exact ⟨g, o, rfl, key 0 a h0, key 1 b h1, key 2 c h2, key 3 d h3⟩
end Go.Proofs.YteecbjpnnklbpaaDoor.Sha

/- The walks of the reference's sums: padding, words, a block, a sum. -/
namespace Go.Proofs.YteecbjpnnklbpaaDoor.Sha
open Go.RowKit
set_option linter.unusedVariables false
set_option maxRecDepth 100000
theorem c32_shr3 (x : UInt32) : c32 x / (8 : Int) = c32 (x >>> 3) := c32_shr x 3 (by omega)
theorem c32_shr10 (x : UInt32) : c32 x / (1024 : Int) = c32 (x >>> 10) := c32_shr x 10 (by omega)
attribute [local go_sem] c32_xor c32_and c32_or c32_add c32_add' c32_shr3 c32_shr10
def lenS : Value → Nat
  | .slice _ n _ => n
  | _ => 0

set_option maxHeartbeats 400000 in
theorem rpad_any (n : Nat) (m : Int) (hm : m = (n : Int)) (h : n ≤ 1099511627776) (w : World) : Calls Tryd.prog 83 #[.int .i64 m] w fun e w' => RetB 5 w (padB n) e w' := by
  subst hm
  obtain ⟨i0, hi0, hz0, hz1, hz2⟩ := info_parts Num.info8
  have h0 : ((n : Int) < 0) = False := by simp
  obtain ⟨z, hz⟩ : ∃ z, z = (119 - n % 64) % 64 := ⟨_, rfl⟩
  have hz64 : z < 64 := by omega
  have Hz := Lib.hid hz
  clear hz
  go_enter Tryd.func83, Tryd.ntmps83
  go_wp2
  go_loopw [3] (fun v wr => ∃ k A c : Nat, k ≤ z ∧ v = .slice (some ⟨A, 0, none⟩) (1 + k) c ∧ wr.ownsRow w.heap.size 5 1 v (1 + k) (e8 128 :: List.replicate k (e8 0)) ∧ Below w.heap.size w wr) (fun v _ => 100 - lenS v)
  case atStart => exact ⟨0, w.heap.size, 1, by omega, rfl, own_lit w _ _ _ 1 (Nat.le_refl _) rfl (by unfold maxLen; omega), b1alloc _ _⟩
  case round =>
    obtain ⟨k, A, c, hk, rfl, hown, bel⟩ := hrel
    have hz := Hz.out
    by_cases hlt : k < z
    · have hne : (((n : Int) + (1 + (k : Int))) % 64 != 56) = true := bne_yes (by omega)
      clear hz
      go_wp2_with (at_builtin; refine wpList_append_rd _ rfl _ _ _ rfl w.heap.size 5 i0 _ 1 1 Tryd.underlying37 hi0 hz0 hz1 hz2 rfl (by omega) _ (1 + k) _ rfl (hown.alloc _) _ _ 1 1 [.int .u8 0] rfl rfl (Rd.lit wr _ _ _ (wr.heap.size + 1) rfl (by omega)) (one_int _ _) (by simp only [maxLen]; omega) (by omega) (le_alloc bel.size _) ?_; intro v1 w1 hown1 hg1 hat1; obtain ⟨A1, c1, rfl⟩ := own_form hown1; obtain ⟨g1, hg1'⟩ : ∃ g, A1 = some ⟨g, 0, none⟩ := (by rcases hown1.2 with ⟨hv, _⟩ | ⟨g, cap, cur, hv, _⟩; (cases hv); (injection hv with hA _ _; exact ⟨g, hA⟩)))
      subst hg1'
      go_roundw
      case rel => exact ⟨k + 1, g1, c1, by omega, rfl, by rw [List.replicate_succ']; exact hown1, (bel.alloc bel.size _).grown hg1 (le_alloc bel.size _) (fun g hg => own_block hown hg)⟩
      case measure => simp [lenS]; omega
    · obtain rfl : k = z := by omega
      have hne : (((n : Int) + (1 + (k : Int))) % 64 != 56) = false := bne_no (by omega)
      clear hz
      have hu : ((UInt64.ofNat (8 * n)).toNat : Int) = (n : Int) * 8 := by rw [UInt64.toNat_ofNat']; omega
      have hu' : (UInt64.ofNat (8 * n)).toNat = 8 * n := by rw [UInt64.toNat_ofNat']; omega
      have hpt := Num.rput_any (UInt64.ofNat (8 * n)) _ hu.symm 8 _ rfl (by omega) (by omega) wr
      rw [hu'] at hpt
      clear hu hu'
      go_wp2_with fail
      refine hpt.mono ?_
      rintro e w3 ⟨A3, c3, rfl, hown3, bw3⟩
      have hl3 := Num.putL_len (8 * n) 8
      rw [hl3] at hown3
      have Hl3 := Lib.hid hl3
      clear hl3 hpt
      have hset3 := own_on hown bw3
      have bw4 := bt bel bw3
      go_wp2_with (at_builtin; refine wpList_append_rd _ rfl _ _ _ rfl w.heap.size 5 i0 _ 1 1 Tryd.underlying37 hi0 hz0 hz1 hz2 rfl (by omega) _ (1 + k) _ rfl hset3 _ A3 8 c3 ((Num.putL (8 * n) 8).map e8) rfl (by simp [Hl3.out]) (Rd.own hown3) (e8_one _) (by simp only [maxLen]; omega) (by omega) bw4.size ?_; intro v5 w5 hown5 hg5 hat5)
      go_ret
      have hlist : (e8 128 :: List.replicate k (e8 0)) ++ (Num.putL (8 * n) 8).map e8 = (padB n).map e8 := by
        rw [padB, ← Hz.out]; simp
      rw [hlist] at hown5
      exact RetB.mk hown5 rfl (bw4.grown hg5 bw4.size (fun k hk => own_block hset3 hk))
set_option maxHeartbeats 400000 in
theorem rwords_not (A : Option Addr) (n c : Nat) (w : World) (hn : n ≠ 64) (hm : n ≤ maxLen) :
    Calls Tryd.prog 105 #[.slice A n c] w fun e w' => e = .returned (arrV W64) ∧ Below w.heap.size w w' := by
  have hne : ((n : Int) != 64) = true := bne_yes (by omega)
  have Hz := Lib.hid zero28
  unfold maxLen at hm
  go_enter Tryd.func105, Tryd.ntmps105
  go_wp2_with (first
    | (refine wpList_allocN (o := ⟨some 2, _, _, _, _, _⟩) rfl _ rfl W64 zero28 ?_; intro w1 hb1 bw1 hs1)
    | (refine wpList_allocN rfl _ rfl W64 zero28 ?_; intro w2 hb2 bw2 hs2; have hb12 := hb1.on bw2; have bt2 := bt bw1 bw2)
    | (refine wpList_loadA rfl _ _ rfl rfl hb2 Tryd.underlying96 size28 ?_)
    | (refine wpList_storeN rfl _ _ _ rfl rfl (ys := W64) rfl hb12 rfl (vw_one _) size28 ?_; intro w3 hb3 hg3))
  exact bodyPost_ret (v := arrV W64) (results_arr Tryd.results105 _ hb3 Tryd.underlying96 size28 rfl) rfl ⟨rfl, below_row bt2 hg3 (Nat.le_refl _) bt2.size⟩
set_option maxHeartbeats 800000 in
theorem rwords_yes (b off : Nat) (l : List UInt8) (c : Nat) (w : World) (hn : l.length = 64) (hc : 64 ≤ c) (hcm : c ≤ maxLen) (hr : Rd w w.heap.size (some ⟨b, off, none⟩) (l.map e8)) :
    Calls Tryd.prog 105 #[.slice (some ⟨b, off, none⟩) 64 c] w fun e w' => e = .returned (arrV (vw (wl l 64))) ∧ Below w.heap.size w w' := by
  have hz : ∀ w, (zeroValue 96).run Tryd.prog w = .ok (arrV (vw (wpart l 0))) w := fun w => by rw [wpart_zero]; exact zero28 w
  have Hz := Lib.hid hz
  have Hn := Lib.hid hn
  clear hz hn
  unfold maxLen at hcm
  have hc' : (64 : Int) ≤ (c : Int) := by omega
  go_enter Tryd.func105, Tryd.ntmps105
  go_wp2_with (first
    | (refine wpList_allocN (o := ⟨some 2, _, _, _, _, _⟩) rfl _ rfl W64 zero28 ?_; intro w1 hb1 bw1 hs1)
    | (refine wpList_allocN rfl _ rfl (vw (wpart l 0)) Hz.out ?_; intro w2 hb2 bw2 hs2; have hb12 := hb1.on bw2; have bt2 := bt bw1 bw2))
  obtain ⟨B1, hB1⟩ : ∃ B, B = w1.heap.size := ⟨_, rfl⟩
  rw [← hB1] at hb2 ⊢
  have l01 : w.heap.size < B1 := by omega
  clear hB1 hb1 bw1 bw2 hs1 hs2
  go_loopw [4] (fun i wr => ∃ k : Nat, k ≤ 16 ∧ i = .int .i64 k ∧ Blk wr B1 (vw (wpart l k)) ∧ Blk wr w.heap.size W64 ∧ Below w.heap.size w wr) (fun i _ => 16 - (intOf i).toNat)
  case atStart => exact ⟨0, by omega, rfl, hb2, hb12, bt2⟩
  case round =>
    obtain ⟨k, hk, rfl, hb, h0, bw⟩ := hrel
    by_cases hlt : k < 16
    · have hn := Hn.out
      have h4 : ((l.drop (4 * k)).take 4).length = 4 := by rw [List.length_take, List.length_drop]; omega
      have hr4 : Rd wr wr.heap.size (some ⟨b, off + 4 * k, none⟩) (((l.drop (4 * k)).take 4).map e8) := by
        rw [List.map_take, List.map_drop]
        have := (hr.on bw).drop (4 * k)
        simp only [Option.map_some, Addr.add_lit] at this
        exact this.take 4
      have Hw := Lib.hid (wpart_set l k (by omega))
      have Hx := Lib.hid (wnext_lo l k hlt)
      have hcell := Blk.word hb (k := k) (by have := wpart_len l k (by omega); omega)
      have hfr := hb.free k
      clear hn
      go_wp2_with fail
      refine (Num.rget_any _ ((l.drop (4 * k)).take 4) _ _ _ _ (by omega) hr4 (by omega) (by omega)).mono ?_
      rintro e w2 ⟨rfl, rfl⟩
      clear hr4 h4
      have hq : IntKind.u32.wrap (Num.getN ((l.drop (4 * k)).take 4) : Int) = c32 (be32 l k) := by
        unfold c32 be32; rw [IntKind.wrap_u32, UInt32.toNat_ofNat']; omega
      obtain ⟨q, hq2⟩ : ∃ q, q = Num.getN ((l.drop (4 * k)).take 4) := ⟨_, rfl⟩
      rw [← hq2] at hq ⊢
      obtain ⟨x, hx⟩ : ∃ x, x = be32 l k := ⟨_, rfl⟩
      rw [← hx] at hq
      have Hs := Lib.hid (show (wpart l k).set k x = wpart l (k + 1) by rw [hx, ← Hx.out, Hw.out])
      clear hq2 hx
      go_wp2
      go_roundw
      case rel => exact ⟨k + 1, by omega, by go_num, by have := hb.set (k := k) (e32 x); rw [vw_set, Hs.out] at this; exact this, h0.other _ (by omega), bw.setCell (Nat.le_of_lt l01) _⟩
      case measure => simp [intOf]; omega
    · obtain rfl : k = 16 := by omega
      clear hb2 hb12 bt2
      go_wp2
      go_loopw [7] (fun i wx => ∃ k : Nat, 16 ≤ k ∧ k ≤ 64 ∧ i = .int .i64 k ∧ Blk wx B1 (vw (wpart l k)) ∧ Blk wx w.heap.size W64 ∧ Below w.heap.size w wx) (fun i _ => 64 - (intOf i).toNat)
      case atStart => exact ⟨16, by omega, by omega, rfl, hb, h0, bw⟩
      case round =>
        obtain ⟨k, h16, hk, rfl, hb, h0, bw⟩ := hrel
        by_cases hlt : k < 64
        · have hl := wpart_len l k (by omega)
          have g2 := Blk.word hb (k := k - 2) (by omega)
          have g7 := Blk.word hb (k := k - 7) (by omega)
          have g15 := Blk.word hb (k := k - 15) (by omega)
          have g16 := Blk.word hb (k := k - 16) (by omega)
          have hcell := Blk.word hb (k := k) (by omega)
          have hB := hb.lt
          have hfr := hb.free k
          have Hs := Lib.hid (show (wpart l k).set k (high ((wpart l k).getD (k - 2) 0) + (wpart l k).getD (k - 7) 0 + low ((wpart l k).getD (k - 15) 0) + (wpart l k).getD (k - 16) 0) = wpart l (k + 1) by rw [← wnext_hi l k (by omega)]; exact wpart_set l k hlt)
          obtain ⟨x2, h2⟩ : ∃ x, x = (wpart l k).getD (k - 2) 0 := ⟨_, rfl⟩
          obtain ⟨x7, h7⟩ : ∃ x, x = (wpart l k).getD (k - 7) 0 := ⟨_, rfl⟩
          obtain ⟨x15, h15⟩ : ∃ x, x = (wpart l k).getD (k - 15) 0 := ⟨_, rfl⟩
          obtain ⟨x16, h16'⟩ : ∃ x, x = (wpart l k).getD (k - 16) 0 := ⟨_, rfl⟩
          rw [← h2, ← h7, ← h15, ← h16'] at Hs
          rw [← h2] at g2
          rw [← h7] at g7
          rw [← h15] at g15
          rw [← h16'] at g16
          clear h2 h7 h15 h16' hl
          have b2 : (2 : Int) ≤ (k : Int) := by omega
          have c2 : (k : Int) - 2 < 64 := by omega
          have d2 : 0 ≤ (k : Int) - 2 := by omega
          have q2 : IntKind.i64.wrap ((k : Int) - 2) = (k : Int) - 2 := wrap_small (by omega) (by omega)
          have t2 : ((k : Int) - 2).toNat = k - 2 := by omega
          have b7 : (7 : Int) ≤ (k : Int) := by omega
          have c7 : (k : Int) - 7 < 64 := by omega
          have d7 : 0 ≤ (k : Int) - 7 := by omega
          have q7 : IntKind.i64.wrap ((k : Int) - 7) = (k : Int) - 7 := wrap_small (by omega) (by omega)
          have t7 : ((k : Int) - 7).toNat = k - 7 := by omega
          have b15 : (15 : Int) ≤ (k : Int) := by omega
          have c15 : (k : Int) - 15 < 64 := by omega
          have d15 : 0 ≤ (k : Int) - 15 := by omega
          have q15 : IntKind.i64.wrap ((k : Int) - 15) = (k : Int) - 15 := wrap_small (by omega) (by omega)
          have t15 : ((k : Int) - 15).toNat = k - 15 := by omega
          have b16 : (16 : Int) ≤ (k : Int) := by omega
          have c16 : (k : Int) - 16 < 64 := by omega
          have d16 : 0 ≤ (k : Int) - 16 := by omega
          have q16 : IntKind.i64.wrap ((k : Int) - 16) = (k : Int) - 16 := wrap_small (by omega) (by omega)
          have t16 : ((k : Int) - 16).toNat = k - 16 := by omega
          go_wp2
          refine region_inb (by kernel_rfl) (by kernel_rfl) ?_
          have inbNe := InB.some
          have inbW := @wrap_small
          have inbU := IntKind.wrap_u8'
          repeat (refine wpQuiet_step (fun K hK => ?_); go_simp; first | (refine hK _ ?_; clear hK K) | (apply Exists.intro; refine ⟨?_, hK _ ?_⟩; (· (intro w' hw'; first | fail | (have hcw := hw'.cell; go_simp; exact rfl))); clear hK K))
          refine wpQuiet_nil ?_
          intro wq hq
          clear inbNe inbW inbU
          have m0 := hb.on hq.below
          have m1 := h0.on hq.below
          have bm := bw.trans (hq.below.mono bw.size)
          have hcw := fun j => hq.cell B1 j hB
          have n7 := (hcw _).trans g7
          have n16 := (hcw _).trans g16
          have hcn := (hcw _).trans hcell
          have hB' := m0.lt
          clear hq hcw g2 g7 g15 g16 hcell hfr hb h0
          go_wp2
          refine region_inb_tail 29 (by kernel_rfl) (by kernel_rfl) ?_
          simp only [List.take_succ_cons, List.take_zero, List.drop_succ_cons, List.drop_zero]
          have inbNe := InB.some
          have inbW := @wrap_small
          have inbU := IntKind.wrap_u8'
          repeat (refine wpQuiet_step (fun K hK => ?_); go_simp; first | (refine hK _ ?_; clear hK K) | (apply Exists.intro; refine ⟨?_, hK _ ?_⟩; (· (intro w' hw'; first | (go_at_call 106; refine (rright_any _ _ (by decide) _).mono ?_; rintro e w1 ⟨rfl, b1⟩; exact ⟨rfl, hw'.on b1⟩) | (have hcw := hw'.cell; go_simp; exact rfl))); clear hK K))
          refine wpQuiet_nil ?_
          intro wq hq
          clear inbNe inbW inbU
          have p0 := m0.on hq.below
          have p1 := m1.on hq.below
          have hcq := (hq.cell _ _ hB').trans hcn
          have hfq := p0.free k
          have bq := bm.trans (hq.below.mono bm.size)
          clear hq hcn n7 n16 m0 m1
          go_wp2
          go_roundw
          case rel =>
            have hset := p0.set (k := k) (e32 (high x2 + x7 + low x15 + x16))
            rw [vw_set, Hs.out] at hset
            repeat apply Exists.intro
            exact ⟨⟨k + 1, by omega, by omega, by go_num, hset, p1.other _ (by omega), bq.setCell (Nat.le_of_lt l01) _⟩, rfl⟩
          case measure => simp [intOf]; omega
        · obtain rfl : k = 64 := by omega
          rw [wpart_all] at hb
          have hl := wl_len l 64
          have h64 : W64.length = (vw (wl l 64)).length := by rw [vw_len, hl]; rfl
          go_wp2_with (first
            | (refine wpList_loadA rfl _ _ rfl rfl hb Tryd.underlying96 (by rw [vw_len, hl]; exact size28) ?_)
            | (refine wpList_storeN rfl _ _ _ rfl rfl (ys := vw (wl l 64)) rfl h0 h64 (vw_one _) (by rw [vw_len, hl]; exact size28) ?_; intro w2 hb2 hg2))
          exact bodyPost_ret (v := arrV (vw (wl l 64))) (results_arr Tryd.results105 _ hb2 Tryd.underlying96 (by rw [vw_len, hl]; exact size28) rfl) rfl ⟨rfl, below_row bw hg2 (Nat.le_refl _) bw.size⟩
theorem rwords_any (A : Option Addr) (l : List UInt8) (n c : Nat) (w : World) (hn : n = l.length) (hc : n ≤ c) (hcm : c ≤ maxLen) (hr : Rd w w.heap.size A (l.map e8)) :
    Calls Tryd.prog 105 #[.slice A n c] w fun e w' => e = .returned (arrV (vw (words l))) ∧ Below w.heap.size w w' := by
  subst hn
  by_cases h : l.length = 64
  · obtain ⟨b, off, rfl, _, _⟩ := hr (by intro e; have := congrArg List.length e; simp at this; subst this; simp at h)
    rw [words, if_pos h, h]
    exact rwords_yes b off l c w h (by omega) hcm hr
  · rw [words_no h]
    exact rwords_not A _ c w h (by omega)
end Go.Proofs.YteecbjpnnklbpaaDoor.Sha

/- The walks of the reference's block and sum. -/
namespace Go.Proofs.YteecbjpnnklbpaaDoor.Sha
open Go.RowKit
set_option linter.unusedVariables false
set_option maxRecDepth 100000
theorem ones_xor (x : UInt32) : 0xffffffff ^^^ x = ~~~x := by
  apply UInt32.toBitVec_inj.1
  simp only [UInt32.toBitVec_xor, UInt32.toBitVec_not]
  apply BitVec.eq_of_getLsbD_eq
  intro i hi
  rw [BitVec.getLsbD_xor, BitVec.getLsbD_not]
  have h1 : (4294967295 : UInt32).toBitVec.getLsbD i = true := by
    rw [show (4294967295 : UInt32).toBitVec = BitVec.allOnes 32 by decide, BitVec.getLsbD_allOnes]
    exact decide_eq_true hi
  rw [h1]; simp [hi]
theorem c32_not (x : UInt32) : bits .xor .u32 (if IntKind.u32.signed = true then -1 else IntKind.u32.max) (c32 x) = c32 (~~~x) := by
  rw [← ones_xor, ← c32_xor]; rfl
attribute [local go_sem] c32_xor c32_and c32_or c32_add c32_add' c32_not

theorem vkTab_len : (vw kTab).length = 64 := by rw [vw_len]; exact kTab_len
set_option maxHeartbeats 400000 in
theorem rwith_no (s : H8) (A : Option Addr) (n c : Nat) (w : World) (hn : n ≠ 64) (hm : n ≤ maxLen) :
    Calls Tryd.prog 84 #[arrV (vw kTab), h8V s, .slice A n c] w fun e w' => e = .returned (h8V s) ∧ Below w.heap.size w w' := by
  have hne : ((n : Int) != 64) = true := bne_yes (by omega)
  unfold maxLen at hm
  obtain ⟨kv, hkv⟩ : ∃ kv, kv = vw kTab := ⟨_, rfl⟩
  rw [← hkv]
  clear hkv
  go_enter Tryd.func84, Tryd.ntmps84
  go_wp2_with (first
    | (refine wpList_boxN rfl _ _ rfl kv rfl ?_; intro w0 hb0 bw0 hs0)
    | (refine wpList_boxN rfl _ _ rfl s.vals rfl ?_; intro w1 hb1 bw1 hs1; have bt1 := bt bw0 bw1)
    | (refine wpList_allocN rfl _ rfl (vw (List.replicate 8 0)) zero23 ?_; intro w2 hb2 bw2 hs2; have hb12 := hb1.on bw2; have bt2 := bt bt1 bw2)
    | (refine wpList_loadA rfl _ _ rfl rfl hb12 Tryd.underlying98 size23 ?_)
    | (refine wpList_storeN rfl _ _ _ rfl rfl (ys := s.vals) rfl hb2 rfl (vw_one _) size23 ?_; intro w3 hb3 hg3))
  exact bodyPost_ret (v := h8V s) (results_arr Tryd.results84 _ hb3 Tryd.underlying98 size23 rfl) rfl ⟨rfl, below_row bt2 hg3 bt1.size bt2.size⟩
set_option maxHeartbeats 800000 in
theorem rwith_yes (s : H8) (A : Option Addr) (l : List UInt8) (c : Nat) (w : World) (hn : l.length = 64) (hc : 64 ≤ c) (hcm : c ≤ maxLen) (hr : Rd w w.heap.size A (l.map e8)) :
    Calls Tryd.prog 84 #[arrV (vw kTab), h8V s, .slice A 64 c] w fun e w' => e = .returned (h8V ((rounds (wl l 64) s 64).add s)) ∧ Below w.heap.size w w' := by
  have Hn := Lib.hid hn
  have hw : words l = wl l 64 := if_pos hn
  have Hw := Lib.hid hw
  clear hn hw
  obtain ⟨kv, hkv⟩ : ∃ kv, kv = vw kTab := ⟨_, rfl⟩
  rw [← hkv]
  have Hkv := Lib.hid hkv
  clear hkv
  go_enter Tryd.func84, Tryd.ntmps84
  go_wp2_with (first
    | (refine wpList_boxN rfl _ _ rfl kv rfl ?_; intro w0 hb0 bw0 hs0)
    | (refine wpList_boxN rfl _ _ rfl s.vals rfl ?_; intro w1 hb1 bw1 hs1; have hb01 := hb0.on bw1; have bt1 := bt bw0 bw1)
    | (refine wpList_allocN rfl _ rfl (vw (List.replicate 8 0)) zero23 ?_; intro w2 hb2 bw2 hs2; have hb12 := hb1.on bw2; have hb02 := hb01.on bw2; have bt2 := bt bt1 bw2)
    | fail)
  refine (rwords_any A l 64 c w2 Hn.out.symm hc hcm (hr.on bt2)).mono ?_
  rintro e w3 ⟨rfl, bw3⟩
  rw [Hw.out]
  have hb03 := hb02.on bw3
  have hb13 := hb12.on bw3
  have hb23 := hb2.on bw3
  have bt3 := bt bt2 bw3
  obtain ⟨W, hW⟩ : ∃ W, W = wl l 64 := ⟨_, rfl⟩
  have hWl : W.length = 64 := by rw [hW]; exact wl_len l 64
  rw [← hW]
  have HW := Lib.hid hW
  have hvW : (vw W).length = 64 := by rw [vw_len, hWl]
  have sW : (Tryd.prog.info? 96).map (·.size) = some (vw W).length := by rw [hvW]; exact size28
  have zW : W64.length = (vw W).length := by rw [hvW]; rfl
  have HWl := Lib.hid hWl
  have SW := Lib.hid sW
  have ZW := Lib.hid zW
  clear hW hWl hvW sW zW hb0 hb01 hb02 hb1 hb12 hb2
  have k1 := bw0.size
  have k2 := bw1.size
  have k3 := bw2.size
  have k4 := bw3.size
  go_wp2_with (first
    | ((with_reducible show wpList _ _ _ (⟨some 7, _, _, _, _, _⟩ :: _) _ _); refine wpList_allocN rfl _ rfl W64 zero28 ?_; intro w4 hb4 bw4 hs4; have hb04 := hb03.on bw4; have hb14 := hb13.on bw4; have hb24 := hb23.on bw4; have bt4 := bt bt3 bw4)
    | ((with_reducible show wpList _ _ _ (⟨none, .store 96 _ _, _, _, _, _⟩ :: _) _ _); refine wpList_storeN rfl 96 _ _ rfl rfl (ys := vw W) rfl hb4 ZW.out (vw_one _) SW.out ?_; intro w5 hb5 hg5; have hb05 := hb04.grown hg5 (by simp; omega); have hb15 := hb14.grown hg5 (by simp; omega); have hb25 := hb24.grown hg5 (by simp; omega); have bt5 := below_row bt4 hg5 bt3.size bt4.size; have k6 := hg5.size)
    | ((with_reducible show wpList _ _ _ (⟨some 21, _, _, _, _, _⟩ :: _) _ _); refine wpList_loadA rfl 98 _ rfl rfl hb15 Tryd.underlying98 size23 ?_)
    | ((with_reducible show wpList _ _ _ (⟨some 8, _, _, _, _, _⟩ :: _) _ _); refine wpList_allocN rfl _ rfl (vw (List.replicate 8 0)) zero23 ?_; intro w6 hb6 bw6 hs6; have hb06 := hb05.on bw6; have hb16 := hb15.on bw6; have hb26 := hb25.on bw6; have hb56 := hb5.on bw6; have bt6 := bt bt5 bw6; have k7 := bw6.size)
    | ((with_reducible show wpList _ _ _ (⟨none, .store 98 _ _, _, _, _, _⟩ :: _) _ _); refine wpList_storeN rfl 98 _ _ rfl rfl (ys := s.vals) rfl hb6 rfl (vw_one _) size23 ?_; intro w7 hb7 hg7; have hb07 := hb06.grown hg7 (by simp; omega); have hb17 := hb16.grown hg7 (by simp; omega); have hb27 := hb26.grown hg7 (by simp; omega); have hb57 := hb56.grown hg7 (by simp; omega); have bt7 := below_row bt6 hg7 bt5.size bt6.size)
    | fail)
  obtain ⟨B1, e1⟩ : ∃ B, B = w0.heap.size := ⟨_, rfl⟩
  obtain ⟨B2, e2⟩ : ∃ B, B = w1.heap.size := ⟨_, rfl⟩
  obtain ⟨B3, e3⟩ : ∃ B, B = w3.heap.size := ⟨_, rfl⟩
  obtain ⟨B5, e5⟩ : ∃ B, B = w5.heap.size := ⟨_, rfl⟩
  rw [← e1] at hb17
  rw [← e2] at hb27
  rw [← e3] at hb57
  rw [← e5] at hb7
  rw [← e1, ← e2, ← e3, ← e5]
  have l01 : w.heap.size < B1 := by omega
  have l12 : B1 < B2 := by omega
  have l23 : B2 < B3 := by omega
  have l35 : B3 < B5 := by omega
  clear e1 e2 e3 e5 hb03 hb13 hb23 hb4 hb04 hb14 hb24 hb5 hb05 hb15 hb25 hb6 hb06 hb16 hb26 hb56 hg5 hg7 bt1 bt2 bt3 bt4 bt5 bt6 bw0 bw1 bw2 bw3 bw4 bw6 hs0 hs1 hs2 hs4 hs6 k1 k2 k3 k4 k6 k7 SW ZW Hw Hn
  go_loopw [9] (fun i wr => ∃ k : Nat, k ≤ 64 ∧ i = .int .i64 k ∧ Blk wr w.heap.size kv ∧ Blk wr B1 s.vals ∧ Blk wr B2 (vw (List.replicate 8 0)) ∧ Blk wr B3 (vw W) ∧ Blk wr B5 (rounds W s k).vals ∧ Below w.heap.size w wr) (fun i _ => 64 - (intOf i).toNat)
  case atStart => exact ⟨0, by omega, rfl, hb07, hb17, hb27, hb57, hb7, bt7⟩
  case round =>
    obtain ⟨k, hk64, rfl, d0, d1, d2, d3, d5, btd⟩ := hrel
    clear hb07 hb17 hb27 hb57 hb7 bt7
    by_cases hlt : k < 64
    · obtain ⟨r, hr'⟩ : ∃ r, r = rounds W s k := ⟨_, rfl⟩
      rw [← hr'] at d5
      have Hr := Lib.hid (show rounds W s (k + 1) = round r (kAt k) (W.getD k 0) by rw [rounds, hr'])
      obtain ⟨y, hy⟩ : ∃ y, y = W.getD k 0 := ⟨_, rfl⟩
      rw [← hy] at Hr
      have Hy := Lib.hid hy
      obtain ⟨z, hz⟩ : ∃ z, z = kAt k := ⟨_, rfl⟩
      rw [← hz] at Hr
      have Hz := Lib.hid (show z = kTab.getD k 0 from hz)
      clear hr' hy hz
      have h5 := d5.lt
      obtain ⟨p0, p1, p2, p3, p4, p5, p6, p7⟩ := Blk.eight d5
      go_wp2
      refine region_inb (by kernel_rfl) (by kernel_rfl) ?_
      have inbNe := InB.some
      have inbW := @wrap_small
      have inbU := IntKind.wrap_u8'
      repeat (refine wpQuiet_step (fun K hK => ?_); go_simp; first | (refine hK _ ?_; clear hK K) | (apply Exists.intro; refine ⟨?_, hK _ ?_⟩; (· (intro w' hw'; first | fail | (have hcw := hw'.cell; go_simp; exact rfl))); clear hK K))
      refine wpQuiet_nil ?_
      intro wq hq
      clear inbNe inbW inbU
      have m0 := d0.on hq.below
      have m1 := d1.on hq.below
      have m2 := d2.on hq.below
      have m3 := d3.on hq.below
      have m5 := d5.on hq.below
      have btm := btd.trans (hq.below.mono btd.size)
      have hm0 := m0.lt
      have hm3 := m3.lt
      have hm5 := m5.lt
      have ky := Blk.word (l := kTab) (by rw [← Hkv.out]; exact m0) (k := k) (by rw [kTab_len]; exact hlt)
      have wy := Blk.word m3 (k := k) (by rw [HWl.out]; exact hlt)
      rw [← Hz.out] at ky
      rw [← Hy.out] at wy
      obtain ⟨p0, p1, p2, p3, p4, p5, p6, p7⟩ := Blk.eight m5
      have hfm := m5.free
      clear hq
      go_wp2
      refine region_inb (by kernel_rfl) (by kernel_rfl) ?_
      have inbNe := InB.some
      have inbW := @wrap_small
      have inbU := IntKind.wrap_u8'
      repeat (refine wpQuiet_step (fun K hK => ?_); go_simp; first | (refine hK _ ?_; clear hK K) | (apply Exists.intro; refine ⟨?_, hK _ ?_⟩; (· (intro w' hw'; first | (go_at_call 106; refine (rright_any _ _ (by decide) _).mono ?_; rintro e w1 ⟨rfl, b1⟩; exact ⟨rfl, hw'.on b1⟩) | (have hcw := hw'.cell; go_simp; exact rfl))); clear hK K))
      refine wpQuiet_nil ?_
      intro wq hq
      clear inbNe inbW inbU
      have n0 := m0.on hq.below
      have n1 := m1.on hq.below
      have n2 := m2.on hq.below
      have n3 := m3.on hq.below
      have n5 := m5.on hq.below
      have btn := btm.trans (hq.below.mono btm.size)
      have hn0 := n0.lt
      have hn3 := n3.lt
      have hn5 := n5.lt
      have ky := Blk.word (l := kTab) (by rw [← Hkv.out]; exact n0) (k := k) (by rw [kTab_len]; exact hlt)
      have wy := Blk.word n3 (k := k) (by rw [HWl.out]; exact hlt)
      rw [← Hz.out] at ky
      rw [← Hy.out] at wy
      obtain ⟨p0, p1, p2, p3, p4, p5, p6, p7⟩ := Blk.eight n5
      have hfn := n5.free
      clear hq
      go_wp2
      refine region_inb (by kernel_rfl) (by kernel_rfl) ?_
      have inbNe := InB.some
      have inbW := @wrap_small
      have inbU := IntKind.wrap_u8'
      repeat (refine wpQuiet_step (fun K hK => ?_); go_simp; first | (refine hK _ ?_; clear hK K) | (apply Exists.intro; refine ⟨?_, hK _ ?_⟩; (· (intro w' hw'; first | (go_at_call 106; refine (rright_any _ _ (by decide) _).mono ?_; rintro e w1 ⟨rfl, b1⟩; exact ⟨rfl, hw'.on b1⟩) | (have hcw := hw'.cell; go_simp; exact rfl))); clear hK K))
      refine wpQuiet_nil ?_
      intro wq hq
      clear inbNe inbW inbU
      have o0 := n0.on hq.below
      have o1 := n1.on hq.below
      have o2 := n2.on hq.below
      have o3 := n3.on hq.below
      have o5 := n5.on hq.below
      have bto := btn.trans (hq.below.mono btn.size)
      have ho5 := o5.lt
      obtain ⟨p0, p1, p2, p3, p4, p5, p6, p7⟩ := Blk.eight o5
      clear hq
      obtain ⟨X, hX⟩ : ∃ X, X = r.h + (rot r.e 6 ^^^ rot r.e 11 ^^^ rot r.e 25) + (r.e &&& r.f ^^^ ~~~r.e &&& r.g) + z + y := ⟨_, rfl⟩
      obtain ⟨Y, hY⟩ : ∃ Y, Y = rot r.a 2 ^^^ rot r.a 13 ^^^ rot r.a 22 := ⟨_, rfl⟩
      obtain ⟨Z, hZ⟩ : ∃ Z, Z = Y + (r.a &&& r.b ^^^ r.a &&& r.c ^^^ r.b &&& r.c) := ⟨_, rfl⟩
      rw [← hX, ← hY, ← hZ]
      have Hv := Lib.hid (show round r z y = ⟨X + Z, r.a, r.b, r.c, r.d + X, r.e, r.f, r.g⟩ by rw [round, xOf, yOf, hX, hZ, hY, ch_eq, maj_eq])
      clear hX hY hZ
      go_wp2_with (first
        | ((with_reducible show wpList _ _ _ (⟨none, .store 98 _ _, _, _, _, _⟩ :: _) _ _); refine wpList_storeN rfl 98 _ _ rfl rfl (ys := H8.vals ⟨X + Z, r.a, r.b, r.c, r.d + X, r.e, r.f, r.g⟩) rfl o5 rfl (vw_one _) size23 ?_; intro w9 hb9 hg9)
        | fail)
      have u0 := o0.grown hg9 (by simp; omega)
      have u1 := o1.grown hg9 (by simp; omega)
      have u2 := o2.grown hg9 (by simp; omega)
      have u3 := o3.grown hg9 (by simp; omega)
      have btu := below_row bto hg9 (by omega) bto.size
      go_roundw
      case rel =>
        exact ⟨k + 1, by omega, by go_num, u0, u1, u2, u3, by rw [Hr.out, Hv.out]; exact hb9, btu⟩
      case measure => simp [intOf]; omega
    · obtain rfl : k = 64 := by omega
      have HW2 := Lib.hid (show (rounds W s 64).add s = (rounds (wl l 64) s 64).add s by rw [HW.out])
      obtain ⟨r, hr'⟩ : ∃ r, r = rounds W s 64 := ⟨_, rfl⟩
      rw [← hr'] at d5 HW2
      clear hr' HW HWl Hkv
      go_wp2
      go_loopw [14] (fun i wx => ∃ k : Nat, k ≤ 8 ∧ i = .int .i64 k ∧ Blk wx B5 (vw (r.part s k)) ∧ Blk wx B2 (vw (List.replicate 8 0)) ∧ Blk wx B1 s.vals ∧ Below w.heap.size w wx) (fun i _ => 8 - (intOf i).toNat)
      case atStart => exact ⟨0, by omega, rfl, by rw [H8.part_zero]; exact d5, d2, d1, btd⟩
      case round =>
        clear d0 d1 d2 d3 d5 btd
        obtain ⟨k, hk8, rfl, d0, d1, d2, bt⟩ := hrel
        by_cases hlt : k < 8
        · have g0 := Blk.word d0 (k := k) (by rw [H8.part_len]; exact hlt)
          have g2 := Blk.word d2 (k := k) (by rw [H8.list_len]; exact hlt)
          rw [H8.part_get] at g0
          have Hs := Lib.hid (H8.part_set r s k hlt)
          obtain ⟨x, hx⟩ : ∃ x, x = r.list.getD k 0 := ⟨_, rfl⟩
          obtain ⟨y, hy⟩ : ∃ x, x = s.list.getD k 0 := ⟨_, rfl⟩
          rw [← hx] at g0 Hs
          rw [← hy] at g2 Hs
          clear hx hy
          have hB := d0.lt
          have hBB := d2.lt
          go_wp2
          refine region_inb_tail 9 (by kernel_rfl) (by kernel_rfl) ?_
          simp only [List.take_succ_cons, List.take_zero, List.drop_succ_cons, List.drop_zero]
          have inbNe := InB.some
          have inbW := @wrap_small
          have inbU := IntKind.wrap_u8'
          repeat (refine wpQuiet_step (fun K hK => ?_); go_simp; first | (refine hK _ ?_; clear hK K) | (apply Exists.intro; refine ⟨?_, hK _ ?_⟩; (· (intro w' hw'; first | fail | (have hcw := hw'.cell; go_simp; exact rfl))); clear hK K))
          refine wpQuiet_nil ?_
          intro wq hq
          clear inbNe inbW inbU
          have m0 := d0.on hq.below
          have m1 := d1.on hq.below
          have m2 := d2.on hq.below
          have btm := bt.trans (hq.below.mono bt.size)
          have g0' := (hq.cell _ _ hB).trans g0
          have hf' := m0.free
          clear hq g0 g2
          go_wp2
          go_roundw
          case rel =>
            have hset := m0.set (k := k) (e32 (x + y))
            rw [vw_set, Hs.out] at hset
            first
              | exact ⟨k + 1, by omega, by go_num, hset, m1.other _ (by omega), m2.other _ (by omega), btm.setCell (by show w.heap.size ≤ B5; omega) _⟩
              | (repeat apply Exists.intro
                 exact ⟨⟨k + 1, by omega, by go_num, hset, m1.other _ (by omega), m2.other _ (by omega), btm.setCell (by show w.heap.size ≤ B5; omega) _⟩, rfl⟩)
          case measure => simp [intOf]; omega
        · obtain rfl : k = 8 := by omega
          rw [H8.part_all] at d0
          go_wp2_with (first
            | ((with_reducible show wpList _ _ _ (⟨some 117, _, _, _, _, _⟩ :: _) _ _); refine wpList_loadA rfl 98 _ rfl rfl d0 Tryd.underlying98 size23 ?_)
            | ((with_reducible show wpList _ _ _ (⟨none, .store 98 _ _, _, _, _, _⟩ :: _) _ _); refine wpList_storeN rfl 98 _ _ rfl rfl (ys := (r.add s).vals) rfl d1 rfl (vw_one _) size23 ?_; intro w9 hb9 hg9))
          refine bodyPost_ret (v := h8V (r.add s)) (results_arr Tryd.results84 _ hb9 Tryd.underlying98 size23 rfl) rfl ⟨?_, below_row bt hg9 (by omega) bt.size⟩
          rw [← HW2.out]
theorem rwith_any (s : H8) (A : Option Addr) (l : List UInt8) (n c : Nat) (w : World) (hn : n = l.length) (hc : n ≤ c) (hcm : c ≤ maxLen) (hr : Rd w w.heap.size A (l.map e8)) :
    Calls Tryd.prog 84 #[arrV (vw kTab), h8V s, .slice A n c] w fun e w' => e = .returned (h8V (block s l)) ∧ Below w.heap.size w w' := by
  subst hn
  by_cases h : l.length = 64
  · rw [block, if_pos h, h]
    exact rwith_yes s A l c w h (by omega) hcm hr
  · rw [block, if_neg h]
    exact rwith_no s A _ c w h (by omega)
end Go.Proofs.YteecbjpnnklbpaaDoor.Sha

/- The walks of the reference's table and sum. -/
namespace Go.Proofs.YteecbjpnnklbpaaDoor.Sha
open Go.RowKit
set_option linter.unusedVariables false
set_option maxRecDepth 100000
theorem rd_row {w w' : World} {b off g : Nat} {xs : List Value} (h : Rd w w.heap.size (some ⟨b, off, none⟩) xs) (hg : w.grownBy w' (some g)) (hb : b ≠ g) : Rd w' w'.heap.size (some ⟨b, off, none⟩) xs := fun hne => by
  obtain ⟨b', off', e, hlt, hc⟩ := h hne
  cases e
  exact ⟨b, off, rfl, Nat.lt_of_lt_of_le hlt hg.size, fun i hi => (World.cell?_of_block (hg.block b hlt (fun e => hb (by cases e; rfl)))).trans (hc i hi)⟩
set_option maxHeartbeats 400000 in
theorem table_any (w : World) : Calls Tryd.prog 82 #[] w fun e w' => e = .returned (arrV (vw kTab)) ∧ Below w.heap.size w w' := by
  have hl : W64.length = (vw kTab).length := by rw [vkTab_len]; rfl
  have hs : (Tryd.prog.info? 96).map (·.size) = some (vw kTab).length := by rw [vkTab_len]; exact size28
  have HL := Lib.hid hl
  have HS := Lib.hid hs
  clear hl hs
  go_enter Tryd.func82, Tryd.ntmps82
  go_wp2_with (first
    | ((with_reducible show wpList _ _ _ (⟨some 0, _, _, _, _, _⟩ :: _) _ _); refine wpList_allocN rfl _ rfl W64 zero28 ?_; intro w1 hb1 bw1 hs1)
    | ((with_reducible show wpList _ _ _ (⟨some 1, _, _, _, _, _⟩ :: _) _ _); refine wpList_run rfl (arrV (vw kTab)) (by kernel_rfl) ?_)
    | (refine wpList_storeN rfl 96 _ _ rfl rfl (ys := vw kTab) rfl hb1 HL.out (vw_one _) HS.out ?_; intro w2 hb2 hg2))
  exact bodyPost_ret (v := arrV (vw kTab)) (results_arr Tryd.results82 _ hb2 Tryd.underlying96 HS.out rfl) rfl ⟨rfl, below_row bw1 hg2 (Nat.le_refl _) bw1.size⟩
set_option maxHeartbeats 800000 in
theorem rsum_any (A : Option Addr) (l : List UInt8) (n c : Nat) (w : World) (hn : n = l.length) (hr : Rd w w.heap.size A (l.map e8)) (hl : l.length ≤ 1000000000) :
    Calls Tryd.prog 63 #[.slice A n c] w fun e w' => RetB 5 w (sum l) e w' := by
  subst hn
  obtain ⟨i0, hi0, hz0, hz1, hz2⟩ := info_parts Num.info8
  have hl : W64.length = (vw kTab).length := by rw [vkTab_len]; rfl
  have hs : (Tryd.prog.info? 96).map (·.size) = some (vw kTab).length := by rw [vkTab_len]; exact size28
  have HL := Lib.hid hl
  have HS := Lib.hid hs
  clear hl hs
  go_enter Tryd.func63, Tryd.ntmps63
  go_wp2_with fail
  refine (table_any w).mono ?_
  rintro e w1 ⟨rfl, bw1⟩
  go_wp2_with (first
    | ((with_reducible show wpList _ _ _ (⟨some 3, _, _, _, _, _⟩ :: _) _ _); refine wpList_allocN rfl _ rfl W64 zero28 ?_; intro w2 hb2 bw2 hs2; have bt2 := bt bw1 bw2)
    | ((with_reducible show wpList _ _ _ (⟨none, .store 96 _ _, _, _, _, _⟩ :: _) _ _); refine wpList_storeN rfl 96 _ _ rfl rfl (ys := vw kTab) rfl hb2 HL.out (vw_one _) HS.out ?_; intro w3 hb3 hg3; have bt3 := below_row bt2 hg3 bw1.size bt2.size)
    | ((with_reducible show wpList _ _ _ (⟨some 10, _, _, _, _, _⟩ :: _) _ _); refine wpList_run rfl (h8V first) rfl ?_)
    | ((with_reducible show wpList _ _ _ (⟨some 4, _, _, _, _, _⟩ :: _) _ _); refine wpList_allocN rfl _ rfl (vw (List.replicate 8 0)) zero23 ?_; intro w4 hb4 bw4 hs4; have hb34 := hb3.on bw4; have bt4 := bt bt3 bw4)
    | ((with_reducible show wpList _ _ _ (⟨none, .store 98 _ _, _, _, _, _⟩ :: _) _ _); refine wpList_storeN rfl 98 _ _ rfl rfl (ys := first.vals) rfl hb4 rfl (vw_one _) size23 ?_; intro w5 hb5 hg5)
    | fail)
  have k1 := bw1.size
  have k3 := hg3.size
  have hb35 := hb34.grown hg5 (by simp; omega)
  have bt5 := below_row bt4 hg5 bt3.size bt4.size
  refine (rpad_any l.length _ rfl (by omega) w5).mono ?_
  rintro e w6 ⟨A6, c6, rfl, own6, bw6⟩
  have bt6 := bt bt5 bw6
  have hb36 := hb35.on bw6
  have hb56 := hb5.on bw6
  have hpl := padB_le l.length
  go_wp2_with fail
  refine (R1.join_any A A6 l (padB l.length) _ _ _ _ w6 rfl rfl (hr.on bt6) (Rd.own own6) (by omega)).mono ?_
  rintro e w7 ⟨A7, c7, rfl, own7, bw7⟩
  have bt7 := bt bt6 bw7
  have hb37 := hb36.on bw7
  have hb57 := hb56.on bw7
  have hwl : (whole l).length ≤ 1000000072 := by rw [whole, List.length_append]; omega
  rw [show l ++ padB l.length = whole l from rfl] at own7 ⊢
  obtain ⟨m, hm⟩ : ∃ m, (whole l).length = 64 * m := ⟨(whole l).length / 64, by have := whole_mod l; omega⟩
  have hres : sum l = out8 (turned (whole l) m) := by rw [sum, hm, Nat.mul_div_cancel_left _ (by omega)]
  have Hres := Lib.hid hres
  have hm0 : 0 < m := by
    rcases Nat.eq_zero_or_pos m with h | h
    · subst h; simp [whole, padB] at hm
    · exact h
  obtain ⟨g7, rfl, hg7, hcap, hrd⟩ : ∃ g, A7 = some ⟨g, 0, none⟩ ∧ w6.heap.size ≤ g ∧ (64 * m ≤ c7 ∧ c7 ≤ maxLen) ∧ Rd w7 w7.heap.size (some ⟨g, 0, none⟩) ((whole l).map e8) := by
    have hcap := own_cap own7
    have hrd := Rd.own own7
    rcases own7.2 with ⟨hv, hn⟩ | ⟨g, cap, cur, hv, hg, _⟩
    · omega
    · injection hv with hA _ _
      subst hA
      exact ⟨g, rfl, hg, by rw [← hm]; exact hcap, hrd⟩
  have hlt6 := hb56.lt
  rw [hm]
  obtain ⟨all, hall⟩ : ∃ all, all = whole l := ⟨_, rfl⟩
  rw [← hall] at hrd hm hwl Hres
  have Hm := Lib.hid hm
  obtain ⟨Bk, e1⟩ : ∃ B, B = w1.heap.size := ⟨_, rfl⟩
  obtain ⟨Bh, e2⟩ : ∃ B, B = w3.heap.size := ⟨_, rfl⟩
  rw [← e1] at hb37
  rw [← e2] at hb57
  rw [← e1, ← e2]
  have l01 : w.heap.size ≤ Bk := by omega
  have l12 : Bk < Bh := by omega
  have l27 : g7 ≠ Bh := by omega
  obtain ⟨M, hM⟩ : ∃ M, M = 64 * m := ⟨_, rfl⟩
  rw [← hM] at hcap ⊢
  have HM := Lib.hid hM
  have hM' : M ≤ 1000000072 := by omega
  have HT := Lib.hid (show H8 = H8 from rfl)
  clear hM hm hres hall e1 e2 own6 own7 hb2 hb3 hb34 hb4 hb5 hb35 hb36 hb56 hg3 hg5 bw1 bw2 bw4 bw6 bw7 bt2 bt3 bt4 bt5 bt6 hs2 hs4 k1 k3 hpl
  unfold maxLen at hcap
  obtain ⟨hc1, hc2⟩ := hcap
  have hB7 : w.heap.size ≤ w7.heap.size := bt7.size
  go_wp2_with fail
  go_loopw [6] (fun i wr => ∃ k j : Nat, k ≤ m ∧ Hid (j = 64 * k) ∧ i = .int .i64 (j : Int) ∧ Blk wr Bk (vw kTab) ∧ Blk wr Bh (turned all k).vals ∧ Below w.heap.size w wr ∧ Rd wr wr.heap.size (some ⟨g7, 0, none⟩) (all.map e8)) (fun i _ => M + 1 - (intOf i).toNat)
  case atStart => exact ⟨0, 0, by omega, Lib.hid rfl, rfl, hb37, hb57, bt7, hrd⟩
  case round =>
    obtain ⟨k, j, hk, hj, rfl, d3, d4, bt, hrr⟩ := hrel
    have hj' := hj.out
    have hm' := HM.out
    by_cases hlt : k < m
    · have hjM : j + 64 ≤ M := by omega
      have hjM' : (j : Int) + 64 ≤ (M : Int) := by omega
      clear hj' hm'
      have hM1 := Hm.out
      have hlx : (blk all k).length = 64 := by rw [blk, List.length_take, List.length_drop]; omega
      have hrd2 : Rd wr wr.heap.size (some ⟨g7, j, none⟩) ((blk all k).map e8) := by
        have h1 := hrr.drop j
        simp only [Option.map_some, Addr.add_lit, Nat.zero_add] at h1
        rw [blk, List.map_take, List.map_drop, ← hj.out]
        exact h1.take 64
      obtain ⟨R, hR⟩ : ∃ R, R = turned all k := ⟨_, rfl⟩
      rw [← hR] at d4
      obtain ⟨bl, hbl⟩ : ∃ bl, bl = blk all k := ⟨_, rfl⟩
      rw [← hbl] at hrd2 hlx
      have HR := Lib.hid (show turned all (k + 1) = block R bl by rw [turned, hR, hbl])
      clear hM1 hR hbl
      have Hlx := Lib.hid hlx
      clear hlx
      have q64 : IntKind.i64.wrap ((j : Int) + 64) = (j : Int) + 64 := wrap_small (by omega) (by omega)
      have t64 : ((j : Int) + 64).toNat = j + 64 := by omega
      have d64 : (0 : Int) ≤ (j : Int) + 64 := by omega
      have c64 : (j : Int) + 64 ≤ (c7 : Int) := by omega
      have e64 : (j : Int) ≤ (j : Int) + 64 := by omega
      have ne64 : ¬ c7 = j := by omega
      go_wp2
      refine region_inb_tail 8 (by kernel_rfl) (by kernel_rfl) ?_
      simp only [List.take_succ_cons, List.take_zero, List.drop_succ_cons, List.drop_zero]
      have inbNe := InB.some
      have inbW := @wrap_small
      have inbU := IntKind.wrap_u8'
      repeat (first | (with_reducible refine wpQuiet_nil ?_; fail) | ((with_reducible show wpQuiet _ _ _ _ (⟨some 23, _, _, _, _, _⟩ :: _) _); refine wpQuiet_loadA rfl 96 _ rfl rfl (fun w' hw' => d3.on hw'.below) Tryd.underlying96 HS.out ?_) | ((with_reducible show wpQuiet _ _ _ _ (⟨some 24, _, _, _, _, _⟩ :: _) _); refine wpQuiet_loadA rfl 98 _ rfl rfl (fun w' hw' => d4.on hw'.below) Tryd.underlying98 size23 ?_) | (refine wpQuiet_step (fun K hK => ?_); go_simp; first | (refine hK _ ?_; clear hK K) | (apply Exists.intro; refine ⟨?_, hK _ ?_⟩; (· (intro w' hw'; first | (go_at_call 84; refine (rwith_any R (some ⟨g7, j, none⟩) bl 64 _ _ Hlx.out.symm (by omega) (by unfold maxLen; omega) (hrd2.on hw'.below)).mono ?_; rintro e w1 ⟨rfl, b1⟩; exact ⟨rfl, hw'.on b1⟩) | (have hcw := hw'.cell; go_simp; exact rfl))); clear hK K)))
      refine wpQuiet_nil ?_
      intro wq hq
      clear inbNe inbW inbU
      have m3 := d3.on hq.below
      have m4 := d4.on hq.below
      have mr := hrr.on hq.below
      have btm := bt.trans (hq.below.mono bt.size)
      clear hq
      obtain ⟨S, hS⟩ : ∃ S, S = block R bl := ⟨_, rfl⟩
      rw [← hS] at HR ⊢
      clear hS
      refine wpList_storeN rfl 98 _ _ rfl rfl (ys := S.vals) rfl m4 rfl (vw_one _) size23 ?_
      intro w9 hb9 hg9
      have mr9 := rd_row mr hg9 l27
      have m39 := m3.grown hg9 (by simp; omega)
      have bt9 := below_row btm hg9 (by omega) btm.size
      go_wp2
      go_roundw
      case rel => exact ⟨k + 1, j + 64, by omega, Lib.hid (by rw [hj.out]; omega), by go_num, m39, by rw [HR.out]; exact hb9, bt9, mr9⟩
      case measure => simp [intOf]; omega
    · obtain rfl : k = m := by omega
      obtain rfl : j = M := by omega
      have hjM : ¬ ((j : Int) + 64 ≤ (j : Int)) := by omega
      clear hj' hm'
      obtain ⟨S, hS⟩ : ∃ S, S = turned all k := ⟨_, rfl⟩
      obtain ⟨W0, rfl⟩ : ∃ x, x = wr := ⟨_, rfl⟩
      rw [← hS] at d4 Hres
      clear hS
      go_wp2
      go_loopw [7, 8] (fun v i wx => ∃ k : Nat, k ≤ 8 ∧ i = .int .i64 k ∧ wx.ownsRow W0.heap.size 5 1 v (4 * k) ((outK S k).map e8) ∧ Below W0.heap.size W0 wx) (fun _ i _ => 8 - (intOf i).toNat)
      case atStart => exact ⟨0, by omega, rfl, own_nil _ _ _ _, Below.refl _ _⟩
      case round =>
        obtain ⟨k, hk8, rfl, hown, bel⟩ := hrel
        by_cases hlt : k < 8
        · have hbx := d4.on bel
          have hix := Blk.word hbx (k := k) (by rw [H8.list_len]; exact hlt)
          have Hs := Lib.hid (outK_succ S k hlt)
          obtain ⟨y, hy⟩ : ∃ y, y = S.list.getD k 0 := ⟨_, rfl⟩
          rw [← hy] at hix Hs
          clear hy
          have hu := UInt64.toNat_ofNat' (n := y.toNat)
          have hy32 := y.toNat_lt
          have hu' : (UInt64.ofNat y.toNat).toNat = y.toNat := by omega
          have hcv : c32 y = ((UInt64.ofNat y.toNat).toNat : Int) := by unfold c32; omega
          have y0 := c32_lo y
          have y1 := c32_hi y
          have hpt := Num.rput_any (UInt64.ofNat y.toNat) (c32 y) hcv 4 4 rfl (by omega) (by omega) wr
          rw [hu'] at hpt
          clear hu hu' hcv
          have hl4 := Num.putL_len y.toNat 4
          obtain ⟨p, hp⟩ : ∃ p, p = Num.putL y.toNat 4 := ⟨_, rfl⟩
          rw [← hp] at hpt hl4 Hs
          clear hp
          go_wp2_with fail
          refine hpt.mono ?_
          clear hpt
          rintro e w8 ⟨A8, c8, rfl, own8, bw8⟩
          rw [hl4] at own8 ⊢
          have Hl4 := Lib.hid hl4
          clear hl4
          have hown8 := own_on hown bw8
          have bel8 := Go.Proofs.YteecbjpnnklbpaaDoor.bt bel bw8
          go_wp2_with (at_builtin; refine wpList_append_rd _ rfl _ _ _ rfl W0.heap.size 5 i0 _ 1 1 Tryd.underlying37 hi0 hz0 hz1 hz2 rfl (by omega) _ (4 * k) _ rfl hown8 _ A8 4 c8 (p.map e8) rfl (by simp [Hl4.out]) (Rd.own own8) (e8_one _) (by simp only [maxLen]; omega) (by omega) bel8.size ?_; intro v9 w9 hown9 hg9 hat9)
          go_roundw
          case rel => exact ⟨k + 1, by omega, by go_num, by rw [Hs.out, List.map_append]; exact hown9, bel8.grown hg9 bel8.size (fun g hg => own_block hown8 hg)⟩
          case measure => simp [intOf]; omega
        · obtain rfl : k = 8 := by omega
          rw [outK_all] at hown
          go_wp2
          go_ret
          rw [Hres.out]
          exact RetB.mk (own_base hown bt.size) rfl (bt.trans (bel.mono bt.size))
end Go.Proofs.YteecbjpnnklbpaaDoor.Sha
