/- The walks of the reference's table and sum. -/
import Derived.Test.YtggldbadefbdaaaDoorShaR2
namespace Go.Proofs.YtggldbadefbdaaaDoor.Sha
open Go.RowKit
set_option linter.unusedVariables false
set_option maxRecDepth 100000
theorem rd_row {w w' : World} {b off g : Nat} {xs : List Value} (h : Rd w w.heap.size (some ⟨b, off, none⟩) xs) (hg : w.grownBy w' (some g)) (hb : b ≠ g) : Rd w' w'.heap.size (some ⟨b, off, none⟩) xs := fun hne => by
  obtain ⟨b', off', e, hlt, hc⟩ := h hne
  cases e
  exact ⟨b, off, rfl, Nat.lt_of_lt_of_le hlt hg.size, fun i hi => (World.cell?_of_block (hg.block b hlt (fun e => hb (by cases e; rfl)))).trans (hc i hi)⟩
set_option maxHeartbeats 400000 in
theorem table_any (w : World) : Calls Tryd.prog 21 #[] w fun e w' => e = .returned (arrV (vw kTab)) ∧ Below w.heap.size w w' := by
  have hl : W64.length = (vw kTab).length := by rw [vkTab_len]; rfl
  have hs : (Tryd.prog.info? 28).map (·.size) = some (vw kTab).length := by rw [vkTab_len]; exact size28
  have HL := Lib.hid hl
  have HS := Lib.hid hs
  clear hl hs
  go_enter Tryd.func21, Tryd.ntmps21
  go_wp2_with (first
    | ((with_reducible show wpList _ _ _ (⟨some 0, _, _, _, _, _⟩ :: _) _ _); refine wpList_allocN rfl _ rfl W64 zero28 ?_; intro w1 hb1 bw1 hs1)
    | ((with_reducible show wpList _ _ _ (⟨some 1, _, _, _, _, _⟩ :: _) _ _); refine wpList_run rfl (arrV (vw kTab)) (by kernel_rfl) ?_)
    | (refine wpList_storeN rfl 28 _ _ rfl rfl (ys := vw kTab) rfl hb1 HL.out (vw_one _) HS.out ?_; intro w2 hb2 hg2))
  exact bodyPost_ret (v := arrV (vw kTab)) (results_arr Tryd.results21 _ hb2 Tryd.underlying28 HS.out rfl) rfl ⟨rfl, below_row bw1 hg2 (Nat.le_refl _) bw1.size⟩
set_option maxHeartbeats 800000 in
theorem rsum_any (A : Option Addr) (l : List UInt8) (n c : Nat) (w : World) (hn : n = l.length) (hr : Rd w w.heap.size A (l.map e8)) (hl : l.length ≤ 1000000000) :
    Calls Tryd.prog 23 #[.slice A n c] w fun e w' => RetB 5 w (sum l) e w' := by
  subst hn
  obtain ⟨i0, hi0, hz0, hz1, hz2⟩ := info_parts Num.info8
  have hl : W64.length = (vw kTab).length := by rw [vkTab_len]; rfl
  have hs : (Tryd.prog.info? 28).map (·.size) = some (vw kTab).length := by rw [vkTab_len]; exact size28
  have HL := Lib.hid hl
  have HS := Lib.hid hs
  clear hl hs
  go_enter Tryd.func23, Tryd.ntmps23
  go_wp2_with fail
  refine (table_any w).mono ?_
  rintro e w1 ⟨rfl, bw1⟩
  go_wp2_with (first
    | ((with_reducible show wpList _ _ _ (⟨some 3, _, _, _, _, _⟩ :: _) _ _); refine wpList_allocN rfl _ rfl W64 zero28 ?_; intro w2 hb2 bw2 hs2; have bt2 := bt bw1 bw2)
    | ((with_reducible show wpList _ _ _ (⟨none, .store 28 _ _, _, _, _, _⟩ :: _) _ _); refine wpList_storeN rfl 28 _ _ rfl rfl (ys := vw kTab) rfl hb2 HL.out (vw_one _) HS.out ?_; intro w3 hb3 hg3; have bt3 := below_row bt2 hg3 bw1.size bt2.size)
    | ((with_reducible show wpList _ _ _ (⟨some 10, _, _, _, _, _⟩ :: _) _ _); refine wpList_run rfl (h8V first) rfl ?_)
    | ((with_reducible show wpList _ _ _ (⟨some 4, _, _, _, _, _⟩ :: _) _ _); refine wpList_allocN rfl _ rfl (vw (List.replicate 8 0)) zero23 ?_; intro w4 hb4 bw4 hs4; have hb34 := hb3.on bw4; have bt4 := bt bt3 bw4)
    | ((with_reducible show wpList _ _ _ (⟨none, .store 23 _ _, _, _, _, _⟩ :: _) _ _); refine wpList_storeN rfl 23 _ _ rfl rfl (ys := first.vals) rfl hb4 rfl (vw_one _) size23 ?_; intro w5 hb5 hg5)
    | fail)
  have k1 := bw1.size
  have k3 := hg3.size
  have hb35 := hb34.grown hg5 (by simp; omega)
  have bt5 := below_row bt4 hg5 bt3.size bt4.size
  refine (rpad_any l.length _ rfl (by omega) w5).mono ?_
  rintro e w6 ⟨A6, c6, rfl, own6, bw6⟩
  have bt6 := bt bt5 bw6
  have hb36 := hb35.on bw6
  have hb56 := hb5.on bw6
  have hpl := padB_le l.length
  go_wp2_with fail
  refine (R1.join_any A A6 l (padB l.length) _ _ _ _ w6 rfl rfl (hr.on bt6) (Rd.own own6) (by omega)).mono ?_
  rintro e w7 ⟨A7, c7, rfl, own7, bw7⟩
  have bt7 := bt bt6 bw7
  have hb37 := hb36.on bw7
  have hb57 := hb56.on bw7
  have hwl : (whole l).length ≤ 1000000072 := by rw [whole, List.length_append]; omega
  rw [show l ++ padB l.length = whole l from rfl] at own7 ⊢
  obtain ⟨m, hm⟩ : ∃ m, (whole l).length = 64 * m := ⟨(whole l).length / 64, by have := whole_mod l; omega⟩
  have hres : sum l = out8 (turned (whole l) m) := by rw [sum, hm, Nat.mul_div_cancel_left _ (by omega)]
  have Hres := Lib.hid hres
  have hm0 : 0 < m := by
    rcases Nat.eq_zero_or_pos m with h | h
    · subst h; simp [whole, padB] at hm
    · exact h
  obtain ⟨g7, rfl, hg7, hcap, hrd⟩ : ∃ g, A7 = some ⟨g, 0, none⟩ ∧ w6.heap.size ≤ g ∧ (64 * m ≤ c7 ∧ c7 ≤ maxLen) ∧ Rd w7 w7.heap.size (some ⟨g, 0, none⟩) ((whole l).map e8) := by
    have hcap := own_cap own7
    have hrd := Rd.own own7
    rcases own7.2 with ⟨hv, hn⟩ | ⟨g, cap, cur, hv, hg, _⟩
    · omega
    · injection hv with hA _ _
      subst hA
      exact ⟨g, rfl, hg, by rw [← hm]; exact hcap, hrd⟩
  have hlt6 := hb56.lt
  rw [hm]
  obtain ⟨all, hall⟩ : ∃ all, all = whole l := ⟨_, rfl⟩
  rw [← hall] at hrd hm hwl Hres
  have Hm := Lib.hid hm
  obtain ⟨Bk, e1⟩ : ∃ B, B = w1.heap.size := ⟨_, rfl⟩
  obtain ⟨Bh, e2⟩ : ∃ B, B = w3.heap.size := ⟨_, rfl⟩
  rw [← e1] at hb37
  rw [← e2] at hb57
  rw [← e1, ← e2]
  have l01 : w.heap.size ≤ Bk := by omega
  have l12 : Bk < Bh := by omega
  have l27 : g7 ≠ Bh := by omega
  obtain ⟨M, hM⟩ : ∃ M, M = 64 * m := ⟨_, rfl⟩
  rw [← hM] at hcap ⊢
  have HM := Lib.hid hM
  have hM' : M ≤ 1000000072 := by omega
  have HT := Lib.hid (show H8 = H8 from rfl)
  clear hM hm hres hall e1 e2 own6 own7 hb2 hb3 hb34 hb4 hb5 hb35 hb36 hb56 hg3 hg5 bw1 bw2 bw4 bw6 bw7 bt2 bt3 bt4 bt5 bt6 hs2 hs4 k1 k3 hpl
  unfold maxLen at hcap
  obtain ⟨hc1, hc2⟩ := hcap
  have hB7 : w.heap.size ≤ w7.heap.size := bt7.size
  go_wp2_with fail
  go_loopw [6] (fun i wr => ∃ k j : Nat, k ≤ m ∧ Hid (j = 64 * k) ∧ i = .int .i64 (j : Int) ∧ Blk wr Bk (vw kTab) ∧ Blk wr Bh (turned all k).vals ∧ Below w.heap.size w wr ∧ Rd wr wr.heap.size (some ⟨g7, 0, none⟩) (all.map e8)) (fun i _ => M + 1 - (intOf i).toNat)
  case atStart => exact ⟨0, 0, by omega, Lib.hid rfl, rfl, hb37, hb57, bt7, hrd⟩
  case round =>
    obtain ⟨k, j, hk, hj, rfl, d3, d4, bt, hrr⟩ := hrel
    have hj' := hj.out
    have hm' := HM.out
    by_cases hlt : k < m
    · have hjM : j + 64 ≤ M := by omega
      have hjM' : (j : Int) + 64 ≤ (M : Int) := by omega
      clear hj' hm'
      have hM1 := Hm.out
      have hlx : (blk all k).length = 64 := by rw [blk, List.length_take, List.length_drop]; omega
      have hrd2 : Rd wr wr.heap.size (some ⟨g7, j, none⟩) ((blk all k).map e8) := by
        have h1 := hrr.drop j
        simp only [Option.map_some, Addr.add_lit, Nat.zero_add] at h1
        rw [blk, List.map_take, List.map_drop, ← hj.out]
        exact h1.take 64
      obtain ⟨R, hR⟩ : ∃ R, R = turned all k := ⟨_, rfl⟩
      rw [← hR] at d4
      obtain ⟨bl, hbl⟩ : ∃ bl, bl = blk all k := ⟨_, rfl⟩
      rw [← hbl] at hrd2 hlx
      have HR := Lib.hid (show turned all (k + 1) = block R bl by rw [turned, hR, hbl])
      clear hM1 hR hbl
      have Hlx := Lib.hid hlx
      clear hlx
      have q64 : IntKind.i64.wrap ((j : Int) + 64) = (j : Int) + 64 := wrap_small (by omega) (by omega)
      have t64 : ((j : Int) + 64).toNat = j + 64 := by omega
      have d64 : (0 : Int) ≤ (j : Int) + 64 := by omega
      have c64 : (j : Int) + 64 ≤ (c7 : Int) := by omega
      have e64 : (j : Int) ≤ (j : Int) + 64 := by omega
      have ne64 : ¬ c7 = j := by omega
      go_wp2
      refine region_inb_tail 8 (by kernel_rfl) (by kernel_rfl) ?_
      simp only [List.take_succ_cons, List.take_zero, List.drop_succ_cons, List.drop_zero]
      have inbNe := InB.some
      have inbW := @wrap_small
      have inbU := IntKind.wrap_u8'
      repeat (first | (with_reducible refine wpQuiet_nil ?_; fail) | ((with_reducible show wpQuiet _ _ _ _ (⟨some 23, _, _, _, _, _⟩ :: _) _); refine wpQuiet_loadA rfl 28 _ rfl rfl (fun w' hw' => d3.on hw'.below) Tryd.underlying28 HS.out ?_) | ((with_reducible show wpQuiet _ _ _ _ (⟨some 24, _, _, _, _, _⟩ :: _) _); refine wpQuiet_loadA rfl 23 _ rfl rfl (fun w' hw' => d4.on hw'.below) Tryd.underlying23 size23 ?_) | (refine wpQuiet_step (fun K hK => ?_); go_simp; first | (refine hK _ ?_; clear hK K) | (apply Exists.intro; refine ⟨?_, hK _ ?_⟩; (· (intro w' hw'; first | (go_at_call 20; refine (rwith_any R (some ⟨g7, j, none⟩) bl 64 _ _ Hlx.out.symm (by omega) (by unfold maxLen; omega) (hrd2.on hw'.below)).mono ?_; rintro e w1 ⟨rfl, b1⟩; exact ⟨rfl, hw'.on b1⟩) | (have hcw := hw'.cell; go_simp; exact rfl))); clear hK K)))
      refine wpQuiet_nil ?_
      intro wq hq
      clear inbNe inbW inbU
      have m3 := d3.on hq.below
      have m4 := d4.on hq.below
      have mr := hrr.on hq.below
      have btm := bt.trans (hq.below.mono bt.size)
      clear hq
      obtain ⟨S, hS⟩ : ∃ S, S = block R bl := ⟨_, rfl⟩
      rw [← hS] at HR ⊢
      clear hS
      refine wpList_storeN rfl 23 _ _ rfl rfl (ys := S.vals) rfl m4 rfl (vw_one _) size23 ?_
      intro w9 hb9 hg9
      have mr9 := rd_row mr hg9 l27
      have m39 := m3.grown hg9 (by simp; omega)
      have bt9 := below_row btm hg9 (by omega) btm.size
      go_wp2
      go_roundw
      case rel => exact ⟨k + 1, j + 64, by omega, Lib.hid (by rw [hj.out]; omega), by go_num, m39, by rw [HR.out]; exact hb9, bt9, mr9⟩
      case measure => simp [intOf]; omega
    · obtain rfl : k = m := by omega
      obtain rfl : j = M := by omega
      have hjM : ¬ ((j : Int) + 64 ≤ (j : Int)) := by omega
      clear hj' hm'
      obtain ⟨S, hS⟩ : ∃ S, S = turned all k := ⟨_, rfl⟩
      obtain ⟨W0, rfl⟩ : ∃ x, x = wr := ⟨_, rfl⟩
      rw [← hS] at d4 Hres
      clear hS
      go_wp2
      go_loopw [7, 8] (fun v i wx => ∃ k : Nat, k ≤ 8 ∧ i = .int .i64 k ∧ wx.ownsRow W0.heap.size 5 1 v (4 * k) ((outK S k).map e8) ∧ Below W0.heap.size W0 wx) (fun _ i _ => 8 - (intOf i).toNat)
      case atStart => exact ⟨0, by omega, rfl, own_nil _ _ _ _, Below.refl _ _⟩
      case round =>
        obtain ⟨k, hk8, rfl, hown, bel⟩ := hrel
        by_cases hlt : k < 8
        · have hbx := d4.on bel
          have hix := Blk.word hbx (k := k) (by rw [H8.list_len]; exact hlt)
          have Hs := Lib.hid (outK_succ S k hlt)
          obtain ⟨y, hy⟩ : ∃ y, y = S.list.getD k 0 := ⟨_, rfl⟩
          rw [← hy] at hix Hs
          clear hy
          have hu := UInt64.toNat_ofNat' (n := y.toNat)
          have hy32 := y.toNat_lt
          have hu' : (UInt64.ofNat y.toNat).toNat = y.toNat := by omega
          have hcv : c32 y = ((UInt64.ofNat y.toNat).toNat : Int) := by unfold c32; omega
          have y0 := c32_lo y
          have y1 := c32_hi y
          have hpt := Num.rput_any (UInt64.ofNat y.toNat) (c32 y) hcv 4 4 rfl (by omega) (by omega) wr
          rw [hu'] at hpt
          clear hu hu' hcv
          have hl4 := Num.putL_len y.toNat 4
          obtain ⟨p, hp⟩ : ∃ p, p = Num.putL y.toNat 4 := ⟨_, rfl⟩
          rw [← hp] at hpt hl4 Hs
          clear hp
          go_wp2_with fail
          refine hpt.mono ?_
          clear hpt
          rintro e w8 ⟨A8, c8, rfl, own8, bw8⟩
          rw [hl4] at own8 ⊢
          have Hl4 := Lib.hid hl4
          clear hl4
          have hown8 := own_on hown bw8
          have bel8 := Go.Proofs.YtggldbadefbdaaaDoor.bt bel bw8
          go_wp2_with (at_builtin; refine wpList_append_rd _ rfl _ _ _ rfl W0.heap.size 5 i0 _ 1 1 Tryd.underlying24 hi0 hz0 hz1 hz2 rfl (by omega) _ (4 * k) _ rfl hown8 _ A8 4 c8 (p.map e8) rfl (by simp [Hl4.out]) (Rd.own own8) (e8_one _) (by simp only [maxLen]; omega) (by omega) bel8.size ?_; intro v9 w9 hown9 hg9 hat9)
          go_roundw
          case rel => exact ⟨k + 1, by omega, by go_num, by rw [Hs.out, List.map_append]; exact hown9, bel8.grown hg9 bel8.size (fun g hg => own_block hown8 hg)⟩
          case measure => simp [intOf]; omega
        · obtain rfl : k = 8 := by omega
          rw [outK_all] at hown
          go_wp2
          go_ret
          rw [Hres.out]
          exact RetB.mk (own_base hown bt.size) rfl (bt.trans (bel.mono bt.size))
end Go.Proofs.YtggldbadefbdaaaDoor.Sha
