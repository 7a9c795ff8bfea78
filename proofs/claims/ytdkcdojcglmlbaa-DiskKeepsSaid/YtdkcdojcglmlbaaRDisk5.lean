/- The reference's disk: the walk of Flush. -/
import Derived.Test.YtdkcdojcglmlbaaRDisk4
namespace Go.Proofs.Ytdkcdojcglmlbaa.Disk
open Go.RowKit
set_option linter.unusedVariables false
set_option maxRecDepth 100000
theorem seven_set {w8 : World} {a : Nat} {fq : List Nat} {t : TypeId} {u0 u1 u2 u3 u4 u5 u6 : Value} (h : BlkT w8 a t [u0, u1, u2, u3, u4, u5, u6]) (ha : a ∈ fq) (v0 v1 v2 v3 v4 v5 v6 : Value) (wx : World)
    (hx : wx = ((((((w8.setCell ⟨a, 0, none⟩ v0).setCell ⟨a, 1, none⟩ v1).setCell ⟨a, 2, none⟩ v2).setCell ⟨a, 3, none⟩ v3).setCell ⟨a, 4, none⟩ v4).setCell ⟨a, 5, none⟩ v5).setCell ⟨a, 6, none⟩ v6) :
    BlkT wx a t [v0, v1, v2, v3, v4, v5, v6] ∧ (∀ j t ys, j ≠ a → BlkT w8 j t ys → BlkT wx j t ys) ∧ Keep fq w8 wx ∧ ∀ n0 w, Below n0 w w8 → n0 ≤ a → Below n0 w wx := by
  subst hx
  refine ⟨(((((((h.set 0 v0).set 1 v1).set 2 v2).set 3 v3).set 4 v4).set 5 v5).set 6 v6), fun j t ys hj hh => (((((((hh.other 0 v0 hj).other 1 v1 hj).other 2 v2 hj).other 3 v3 hj).other 4 v4 hj).other 5 v5 hj).other 6 v6 hj), ?_, fun n0 w hb hn => ?_⟩
  · exact (((((((Keep.refl _ _).set (p := ⟨a, 0, none⟩) (.inl ha) _).set (p := ⟨a, 1, none⟩) (.inl ha) _).set (p := ⟨a, 2, none⟩) (.inl ha) _).set (p := ⟨a, 3, none⟩) (.inl ha) _).set (p := ⟨a, 4, none⟩) (.inl ha) _).set (p := ⟨a, 5, none⟩) (.inl ha) _).set (p := ⟨a, 6, none⟩) (.inl ha) _
  · exact bset (bset (bset (bset (bset (bset (bset hb hn _) hn _) hn _) hn _) hn _) hn _) hn _
set_option maxHeartbeats 2000000 in
theorem rflush_any (w : World) (fp : List Nat) (s : St) (x : Value) (hfp : ∀ j ∈ fp, j < w.heap.size) (hx : RAt w fp x s) (hok : ok s) (hs : s.sz ≤ 1000000) :
    Calls Try.prog 116 #[x] w fun e w' => ∃ x', e = .returned (.tuple #[x', .int .i64 (flush s).2]) ∧ RAt w' fp x' (flush s).1 ∧ Below w.heap.size w w' := by
  obtain ⟨vk, vw, vh, rfl, hk, hw, hh⟩ := hx
  have hal : s.all.length ≤ 1000000 := by unfold St.sz at hs; omega
  have hpl : s.pend.length ≤ 1000000 := by unfold St.sz at hs; omega
  have hcl : s.calls ≤ 1000000 := by unfold St.sz at hs; omega
  have hsum : s.pend.length + s.all.length ≤ 1000000 := by unfold St.sz at hs; omega
  obtain ⟨hf1, hf2⟩ := hok.fuse
  have hko := hk.one
  have hwo := hw.one
  have hho := hh.one
  by_cases hdn : s.down = true
  · have Hf := Lib.hid (show flush s = (s, 12) from if_pos hdn)
    have Hk := Lib.hid (fun W (bW : Below w.heap.size w W) => hk.on bW)
    have Hw := Lib.hid (fun W (bW : Below w.heap.size w W) => hw.on bW)
    have Hh := Lib.hid (fun W (bW : Below w.heap.size w W) => hh.on bW)
    clear hk hw hh
    unfold rvL
    rw [hdn]
    go_enter Try.func116, Try.ntmps116
    go_wp2_with (first
          | ((with_reducible show wpList _ _ _ (⟨some 1, _, _, _, _, _⟩ :: _) _ _); refine wpList_boxT rfl _ _ rfl (rvL s.size vk vw vh s.fuse s.calls true) rfl ?_; intro w1 hb1 bw1 hl1; obtain ⟨c0, c1, c2, c3, c4, c5, c6, fr⟩ := sevenT hb1)
          | ((with_reducible show wpList _ _ _ (⟨some 2, _, _, _, _, _⟩ :: _) _ _); refine wpList_allocT rfl _ rfl rv0 zeroRV ?_; intro w2 hb2 bw2; have hA2 := (show BlkT w2 w.heap.size _ _ from (bw2.block _ hl1).trans hb1); obtain ⟨c0, c1, c2, c3, c4, c5, c6, fr⟩ := sevenT hA2)
          | ((with_reducible show wpList _ _ _ (⟨some 7, _, _, _, _, _⟩ :: _) _ _); refine wpList_load_mid rfl _ _ rfl w.heap.size 0 rfl (rvL s.size vk vw vh s.fuse s.calls true) _ (Blk.rangeAt0 (BlkT.blk hA2)) Try.underlying108 rfl (by kernel_rfl) ?_)
          | ((with_reducible show wpList _ _ _ (⟨none, .store 108 (.tmp 2) _, _, _, _, _⟩ :: _) _ _); refine wpList_storeT rfl _ _ _ rfl rfl (ys := (rvL s.size vk vw vh s.fuse s.calls true)) rfl hb2 (by simp [rv0, rvL]) (rvL_one hko hwo hho) (by kernel_rfl) ?_; intro w3 hb3 hg3))
    obtain ⟨z0, z1, z2, z3, z4, z5, z6, _⟩ := sevenT hb3
    have b3 : Below w.heap.size w w3 := below_row (bt bw1 bw2) hg3 (Nat.le_of_lt hl1) (bt bw1 bw2).size
    refine bodyPost_ret (v := .tuple #[.agg (rvL s.size vk vw vh s.fuse s.calls true).toArray, .int .i64 12]) (by simp [results, Try.results116, go_sem, z0, z1, z2, z3, z4, z5, z6, rvL]) rfl ?_
    rw [Hf.out]
    exact ⟨_, rfl, ⟨vk, vw, vh, by rw [hdn], Hk.out _ b3, Hw.out _ b3, Hh.out _ b3⟩, b3⟩
  · have hdf : s.down = false := by simpa using hdn
    unfold rvL
    rw [hdf]
    go_enter Try.func116, Try.ntmps116
    go_upto_region 3 with (first
          | ((with_reducible show wpList _ _ _ (⟨some 1, _, _, _, _, _⟩ :: _) _ _); refine wpList_boxT rfl _ _ rfl (rvL s.size vk vw vh s.fuse s.calls false) rfl ?_; intro w1 hb1 bw1 hl1; obtain ⟨c0, c1, c2, c3, c4, c5, c6, fr⟩ := sevenT hb1)
          | ((with_reducible show wpList _ _ _ (⟨some 2, _, _, _, _, _⟩ :: _) _ _); refine wpList_allocT rfl _ rfl rv0 zeroRV ?_; intro w2 hb2 bw2; have hA2 := (show BlkT w2 w.heap.size _ _ from (bw2.block _ hl1).trans hb1); obtain ⟨c0, c1, c2, c3, c4, c5, c6, fr⟩ := sevenT hA2))
    have hl2 := lt_of_block hb2
    have ha2 := lt_of_block hA2
    have bww := bt bw1 bw2
    have hw12 : w.heap.size ≤ w1.heap.size := Nat.le_of_lt hl1
    have hne : w1.heap.size ≠ w.heap.size := by omega
    have HFQ := Lib.hid (show ∀ j ∈ w1.heap.size :: w.heap.size :: fp, j < w2.heap.size from fun j hj => by
      rcases List.mem_cons.1 hj with e | e
      · omega
      · rcases List.mem_cons.1 e with e | e
        · omega
        · have := hfp j e; omega)
    have m6 : BlkT (w2.setCell ⟨w.heap.size, 5, none⟩ (.int .i64 ((s.calls : Int) + 1))) w.heap.size 108 (rvL s.size vk vw vh s.fuse (s.calls + 1) false) := hA2.set 5 _
    have m8 := BlkT.other hb2 5 (.int .i64 ((s.calls : Int) + 1)) hne
    have bX := bww.setCell (p := ⟨w.heap.size, 5, none⟩) (Nat.le_refl _) (.int .i64 ((s.calls : Int) + 1))
    have kX : Keep (w1.heap.size :: w.heap.size :: fp) w2 (w2.setCell ⟨w.heap.size, 5, none⟩ (.int .i64 ((s.calls : Int) + 1))) := (Keep.refl _ _).set (.inl (by simp)) _
    have Hk := Lib.hid (((hk.cons (Nat.le_refl _)).cons hw12).on bww)
    have Hw := Lib.hid (((hw.cons (Nat.le_refl _)).cons hw12).on bww)
    have Hh := Lib.hid (((hh.cons (Nat.le_refl _)).cons hw12).on bww)
    clear hk hw hh hb1 bw1 bw2 hdn
    by_cases hz : s.fuse = 0
    · have Hf := Lib.hid (show flush s = ({ s with calls := s.calls + 1, down := true }, 12) from by
        unfold flush burn
        rw [if_neg (by rw [hdf]; simp), if_pos hz]
        simp)
      have m9 := m6.set 6 (.bool true)
      have m10 := m8.other 6 (.bool true) hne
      have bY := bX.setCell (p := ⟨w.heap.size, 6, none⟩) (Nat.le_refl _) (.bool true)
      have kY := kX.set (p := ⟨w.heap.size, 6, none⟩) (.inl (by simp)) (.bool true)
      have hzz : (s.fuse == 0) = true := by simp [hz]
      go_wp2_with (first
          | ((with_reducible show wpList _ _ _ (⟨some 16, _, _, _, _, _⟩ :: _) _ _); refine wpList_load_mid rfl _ _ rfl w.heap.size 0 rfl (rvL s.size vk vw vh s.fuse (s.calls + 1) true) _ (Blk.rangeAt0 (BlkT.blk m9)) Try.underlying108 rfl (by kernel_rfl) ?_)
          | ((with_reducible show wpList _ _ _ (⟨none, .store 108 (.tmp 2) _, _, _, _, _⟩ :: _) _ _); refine wpList_storeT rfl _ _ _ rfl rfl (ys := (rvL s.size vk vw vh s.fuse (s.calls + 1) true)) rfl m10 (by simp [rv0, rvL]) (rvL_one hko hwo hho) (by kernel_rfl) ?_; intro w3 hb3 hg3))
      obtain ⟨z0, z1, z2, z3, z4, z5, z6, _⟩ := sevenT hb3
      have b9 : Below w.heap.size w w3 := below_row bY hg3 hw12 bY.size
      have k9 : Keep (w1.heap.size :: w.heap.size :: fp) w2 w3 := kY.trans (Keep.of_grown hg3 (fun g e => by cases e; simp)) (Fresh.refl _ _)
      have l1 : ∀ j ∈ fp, j ∈ w1.heap.size :: w.heap.size :: fp := by intro j hj; simp [hj]
      refine bodyPost_ret (v := .tuple #[.agg (rvL s.size vk vw vh s.fuse (s.calls + 1) true).toArray, .int .i64 12]) (by simp [results, Try.results116, go_sem, z0, z1, z2, z3, z4, z5, z6, rvL]) rfl ?_
      rw [Hf.out]
      exact ⟨_, rfl, ⟨vk, vw, vh, rfl, (Hk.out.keep k9 (Fresh.refl _ _)).less l1, (Hw.out.keep k9 (Fresh.refl _ _)).less l1, (Hh.out.keep k9 (Fresh.refl _ _)).less l1⟩, b9⟩
    · have hzz : (s.fuse == 0) = false := by simp [hz]
      go_upto_region 8 with (fail)
      have m9 : BlkT _ w.heap.size 108 (rvL s.size vk vw vh (max (s.fuse - 1) (-1)) (s.calls + 1) false) := m6.set 4 (.int .i64 (max (s.fuse - 1) (-1)))
      have m10 := m8.other 4 (.int .i64 (max (s.fuse - 1) (-1))) hne
      have bY := bX.setCell (p := ⟨w.heap.size, 4, none⟩) (Nat.le_refl _) (.int .i64 (max (s.fuse - 1) (-1)))
      have kY := kX.set (p := ⟨w.heap.size, 4, none⟩) (.inl (by simp)) (.int .i64 (max (s.fuse - 1) (-1)))
      have Hf := Lib.hid (show flush s = ({ s with calls := s.calls + 1, fuse := (max (s.fuse - 1) (-1)), all := s.all ++ s.pend, pend := [] }, 0) from by
        have hb : burn s = ({ s with calls := s.calls + 1, fuse := (max (s.fuse - 1) (-1)) }, 0) := by
          unfold burn
          rw [if_neg hz]
          by_cases h0 : 0 < s.fuse
          · rw [if_pos h0, show (max (s.fuse - 1) (-1)) = s.fuse - 1 by omega]
          · rw [if_neg h0, show (max (s.fuse - 1) (-1)) = s.fuse by omega]
        unfold flush
        rw [if_neg (by rw [hdf]; simp), hb, if_pos rfl])
      obtain ⟨f', hf'⟩ : ∃ f', f' = (max (s.fuse - 1) (-1)) := ⟨_, rfl⟩
      simp only [← hf'] at m9 m10 bY kY Hf ⊢
      have hk5 := Hk.out.keep kY (Fresh.refl _ _)
      have hw5 := Hw.out.keep kY (Fresh.refl _ _)
      have hh5 := Hh.out.keep kY (Fresh.refl _ _)
      have hsz5 := kY.size
      obtain ⟨w5, hw5'⟩ : ∃ w5, w5 = ((w2.setCell ⟨w.heap.size, 5, none⟩ (.int .i64 ((s.calls : Int) + 1))).setCell ⟨w.heap.size, 4, none⟩ (.int .i64 f')) := ⟨_, rfl⟩
      rw [← hw5'] at m9 m10 bY hk5 hw5 hh5 hsz5 ⊢
      have H512 := Lib.hid (show ∀ x ∈ s.pend, x.2.length = 512 from fun x hx => (hok.pend x hx).2)
      obtain ⟨Aw, cw, _, rfl, _⟩ := id hw5
      obtain ⟨all, hall⟩ : ∃ l, l = s.all := ⟨_, rfl⟩
      obtain ⟨pend, hpend⟩ : ∃ l, l = s.pend := ⟨_, rfl⟩
      obtain ⟨size, hsize⟩ : ∃ l, l = s.size := ⟨_, rfl⟩
      obtain ⟨calls, hcalls⟩ : ∃ l, l = s.calls := ⟨_, rfl⟩
      simp only [← hall, ← hpend, ← hsize, ← hcalls] at *
      clear kY kX bX m6 m8 hw5' hA2 hb2 bww c0 c1 c2 c3 c4 c5 c6 fr Hk Hw Hh hok hf' hf1 hf2 hs
      go_wp2_with (fail)
      go_loopw [4] (fun i wr => ∃ k : Nat, k ≤ pend.length ∧ i = .int .i64 k ∧ ∃ vk' vh', BlkT wr w.heap.size 108 (rvL size vk' (.slice Aw pend.length cw) vh' f' (calls + 1) false) ∧ BlkT wr w1.heap.size 108 rv0 ∧
        WRow wr (w1.heap.size :: w.heap.size :: fp) vk' (all ++ pend.take k) ∧ WRow wr (w1.heap.size :: w.heap.size :: fp) (.slice Aw pend.length cw) pend ∧ WRow wr (w1.heap.size :: w.heap.size :: fp) vh' (all ++ pend.take k) ∧ Below w.heap.size w wr ∧ w2.heap.size ≤ wr.heap.size) (fun i _ => pend.length - (intOf i).toNat)
      case atStart => exact ⟨0, by omega, rfl, vk, vh, m9, m10, by rw [List.take_zero, List.append_nil]; exact hk5, hw5, by rw [List.take_zero, List.append_nil]; exact hh5, bY, hsz5⟩
      case round =>
        clear m9 m10 hk5 hw5 hh5 bY hsz5 hko hwo hho
        obtain ⟨k, hk, rfl, vk1, vh1, mA, mC, rk, rw', rh, bel, hsz⟩ := hrel
        obtain ⟨c0, c1, c2, c3, c4, c5, c6, fr⟩ := sevenT mA
        by_cases hlt : k < pend.length
        · obtain ⟨A', c', acs, e, hq1, hq2, hq3, hq4, hq5, hq6⟩ := id rw'
          obtain ⟨rfl, rfl⟩ : Aw = A' ∧ cw = c' := by injection e with e1 e2 e3; exact ⟨e1, e3⟩
          obtain ⟨b, off, B', c', rfl, hb, g0, g1, g2, g3, g4⟩ := EntN.get hq5 hq6 hq3 hlt
          have hx := H512.out _ (List.getElem_mem hlt)
          have htk : pend.take (k + 1) = pend.take k ++ [pend[k]] := List.take_succ_eq_append_getElem hlt
          obtain ⟨y, hy⟩ : ∃ y, y = pend[k] := ⟨_, rfl⟩
          rw [← hy] at g0 g1 g2 g4 hx htk
          have Htk := Lib.hid htk
          have hbd : Below wr.heap.size wr wr.drew := (Below.refl _ _).drew
          have Hkp := Lib.hid (rkeep_any wr.drew (w1.heap.size :: w.heap.size :: fp) y (all ++ pend.take k) vk1 (.slice (some ⟨b, off, none⟩) pend.length cw) vh1 size (calls + 1) f' false B' c' (fun j hj => Nat.lt_of_lt_of_le (HFQ.out j hj) hsz) (rk.on hbd) (rh.on hbd) rfl (g4.on hbd) hx g2 g3 (by rw [List.length_append, List.length_take]; omega))
          rw [hx] at g1
          have hko1 := rk.one
          have hho1 := rh.one
          clear hx htk hy e hq1 hq2 hq3 hq4 hq5 hq6 g2 g3 g4
          go_upto_region 11 with (fail)
          have hla := lt_of_block mA
          have hlc := lt_of_block mC
          go_region_with (go_at_call 136; refine (Hkp.out).mono ?_; rintro e w8 ⟨vk2, vh2, rfl, hk8, hh8, b8⟩; have hA8 := (b8.block _ hla).trans mA; obtain ⟨y0, y1, y2, y3, y4, y5, y6, fr8⟩ := sevenT hA8; have hko8 := hk8.one; have hho8 := hh8.one; obtain ⟨A5, c5', _, rfl, _⟩ := id hk8; obtain ⟨A6, c6', _, rfl, _⟩ := id hh8; unfold rvL)
          all_goals
            have e1 : all ++ pend.take k ++ [y] = all ++ pend.take (k + 1) := by rw [Htk.out, List.append_assoc]
            have e2 : (all ++ pend.take (k + 1)).length = all.length + (k + 1) := by rw [List.length_append, List.length_take, Nat.min_eq_left hlt]
            rw [e1, e2] at hk8 hh8
            obtain ⟨wx, hwx⟩ : ∃ wx, wx = ((((((w8.setCell ⟨w.heap.size, 0, none⟩ (.int .i64 (size : Int))).setCell ⟨w.heap.size, 1, none⟩ (.slice A5 (all.length + (k + 1)) c5')).setCell ⟨w.heap.size, 2, none⟩ (.slice (some ⟨b, off, none⟩) pend.length cw)).setCell ⟨w.heap.size, 3, none⟩ (.slice A6 (all.length + (k + 1)) c6')).setCell ⟨w.heap.size, 4, none⟩ (.int .i64 f')).setCell ⟨w.heap.size, 5, none⟩ (.int .i64 ((calls : Int) + 1))).setCell ⟨w.heap.size, 6, none⟩ (.bool false) := ⟨_, rfl⟩
            obtain ⟨f1, f2, f3, f4⟩ := seven_set (fq := w1.heap.size :: w.heap.size :: fp) hA8 (by simp) _ _ _ _ _ _ _ wx hwx
            have b8' : Below wr.heap.size wr w8 := undrew b8
            have q1 := f2 _ _ _ hne ((b8'.block _ hlc).trans mC)
            have q2 := hk8.keep f3 (Fresh.refl _ _)
            have q3 := hh8.keep f3 (Fresh.refl _ _)
            have q4 := (rw'.on b8').keep f3 (Fresh.refl _ _)
            have q5 := f4 _ _ (bt bel b8') (Nat.le_refl _)
            have q6 : w2.heap.size ≤ wx.heap.size := Nat.le_trans hsz (Nat.le_trans b8'.size f3.size)
            have Fin := Lib.hid (And.intro (show BlkT wx w.heap.size 108 (rvL size (.slice A5 (all.length + (k + 1)) c5') (.slice (some ⟨b, off, none⟩) pend.length cw) (.slice A6 (all.length + (k + 1)) c6') f' (calls + 1) false) from f1) (And.intro q1 (And.intro q2 (And.intro q4 (And.intro q3 (And.intro q5 q6))))))
            rw [← hwx]
            clear f1 f2 f3 f4 q1 q2 q3 q4 q5 q6 hA8 y0 y1 y2 y3 y4 y5 y6 fr8 hk8 hh8 hwx c0 c1 c2 c3 c4 c5 c6 fr g0 g1
            go_wp2
            go_roundw
            case rel => exact ⟨k + 1, by omega, by go_num, _, _, Fin.out⟩
            case measure => simp [intOf]; omega
        · obtain rfl : k = pend.length := by omega
          rw [List.take_length] at rk rh
          have m12 := mA.set 2 (.slice none 0 0)
          have m13 := mC.other 2 (.slice none 0 0) hne
          have k12 : Keep (w1.heap.size :: w.heap.size :: fp) wr (wr.setCell ⟨w.heap.size, 2, none⟩ (.slice none 0 0)) := (Keep.refl _ _).set (.inl (by simp)) _
          have b12 := bset bel (Nat.le_refl _) (o := 2) (.slice none 0 0)
          have hko1 := rk.one
          have hho1 := rh.one
          go_wp2_with (first
          | ((with_reducible show wpList _ _ _ (⟨some 37, _, _, _, _, _⟩ :: _) _ _); refine wpList_load_mid rfl _ _ rfl w.heap.size 0 rfl (rvL size vk1 (.slice none 0 0) vh1 f' (calls + 1) false) _ (Blk.rangeAt0 (BlkT.blk m12)) Try.underlying108 rfl (by kernel_rfl) ?_)
          | ((with_reducible show wpList _ _ _ (⟨none, .store 108 (.tmp 2) _, _, _, _, _⟩ :: _) _ _); refine wpList_storeT rfl _ _ _ rfl rfl (ys := (rvL size vk1 (.slice none 0 0) vh1 f' (calls + 1) false)) rfl m13 (by simp [rv0, rvL]) (rvL_one hko1 rfl hho1) (by kernel_rfl) ?_; intro w3 hb3 hg3))
          obtain ⟨z0, z1, z2, z3, z4, z5, z6, _⟩ := sevenT hb3
          have b9 : Below w.heap.size w w3 := below_row b12 hg3 hw12 b12.size
          have k9 : Keep (w1.heap.size :: w.heap.size :: fp) wr w3 := k12.trans (Keep.of_grown hg3 (fun g e => by cases e; simp)) (Fresh.refl _ _)
          have l1 : ∀ j ∈ fp, j ∈ w1.heap.size :: w.heap.size :: fp := by intro j hj; simp [hj]
          refine bodyPost_ret (v := .tuple #[.agg (rvL size vk1 (.slice none 0 0) vh1 f' (calls + 1) false).toArray, .int .i64 0]) (by simp [results, Try.results116, go_sem, z0, z1, z2, z3, z4, z5, z6, rvL]) rfl ?_
          rw [Hf.out]
          refine ⟨_, rfl, ⟨vk1, .slice none 0 0, vh1, ?_, (rk.keep k9 (Fresh.refl _ _)).less l1, WRow.nil _ _, (rh.keep k9 (Fresh.refl _ _)).less l1⟩, b9⟩
          simp only [hdf]
end Go.Proofs.Ytdkcdojcglmlbaa.Disk
