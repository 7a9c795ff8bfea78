/- The walks of the reference's block and sum. -/
import Derived.Test.YtggldbadefbdaaaDoorShaR
namespace Go.Proofs.YtggldbadefbdaaaDoor.Sha
open Go.RowKit
set_option linter.unusedVariables false
set_option maxRecDepth 100000
theorem ones_xor (x : UInt32) : 0xffffffff ^^^ x = ~~~x := by
  apply UInt32.toBitVec_inj.1
  simp only [UInt32.toBitVec_xor, UInt32.toBitVec_not]
  apply BitVec.eq_of_getLsbD_eq
  intro i hi
  rw [BitVec.getLsbD_xor, BitVec.getLsbD_not]
  have h1 : (4294967295 : UInt32).toBitVec.getLsbD i = true := by
    rw [show (4294967295 : UInt32).toBitVec = BitVec.allOnes 32 by decide, BitVec.getLsbD_allOnes]
    exact decide_eq_true hi
  rw [h1]; simp [hi]
theorem c32_not (x : UInt32) : bits .xor .u32 (if IntKind.u32.signed = true then -1 else IntKind.u32.max) (c32 x) = c32 (~~~x) := by
  rw [← ones_xor, ← c32_xor]; rfl
attribute [local go_sem] c32_xor c32_and c32_or c32_add c32_add' c32_not

theorem vkTab_len : (vw kTab).length = 64 := by rw [vw_len]; exact kTab_len
set_option maxHeartbeats 400000 in
theorem rwith_no (s : H8) (A : Option Addr) (n c : Nat) (w : World) (hn : n ≠ 64) (hm : n ≤ maxLen) :
    Calls Tryd.prog 20 #[arrV (vw kTab), h8V s, .slice A n c] w fun e w' => e = .returned (h8V s) ∧ Below w.heap.size w w' := by
  have hne : ((n : Int) != 64) = true := bne_yes (by omega)
  unfold maxLen at hm
  obtain ⟨kv, hkv⟩ : ∃ kv, kv = vw kTab := ⟨_, rfl⟩
  rw [← hkv]
  clear hkv
  go_enter Tryd.func20, Tryd.ntmps20
  go_wp2_with (first
    | (refine wpList_boxN rfl _ _ rfl kv rfl ?_; intro w0 hb0 bw0 hs0)
    | (refine wpList_boxN rfl _ _ rfl s.vals rfl ?_; intro w1 hb1 bw1 hs1; have bt1 := bt bw0 bw1)
    | (refine wpList_allocN rfl _ rfl (vw (List.replicate 8 0)) zero23 ?_; intro w2 hb2 bw2 hs2; have hb12 := hb1.on bw2; have bt2 := bt bt1 bw2)
    | (refine wpList_loadA rfl _ _ rfl rfl hb12 Tryd.underlying23 size23 ?_)
    | (refine wpList_storeN rfl _ _ _ rfl rfl (ys := s.vals) rfl hb2 rfl (vw_one _) size23 ?_; intro w3 hb3 hg3))
  exact bodyPost_ret (v := h8V s) (results_arr Tryd.results20 _ hb3 Tryd.underlying23 size23 rfl) rfl ⟨rfl, below_row bt2 hg3 bt1.size bt2.size⟩
set_option maxHeartbeats 800000 in
theorem rwith_yes (s : H8) (A : Option Addr) (l : List UInt8) (c : Nat) (w : World) (hn : l.length = 64) (hc : 64 ≤ c) (hcm : c ≤ maxLen) (hr : Rd w w.heap.size A (l.map e8)) :
    Calls Tryd.prog 20 #[arrV (vw kTab), h8V s, .slice A 64 c] w fun e w' => e = .returned (h8V ((rounds (wl l 64) s 64).add s)) ∧ Below w.heap.size w w' := by
  have Hn := Lib.hid hn
  have hw : words l = wl l 64 := if_pos hn
  have Hw := Lib.hid hw
  clear hn hw
  obtain ⟨kv, hkv⟩ : ∃ kv, kv = vw kTab := ⟨_, rfl⟩
  rw [← hkv]
  have Hkv := Lib.hid hkv
  clear hkv
  go_enter Tryd.func20, Tryd.ntmps20
  go_wp2_with (first
    | (refine wpList_boxN rfl _ _ rfl kv rfl ?_; intro w0 hb0 bw0 hs0)
    | (refine wpList_boxN rfl _ _ rfl s.vals rfl ?_; intro w1 hb1 bw1 hs1; have hb01 := hb0.on bw1; have bt1 := bt bw0 bw1)
    | (refine wpList_allocN rfl _ rfl (vw (List.replicate 8 0)) zero23 ?_; intro w2 hb2 bw2 hs2; have hb12 := hb1.on bw2; have hb02 := hb01.on bw2; have bt2 := bt bt1 bw2)
    | fail)
  refine (rwords_any A l 64 c w2 Hn.out.symm hc hcm (hr.on bt2)).mono ?_
  rintro e w3 ⟨rfl, bw3⟩
  rw [Hw.out]
  have hb03 := hb02.on bw3
  have hb13 := hb12.on bw3
  have hb23 := hb2.on bw3
  have bt3 := bt bt2 bw3
  obtain ⟨W, hW⟩ : ∃ W, W = wl l 64 := ⟨_, rfl⟩
  have hWl : W.length = 64 := by rw [hW]; exact wl_len l 64
  rw [← hW]
  have HW := Lib.hid hW
  have hvW : (vw W).length = 64 := by rw [vw_len, hWl]
  have sW : (Tryd.prog.info? 28).map (·.size) = some (vw W).length := by rw [hvW]; exact size28
  have zW : W64.length = (vw W).length := by rw [hvW]; rfl
  have HWl := Lib.hid hWl
  have SW := Lib.hid sW
  have ZW := Lib.hid zW
  clear hW hWl hvW sW zW hb0 hb01 hb02 hb1 hb12 hb2
  have k1 := bw0.size
  have k2 := bw1.size
  have k3 := bw2.size
  have k4 := bw3.size
  go_wp2_with (first
    | ((with_reducible show wpList _ _ _ (⟨some 7, _, _, _, _, _⟩ :: _) _ _); refine wpList_allocN rfl _ rfl W64 zero28 ?_; intro w4 hb4 bw4 hs4; have hb04 := hb03.on bw4; have hb14 := hb13.on bw4; have hb24 := hb23.on bw4; have bt4 := bt bt3 bw4)
    | ((with_reducible show wpList _ _ _ (⟨none, .store 28 _ _, _, _, _, _⟩ :: _) _ _); refine wpList_storeN rfl 28 _ _ rfl rfl (ys := vw W) rfl hb4 ZW.out (vw_one _) SW.out ?_; intro w5 hb5 hg5; have hb05 := hb04.grown hg5 (by simp; omega); have hb15 := hb14.grown hg5 (by simp; omega); have hb25 := hb24.grown hg5 (by simp; omega); have bt5 := below_row bt4 hg5 bt3.size bt4.size; have k6 := hg5.size)
    | ((with_reducible show wpList _ _ _ (⟨some 21, _, _, _, _, _⟩ :: _) _ _); refine wpList_loadA rfl 23 _ rfl rfl hb15 Tryd.underlying23 size23 ?_)
    | ((with_reducible show wpList _ _ _ (⟨some 8, _, _, _, _, _⟩ :: _) _ _); refine wpList_allocN rfl _ rfl (vw (List.replicate 8 0)) zero23 ?_; intro w6 hb6 bw6 hs6; have hb06 := hb05.on bw6; have hb16 := hb15.on bw6; have hb26 := hb25.on bw6; have hb56 := hb5.on bw6; have bt6 := bt bt5 bw6; have k7 := bw6.size)
    | ((with_reducible show wpList _ _ _ (⟨none, .store 23 _ _, _, _, _, _⟩ :: _) _ _); refine wpList_storeN rfl 23 _ _ rfl rfl (ys := s.vals) rfl hb6 rfl (vw_one _) size23 ?_; intro w7 hb7 hg7; have hb07 := hb06.grown hg7 (by simp; omega); have hb17 := hb16.grown hg7 (by simp; omega); have hb27 := hb26.grown hg7 (by simp; omega); have hb57 := hb56.grown hg7 (by simp; omega); have bt7 := below_row bt6 hg7 bt5.size bt6.size)
    | fail)
  obtain ⟨B1, e1⟩ : ∃ B, B = w0.heap.size := ⟨_, rfl⟩
  obtain ⟨B2, e2⟩ : ∃ B, B = w1.heap.size := ⟨_, rfl⟩
  obtain ⟨B3, e3⟩ : ∃ B, B = w3.heap.size := ⟨_, rfl⟩
  obtain ⟨B5, e5⟩ : ∃ B, B = w5.heap.size := ⟨_, rfl⟩
  rw [← e1] at hb17
  rw [← e2] at hb27
  rw [← e3] at hb57
  rw [← e5] at hb7
  rw [← e1, ← e2, ← e3, ← e5]
  have l01 : w.heap.size < B1 := by omega
  have l12 : B1 < B2 := by omega
  have l23 : B2 < B3 := by omega
  have l35 : B3 < B5 := by omega
  clear e1 e2 e3 e5 hb03 hb13 hb23 hb4 hb04 hb14 hb24 hb5 hb05 hb15 hb25 hb6 hb06 hb16 hb26 hb56 hg5 hg7 bt1 bt2 bt3 bt4 bt5 bt6 bw0 bw1 bw2 bw3 bw4 bw6 hs0 hs1 hs2 hs4 hs6 k1 k2 k3 k4 k6 k7 SW ZW Hw Hn
  go_loopw [9] (fun i wr => ∃ k : Nat, k ≤ 64 ∧ i = .int .i64 k ∧ Blk wr w.heap.size kv ∧ Blk wr B1 s.vals ∧ Blk wr B2 (vw (List.replicate 8 0)) ∧ Blk wr B3 (vw W) ∧ Blk wr B5 (rounds W s k).vals ∧ Below w.heap.size w wr) (fun i _ => 64 - (intOf i).toNat)
  case atStart => exact ⟨0, by omega, rfl, hb07, hb17, hb27, hb57, hb7, bt7⟩
  case round =>
    obtain ⟨k, hk64, rfl, d0, d1, d2, d3, d5, btd⟩ := hrel
    clear hb07 hb17 hb27 hb57 hb7 bt7
    by_cases hlt : k < 64
    · obtain ⟨r, hr'⟩ : ∃ r, r = rounds W s k := ⟨_, rfl⟩
      rw [← hr'] at d5
      have Hr := Lib.hid (show rounds W s (k + 1) = round r (kAt k) (W.getD k 0) by rw [rounds, hr'])
      obtain ⟨y, hy⟩ : ∃ y, y = W.getD k 0 := ⟨_, rfl⟩
      rw [← hy] at Hr
      have Hy := Lib.hid hy
      obtain ⟨z, hz⟩ : ∃ z, z = kAt k := ⟨_, rfl⟩
      rw [← hz] at Hr
      have Hz := Lib.hid (show z = kTab.getD k 0 from hz)
      clear hr' hy hz
      have h5 := d5.lt
      obtain ⟨p0, p1, p2, p3, p4, p5, p6, p7⟩ := Blk.eight d5
      go_wp2
      refine region_inb (by kernel_rfl) (by kernel_rfl) ?_
      have inbNe := InB.some
      have inbW := @wrap_small
      have inbU := IntKind.wrap_u8'
      repeat (refine wpQuiet_step (fun K hK => ?_); go_simp; first | (refine hK _ ?_; clear hK K) | (apply Exists.intro; refine ⟨?_, hK _ ?_⟩; (· (intro w' hw'; first | fail | (have hcw := hw'.cell; go_simp; exact rfl))); clear hK K))
      refine wpQuiet_nil ?_
      intro wq hq
      clear inbNe inbW inbU
      have m0 := d0.on hq.below
      have m1 := d1.on hq.below
      have m2 := d2.on hq.below
      have m3 := d3.on hq.below
      have m5 := d5.on hq.below
      have btm := btd.trans (hq.below.mono btd.size)
      have hm0 := m0.lt
      have hm3 := m3.lt
      have hm5 := m5.lt
      have ky := Blk.word (l := kTab) (by rw [← Hkv.out]; exact m0) (k := k) (by rw [kTab_len]; exact hlt)
      have wy := Blk.word m3 (k := k) (by rw [HWl.out]; exact hlt)
      rw [← Hz.out] at ky
      rw [← Hy.out] at wy
      obtain ⟨p0, p1, p2, p3, p4, p5, p6, p7⟩ := Blk.eight m5
      have hfm := m5.free
      clear hq
      go_wp2
      refine region_inb (by kernel_rfl) (by kernel_rfl) ?_
      have inbNe := InB.some
      have inbW := @wrap_small
      have inbU := IntKind.wrap_u8'
      repeat (refine wpQuiet_step (fun K hK => ?_); go_simp; first | (refine hK _ ?_; clear hK K) | (apply Exists.intro; refine ⟨?_, hK _ ?_⟩; (· (intro w' hw'; first | (go_at_call 55; refine (rright_any _ _ (by decide) _).mono ?_; rintro e w1 ⟨rfl, b1⟩; exact ⟨rfl, hw'.on b1⟩) | (have hcw := hw'.cell; go_simp; exact rfl))); clear hK K))
      refine wpQuiet_nil ?_
      intro wq hq
      clear inbNe inbW inbU
      have n0 := m0.on hq.below
      have n1 := m1.on hq.below
      have n2 := m2.on hq.below
      have n3 := m3.on hq.below
      have n5 := m5.on hq.below
      have btn := btm.trans (hq.below.mono btm.size)
      have hn0 := n0.lt
      have hn3 := n3.lt
      have hn5 := n5.lt
      have ky := Blk.word (l := kTab) (by rw [← Hkv.out]; exact n0) (k := k) (by rw [kTab_len]; exact hlt)
      have wy := Blk.word n3 (k := k) (by rw [HWl.out]; exact hlt)
      rw [← Hz.out] at ky
      rw [← Hy.out] at wy
      obtain ⟨p0, p1, p2, p3, p4, p5, p6, p7⟩ := Blk.eight n5
      have hfn := n5.free
      clear hq
      go_wp2
      refine region_inb (by kernel_rfl) (by kernel_rfl) ?_
      have inbNe := InB.some
      have inbW := @wrap_small
      have inbU := IntKind.wrap_u8'
      repeat (refine wpQuiet_step (fun K hK => ?_); go_simp; first | (refine hK _ ?_; clear hK K) | (apply Exists.intro; refine ⟨?_, hK _ ?_⟩; (· (intro w' hw'; first | (go_at_call 55; refine (rright_any _ _ (by decide) _).mono ?_; rintro e w1 ⟨rfl, b1⟩; exact ⟨rfl, hw'.on b1⟩) | (have hcw := hw'.cell; go_simp; exact rfl))); clear hK K))
      refine wpQuiet_nil ?_
      intro wq hq
      clear inbNe inbW inbU
      have o0 := n0.on hq.below
      have o1 := n1.on hq.below
      have o2 := n2.on hq.below
      have o3 := n3.on hq.below
      have o5 := n5.on hq.below
      have bto := btn.trans (hq.below.mono btn.size)
      have ho5 := o5.lt
      obtain ⟨p0, p1, p2, p3, p4, p5, p6, p7⟩ := Blk.eight o5
      clear hq
      obtain ⟨X, hX⟩ : ∃ X, X = r.h + (rot r.e 6 ^^^ rot r.e 11 ^^^ rot r.e 25) + (r.e &&& r.f ^^^ ~~~r.e &&& r.g) + z + y := ⟨_, rfl⟩
      obtain ⟨Y, hY⟩ : ∃ Y, Y = rot r.a 2 ^^^ rot r.a 13 ^^^ rot r.a 22 := ⟨_, rfl⟩
      obtain ⟨Z, hZ⟩ : ∃ Z, Z = Y + (r.a &&& r.b ^^^ r.a &&& r.c ^^^ r.b &&& r.c) := ⟨_, rfl⟩
      rw [← hX, ← hY, ← hZ]
      have Hv := Lib.hid (show round r z y = ⟨X + Z, r.a, r.b, r.c, r.d + X, r.e, r.f, r.g⟩ by rw [round, xOf, yOf, hX, hZ, hY, ch_eq, maj_eq])
      clear hX hY hZ
      go_wp2_with (first
        | ((with_reducible show wpList _ _ _ (⟨none, .store 23 _ _, _, _, _, _⟩ :: _) _ _); refine wpList_storeN rfl 23 _ _ rfl rfl (ys := H8.vals ⟨X + Z, r.a, r.b, r.c, r.d + X, r.e, r.f, r.g⟩) rfl o5 rfl (vw_one _) size23 ?_; intro w9 hb9 hg9)
        | fail)
      have u0 := o0.grown hg9 (by simp; omega)
      have u1 := o1.grown hg9 (by simp; omega)
      have u2 := o2.grown hg9 (by simp; omega)
      have u3 := o3.grown hg9 (by simp; omega)
      have btu := below_row bto hg9 (by omega) bto.size
      go_roundw
      case rel =>
        exact ⟨k + 1, by omega, by go_num, u0, u1, u2, u3, by rw [Hr.out, Hv.out]; exact hb9, btu⟩
      case measure => simp [intOf]; omega
    · obtain rfl : k = 64 := by omega
      have HW2 := Lib.hid (show (rounds W s 64).add s = (rounds (wl l 64) s 64).add s by rw [HW.out])
      obtain ⟨r, hr'⟩ : ∃ r, r = rounds W s 64 := ⟨_, rfl⟩
      rw [← hr'] at d5 HW2
      clear hr' HW HWl Hkv
      go_wp2
      go_loopw [14] (fun i wx => ∃ k : Nat, k ≤ 8 ∧ i = .int .i64 k ∧ Blk wx B5 (vw (r.part s k)) ∧ Blk wx B2 (vw (List.replicate 8 0)) ∧ Blk wx B1 s.vals ∧ Below w.heap.size w wx) (fun i _ => 8 - (intOf i).toNat)
      case atStart => exact ⟨0, by omega, rfl, by rw [H8.part_zero]; exact d5, d2, d1, btd⟩
      case round =>
        clear d0 d1 d2 d3 d5 btd
        obtain ⟨k, hk8, rfl, d0, d1, d2, bt⟩ := hrel
        by_cases hlt : k < 8
        · have g0 := Blk.word d0 (k := k) (by rw [H8.part_len]; exact hlt)
          have g2 := Blk.word d2 (k := k) (by rw [H8.list_len]; exact hlt)
          rw [H8.part_get] at g0
          have Hs := Lib.hid (H8.part_set r s k hlt)
          obtain ⟨x, hx⟩ : ∃ x, x = r.list.getD k 0 := ⟨_, rfl⟩
          obtain ⟨y, hy⟩ : ∃ x, x = s.list.getD k 0 := ⟨_, rfl⟩
          rw [← hx] at g0 Hs
          rw [← hy] at g2 Hs
          clear hx hy
          have hB := d0.lt
          have hBB := d2.lt
          go_wp2
          refine region_inb_tail 9 (by kernel_rfl) (by kernel_rfl) ?_
          simp only [List.take_succ_cons, List.take_zero, List.drop_succ_cons, List.drop_zero]
          have inbNe := InB.some
          have inbW := @wrap_small
          have inbU := IntKind.wrap_u8'
          repeat (refine wpQuiet_step (fun K hK => ?_); go_simp; first | (refine hK _ ?_; clear hK K) | (apply Exists.intro; refine ⟨?_, hK _ ?_⟩; (· (intro w' hw'; first | fail | (have hcw := hw'.cell; go_simp; exact rfl))); clear hK K))
          refine wpQuiet_nil ?_
          intro wq hq
          clear inbNe inbW inbU
          have m0 := d0.on hq.below
          have m1 := d1.on hq.below
          have m2 := d2.on hq.below
          have btm := bt.trans (hq.below.mono bt.size)
          have g0' := (hq.cell _ _ hB).trans g0
          have hf' := m0.free
          clear hq g0 g2
          go_wp2
          go_roundw
          case rel =>
            have hset := m0.set (k := k) (e32 (x + y))
            rw [vw_set, Hs.out] at hset
            first
              | exact ⟨k + 1, by omega, by go_num, hset, m1.other _ (by omega), m2.other _ (by omega), btm.setCell (by show w.heap.size ≤ B5; omega) _⟩
              | (repeat apply Exists.intro
                 exact ⟨⟨k + 1, by omega, by go_num, hset, m1.other _ (by omega), m2.other _ (by omega), btm.setCell (by show w.heap.size ≤ B5; omega) _⟩, rfl⟩)
          case measure => simp [intOf]; omega
        · obtain rfl : k = 8 := by omega
          rw [H8.part_all] at d0
          go_wp2_with (first
            | ((with_reducible show wpList _ _ _ (⟨some 117, _, _, _, _, _⟩ :: _) _ _); refine wpList_loadA rfl 23 _ rfl rfl d0 Tryd.underlying23 size23 ?_)
            | ((with_reducible show wpList _ _ _ (⟨none, .store 23 _ _, _, _, _, _⟩ :: _) _ _); refine wpList_storeN rfl 23 _ _ rfl rfl (ys := (r.add s).vals) rfl d1 rfl (vw_one _) size23 ?_; intro w9 hb9 hg9))
          refine bodyPost_ret (v := h8V (r.add s)) (results_arr Tryd.results20 _ hb9 Tryd.underlying23 size23 rfl) rfl ⟨?_, below_row bt hg9 (by omega) bt.size⟩
          rw [← HW2.out]
theorem rwith_any (s : H8) (A : Option Addr) (l : List UInt8) (n c : Nat) (w : World) (hn : n = l.length) (hc : n ≤ c) (hcm : c ≤ maxLen) (hr : Rd w w.heap.size A (l.map e8)) :
    Calls Tryd.prog 20 #[arrV (vw kTab), h8V s, .slice A n c] w fun e w' => e = .returned (h8V (block s l)) ∧ Below w.heap.size w w' := by
  subst hn
  by_cases h : l.length = 64
  · rw [block, if_pos h, h]
    exact rwith_yes s A l c w h (by omega) hcm hr
  · rw [block, if_neg h]
    exact rwith_no s A _ c w h (by omega)
end Go.Proofs.YtggldbadefbdaaaDoor.Sha
