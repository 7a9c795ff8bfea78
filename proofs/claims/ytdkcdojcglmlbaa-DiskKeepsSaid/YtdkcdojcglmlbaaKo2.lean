/- As Ko1, for Arm and Restart. -/
import Derived.Test.YtdkcdojcglmlbaaKo1
namespace Go.Proofs.Ytdkcdojcglmlbaa.Disk
open Go.RowKit
set_option linter.unusedVariables false
set_option maxRecDepth 100000
set_option maxHeartbeats 2000000 in
theorem go3 (w : World) (g : Nat) (fp : List Nat) (s t : St) (x : Value) (place size nn at' : Int) (fill : UInt8) (keep : List Int) (Ak : Option Addr) (ck : Nat) (ex : List Nat) (hex : ∀ j ∈ ex, j < w.heap.size) (hD : DAt w g fp s) (hx : RAt w (ex ++ fp) x t) (hokt : ok t) (ht : t.sz ≤ 900000) (hs : s.sz ≤ 900000) (hkr : RdN w fp Ak (keep.map (Value.int .i64))) (hkl : keep.length ≤ 20) (hs0 : 0 ≤ size) (hs1 : size ≤ 600) (hp : inI place) (hn : inI nn) (ha : inI at') (hkw : ∀ n ∈ keep, inI n)  :
    Calls Try.prog 66 #[.pointer (some ⟨g, 0, none⟩), x, .agg #[.int .i64 3, .int .i64 place, .int .i64 size, .int .i64 nn, .int .i64 at', .int .u8 (fill.toNat : Int), .slice Ak keep.length ck]] w (Gone w g fp (arm s nn)) := by
  obtain ⟨vk, vw, vh, rfl, hko, hwo, hho⟩ := hx.form
  have hfp := hD.lt
  have hok := hD.ok
  obtain ⟨sz, hsz⟩ : ∃ n : Nat, n = size.toNat := ⟨_, rfl⟩
  have hszI : size = (sz : Int) := by omega
  subst hszI
  clear hsz
  have hsz2 : sz ≤ 600 := by omega
  have HF := Lib.hid (fun W => full_any sz (sz : Int) rfl fill (fill.toNat : Int) rfl W (by omega))
  unfold rvL
  go_enter Try.func66, Try.ntmps66
  go_wp2_with (first
    | ((with_reducible show wpList _ _ _ (⟨some 4, _, _, _, _, _⟩ :: _) _ _); refine wpList_boxT rfl _ _ rfl (rvL t.size vk vw vh t.fuse t.calls t.down) rfl ?_; intro w1 hb1 bw1 hl1)
    | ((with_reducible show wpList _ _ _ (⟨some 5, _, _, _, _, _⟩ :: _) _ _); refine wpList_boxT rfl _ _ rfl [.int .i64 3, .int .i64 place, .int .i64 (sz : Int), .int .i64 nn, .int .i64 at', .int .u8 (fill.toNat : Int), .slice Ak keep.length ck] rfl ?_; intro w2 hb2 bw2 hl2; have hA2 := (show BlkT w2 w.heap.size _ _ from (bw2.block _ hl1).trans hb1); obtain ⟨a0, a1, a2, a3, a4, a5, a6⟩ := seven_of hb2; have bww := bt bw1 bw2)
    | ((with_reducible show wpList _ _ _ (⟨some 6, _, _, _, _, _⟩ :: _) _ _); refine wpList_allocT rfl _ rfl rv0 zeroRV ?_; intro w3 hb3 bw3; have hA3 := (show BlkT w3 w.heap.size _ _ from (bw3.block _ (lt_of_block hA2)).trans hA2); have hY3 := (show BlkT w3 w1.heap.size _ _ from (bw3.block _ hl2).trans hb2); clear a0 a1 a2 a3 a4 a5 a6; obtain ⟨a0, a1, a2, a3, a4, a5, a6⟩ := seven_of hY3; have bw03 := bt bww bw3))
  refine (HF.out _).mono ?_
  rintro e w4 ⟨A4, c4, rfl, own4, b4⟩
  rw [List.length_replicate]
  have hA4 := (show BlkT w4 w.heap.size _ _ from (b4.block _ (lt_of_block hA3)).trans hA3)
  have hY4 := (show BlkT w4 w1.heap.size _ _ from (b4.block _ (lt_of_block hY3)).trans hY3)
  have hZ4 := (show BlkT w4 w2.heap.size _ _ from (b4.block _ (lt_of_block hb3)).trans hb3)
  have bw4 := bt bw03 b4
  clear a0 a1 a2 a3 a4 a5 a6
  obtain ⟨a0, a1, a2, a3, a4, a5, a6⟩ := seven_of hY4
  have hcap4 := own_cap own4
  rw [List.length_replicate] at own4
  have hf4 : ∀ j ∈ w2.heap.size :: (ex ++ fp), j < w4.heap.size := fun j hj => by
    rcases List.mem_cons.1 hj with e | e
    · subst e; exact lt_of_block hZ4
    · rcases List.mem_append.1 e with e | e
      · exact Nat.lt_of_lt_of_le (hex j e) bw4.size
      · exact Nat.lt_of_lt_of_le (hfp j e) bw4.size
  have hf3 : ∀ j ∈ w2.heap.size :: (ex ++ fp), j < w3.heap.size := fun j hj => by
    rcases List.mem_cons.1 hj with e | e
    · subst e; exact lt_of_block hb3
    · rcases List.mem_append.1 e with e | e
      · exact Nat.lt_of_lt_of_le (hex j e) bw03.size
      · exact Nat.lt_of_lt_of_le (hfp j e) bw03.size
  have hR4 : RdN w4 (w2.heap.size :: (ex ++ fp)) A4 ((List.replicate sz fill).map e8) := RdN.own2 own4 hf3
  have hB4 : Byt w4 (w2.heap.size :: (ex ++ fp)) (.slice A4 sz c4) (List.replicate sz fill) := ⟨A4, c4, by rw [List.length_replicate], by rw [List.length_replicate]; simpa using hcap4.1, hcap4.2, hR4⟩
  obtain ⟨hn0, hn1⟩ := hn
  have hD4 := hD.on bw4
  have hA := Lib.hid (arm_any g fp s nn w4 hD4 hn0 hn1)
  have hgin : g ∈ fp := by obtain ⟨vk', vp', va', acs', hL⟩ := hD; exact hL.inG
  have hglt := hfp g hgin
  obtain ⟨vk3, vw3, vh3, hee, hrk, hrw, hrh⟩ := id hx
  obtain ⟨rfl, rfl, rfl⟩ : vk3 = vk ∧ vw3 = vw ∧ vh3 = vh := by simp [rvL] at hee; exact ⟨hee.1.symm, hee.2.1.symm, hee.2.2.symm⟩
  have h26 : w.heap.size ≤ w2.heap.size := bww.size
  have hl4 := lt_of_block hA4
  have hl6 := lt_of_block hZ4
  have hne6 : w2.heap.size ≠ w.heap.size := by omega
  have rows := Lib.hid (fun v l (h : WRow w (ex ++ fp) v l) => ((h.cons (Nat.le_refl w.heap.size)).cons h26).on bw4)
  go_wp2_with (first
    | (go_at_call 74; refine (hA.out).mono ?_; rintro e w5 ⟨rfl, hD5, k5⟩; have hA5 := (show BlkT w5 w.heap.size _ _ from (k5.block hl4 (by rw [List.mem_singleton]; omega)).trans hA4); have hY5 := (show BlkT w5 w1.heap.size _ _ from (k5.block (lt_of_block hY4) (by rw [List.mem_singleton]; omega)).trans hY4); have hZ5 := (show BlkT w5 w2.heap.size _ _ from (k5.block hl6 (by rw [List.mem_singleton]; omega)).trans hZ4); clear a0 a1 a2 a3 a4 a5 a6; obtain ⟨a0, a1, a2, a3, a4, a5, a6⟩ := seven_of hY5; obtain ⟨x0, x1, x2, x3, x4, x5, x6, xf⟩ := sevenT hA5; have m5 := (show BlkT (w5.setCell ⟨w.heap.size, 4, none⟩ (.int .i64 (max nn (-1)))) w.heap.size 108 (rvL t.size vk3 vw3 vh3 (max nn (-1)) t.calls t.down) from hA5.set 4 _); have z5 := (show BlkT (w5.setCell ⟨w.heap.size, 4, none⟩ (.int .i64 (max nn (-1)))) w2.heap.size 108 rv0 from hZ5.other 4 _ hne6))
    | ((with_reducible show wpList _ _ _ (⟨some 91, _, _, _, _, _⟩ :: _) _ _); refine wpList_load_mid rfl _ _ rfl w.heap.size 0 rfl (rvL t.size vk3 vw3 vh3 (max nn (-1)) t.calls t.down) _ (Blk.rangeAt0 (BlkT.blk m5)) Try.underlying108 rfl (by kernel_rfl) ?_)
    | ((with_reducible show wpList _ _ _ (⟨none, .store 108 (.tmp 6) _, _, _, _, _⟩ :: _) _ _); refine wpList_storeT rfl _ _ _ rfl rfl (ys := (rvL t.size vk3 vw3 vh3 (max nn (-1)) t.calls t.down)) rfl z5 (by simp [rv0, rvL]) (rvL_one hko hwo hho) (by kernel_rfl) ?_; intro w6 hb6 hg6))
  have k6 : Keep [w.heap.size, w2.heap.size] w5 w6 := ((Keep.refl _ w5).set (p := ⟨w.heap.size, 4, none⟩) (.inl (by simp)) _).trans (Keep.of_grown hg6 (fun g e => by cases e; simp) : Keep [w.heap.size, w2.heap.size] _ w6) (Fresh.refl _ _)
  have k5' : Keep fp w4 w5 := k5.more (fun j hj => by rw [List.mem_singleton] at hj; subst hj; exact hgin)
  obtain ⟨F1, F2, F3⟩ := done_C bw4 k5' (Fresh.refl _ _) hD5 (Below.refl _ _) k6 (Nat.le_refl _) h26 hl4 hl6 hfp
  obtain ⟨z0, z1, z2, z3, z4, z5', z6, _⟩ := sevenT hb6
  go_wp2
  refine bodyPost_ret (v := .tuple #[.agg #[.int .i64 (t.size : Int), vk3, vw3, vh3, .int .i64 (max nn (-1)), .int .i64 (t.calls : Int), .bool t.down], .bool true]) (by simp [results, Try.results66, go_sem, z0, z1, z2, z3, z4, z5', z6]) rfl ?_
  exact ⟨_, _, rfl, fp, F1, F2, F3⟩
set_option maxHeartbeats 2000000 in
theorem go4 (w : World) (g : Nat) (fp : List Nat) (s t : St) (x : Value) (place size nn at' : Int) (fill : UInt8) (keep : List Int) (Ak : Option Addr) (ck : Nat) (ex : List Nat) (hex : ∀ j ∈ ex, j < w.heap.size) (hD : DAt w g fp s) (hx : RAt w (ex ++ fp) x t) (hokt : ok t) (ht : t.sz ≤ 900000) (hs : s.sz ≤ 900000) (hkr : RdN w fp Ak (keep.map (Value.int .i64))) (hkl : keep.length ≤ 20) (hs0 : 0 ≤ size) (hs1 : size ≤ 600) (hp : inI place) (hn : inI nn) (ha : inI at') (hkw : ∀ n ∈ keep, inI n)  :
    Calls Try.prog 66 #[.pointer (some ⟨g, 0, none⟩), x, .agg #[.int .i64 4, .int .i64 place, .int .i64 size, .int .i64 nn, .int .i64 at', .int .u8 (fill.toNat : Int), .slice Ak keep.length ck]] w (Gone w g fp (restart s keep nn at')) := by
  obtain ⟨vk, vw, vh, rfl, hko, hwo, hho⟩ := hx.form
  have hfp := hD.lt
  have hok := hD.ok
  obtain ⟨sz, hsz⟩ : ∃ n : Nat, n = size.toNat := ⟨_, rfl⟩
  have hszI : size = (sz : Int) := by omega
  subst hszI
  clear hsz
  have hsz2 : sz ≤ 600 := by omega
  have HF := Lib.hid (fun W => full_any sz (sz : Int) rfl fill (fill.toNat : Int) rfl W (by omega))
  unfold rvL
  go_enter Try.func66, Try.ntmps66
  go_wp2_with (first
    | ((with_reducible show wpList _ _ _ (⟨some 4, _, _, _, _, _⟩ :: _) _ _); refine wpList_boxT rfl _ _ rfl (rvL t.size vk vw vh t.fuse t.calls t.down) rfl ?_; intro w1 hb1 bw1 hl1)
    | ((with_reducible show wpList _ _ _ (⟨some 5, _, _, _, _, _⟩ :: _) _ _); refine wpList_boxT rfl _ _ rfl [.int .i64 4, .int .i64 place, .int .i64 (sz : Int), .int .i64 nn, .int .i64 at', .int .u8 (fill.toNat : Int), .slice Ak keep.length ck] rfl ?_; intro w2 hb2 bw2 hl2; have hA2 := (show BlkT w2 w.heap.size _ _ from (bw2.block _ hl1).trans hb1); obtain ⟨a0, a1, a2, a3, a4, a5, a6⟩ := seven_of hb2; have bww := bt bw1 bw2)
    | ((with_reducible show wpList _ _ _ (⟨some 6, _, _, _, _, _⟩ :: _) _ _); refine wpList_allocT rfl _ rfl rv0 zeroRV ?_; intro w3 hb3 bw3; have hA3 := (show BlkT w3 w.heap.size _ _ from (bw3.block _ (lt_of_block hA2)).trans hA2); have hY3 := (show BlkT w3 w1.heap.size _ _ from (bw3.block _ hl2).trans hb2); clear a0 a1 a2 a3 a4 a5 a6; obtain ⟨a0, a1, a2, a3, a4, a5, a6⟩ := seven_of hY3; have bw03 := bt bww bw3))
  refine (HF.out _).mono ?_
  rintro e w4 ⟨A4, c4, rfl, own4, b4⟩
  rw [List.length_replicate]
  have hA4 := (show BlkT w4 w.heap.size _ _ from (b4.block _ (lt_of_block hA3)).trans hA3)
  have hY4 := (show BlkT w4 w1.heap.size _ _ from (b4.block _ (lt_of_block hY3)).trans hY3)
  have hZ4 := (show BlkT w4 w2.heap.size _ _ from (b4.block _ (lt_of_block hb3)).trans hb3)
  have bw4 := bt bw03 b4
  clear a0 a1 a2 a3 a4 a5 a6
  obtain ⟨a0, a1, a2, a3, a4, a5, a6⟩ := seven_of hY4
  have hcap4 := own_cap own4
  rw [List.length_replicate] at own4
  have hf4 : ∀ j ∈ w2.heap.size :: (ex ++ fp), j < w4.heap.size := fun j hj => by
    rcases List.mem_cons.1 hj with e | e
    · subst e; exact lt_of_block hZ4
    · rcases List.mem_append.1 e with e | e
      · exact Nat.lt_of_lt_of_le (hex j e) bw4.size
      · exact Nat.lt_of_lt_of_le (hfp j e) bw4.size
  have hf3 : ∀ j ∈ w2.heap.size :: (ex ++ fp), j < w3.heap.size := fun j hj => by
    rcases List.mem_cons.1 hj with e | e
    · subst e; exact lt_of_block hb3
    · rcases List.mem_append.1 e with e | e
      · exact Nat.lt_of_lt_of_le (hex j e) bw03.size
      · exact Nat.lt_of_lt_of_le (hfp j e) bw03.size
  have hR4 : RdN w4 (w2.heap.size :: (ex ++ fp)) A4 ((List.replicate sz fill).map e8) := RdN.own2 own4 hf3
  have hB4 : Byt w4 (w2.heap.size :: (ex ++ fp)) (.slice A4 sz c4) (List.replicate sz fill) := ⟨A4, c4, by rw [List.length_replicate], by rw [List.length_replicate]; simpa using hcap4.1, hcap4.2, hR4⟩
  obtain ⟨hn0, hn1⟩ := hn
  obtain ⟨ha0, ha1⟩ := ha
  have hD4 := hD.on bw4
  have hk4 := hkr.on bw4
  obtain ⟨q, hq⟩ : ∃ q, q = restart t keep nn at' := ⟨_, rfl⟩
  obtain ⟨r, hr⟩ : ∃ r, r = restart s keep nn at' := ⟨_, rfl⟩
  have Hr := Lib.hid hr
  have hA := restart_any g fp s keep Ak keep.length ck nn at' w4 hD4 (by omega) rfl hk4 (by omega) hn0 hn1 ha0 ha1
  rw [← hr] at hA
  have HA := Lib.hid hA
  have h26 : w.heap.size ≤ w2.heap.size := bww.size
  have hl4 := lt_of_block hA4
  have hl6 := lt_of_block hZ4
  have hl1' := lt_of_block hY4
  have n4 : w.heap.size ∉ fp := fun e => by have := hfp _ e; omega
  have n6 : w2.heap.size ∉ fp := fun e => by have := hfp _ e; omega
  have n1 : w1.heap.size ∉ fp := fun e => by have := hfp _ e; omega
  have Hrr := Lib.hid (fun w5 fp8 (hD5 : DAt w5 g fp8 r) (k5 : Keep fp w4 w5) (f5 : Fresh w4 fp fp8) => rrestart_any w5 (w2.heap.size :: (ex ++ fp8)) t _ Ak keep keep.length ck nn at' (fun j hj => by
      rcases List.mem_cons.1 hj with e | e
      · subst e; exact Nat.lt_of_lt_of_le hl6 k5.size
      · rcases List.mem_append.1 e with e | e
        · exact Nat.lt_of_lt_of_le (hex j e) (Nat.le_trans bw4.size k5.size)
        · exact hD5.lt j e) (((hx.cons h26).on bw4).keep (k5.more (fun j hj => by simp [hj])) (fresh_cons (fresh_app ex f5))) hokt (by omega) rfl (hk4.keep k5 f5).rd (by omega) hkw hn0 hn1 ha0 ha1)
  rw [← hq] at Hrr
  clear hr hq hA
  go_wp2_with (first
    | (go_at_call 35; refine (HA.out).mono ?_; rintro e w5 ⟨rfl, fp8, hD5, k5, f5⟩; have hA5 := (show BlkT w5 w.heap.size _ _ from (k5.block hl4 n4).trans hA4); have hY5 := (show BlkT w5 w1.heap.size _ _ from (k5.block hl1' n1).trans hY4); have hZ5 := (show BlkT w5 w2.heap.size _ _ from (k5.block hl6 n6).trans hZ4); clear a0 a1 a2 a3 a4 a5 a6; obtain ⟨a0, a1, a2, a3, a4, a5, a6⟩ := seven_of hY5)
    | ((with_reducible show wpList _ _ _ (⟨some 102, _, _, _, _, _⟩ :: _) _ _); refine wpList_load_mid rfl _ _ rfl w.heap.size 0 rfl (rvL t.size vk vw vh t.fuse t.calls t.down) _ (Blk.rangeAt0 (BlkT.blk hA5)) Try.underlying108 rfl (by kernel_rfl) ?_)
    | (go_at_call 118; refine (Hrr.out w5 fp8 hD5 k5 f5).mono ?_; rintro e w6 ⟨x6, rfl, hx6, b6⟩; obtain ⟨K1, m1, e1, K2, m2, e2, K3, m3, e3, rfl⟩ := hx6.form2; have hZ6 := (show BlkT w6 w2.heap.size _ _ from (b6.block _ (lt_of_block hZ5)).trans hZ5))
    | ((with_reducible show wpList _ _ _ (⟨none, .store 108 (.tmp 6) _, _, _, _, _⟩ :: _) _ _); refine wpList_storeT rfl _ _ _ rfl rfl (ys := (rvL q.size (.slice K1 m1 e1) (.slice K2 m2 e2) (.slice K3 m3 e3) q.fuse q.calls q.down)) rfl hZ6 (by simp [rv0, rvL]) (rvL_one rfl rfl rfl) (by kernel_rfl) ?_; intro w7 hb7 hg7))
  have k7 : Keep [w.heap.size, w2.heap.size] w6 w7 := Keep.of_grown hg7 (fun g e => by cases e; simp)
  obtain ⟨F1, F2, F3⟩ := done_C bw4 k5 f5 hD5 b6 k7 (Nat.le_refl _) h26 hl4 hl6 hfp
  obtain ⟨z0, z1, z2, z3, z4, z5, z6, _⟩ := sevenT hb7
  go_wp2
  refine bodyPost_ret (v := .tuple #[.agg #[.int .i64 (q.size : Int), .slice K1 m1 e1, .slice K2 m2 e2, .slice K3 m3 e3, .int .i64 q.fuse, .int .i64 (q.calls : Int), .bool q.down], .bool true]) (by simp [results, Try.results66, go_sem, z0, z1, z2, z3, z4, z5, z6]) rfl ?_
  rw [← Hr.out]
  exact ⟨_, _, rfl, fp8, F1, F2, F3⟩
end Go.Proofs.Ytdkcdojcglmlbaa.Disk
