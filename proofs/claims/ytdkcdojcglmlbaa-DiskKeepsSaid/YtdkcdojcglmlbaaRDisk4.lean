/- The reference's disk: the walk of Write. -/
import Derived.Test.YtdkcdojcglmlbaaRDisk3
namespace Go.Proofs.Ytdkcdojcglmlbaa.Disk
open Go.RowKit
set_option linter.unusedVariables false
set_option maxRecDepth 100000
set_option maxHeartbeats 2000000 in
theorem rwrite_any (w : World) (fp : List Nat) (s : St) (p : Int) (x vb : Value) (b : List UInt8) (hfp : ∀ j ∈ fp, j < w.heap.size) (hx : RAt w fp x s) (hb : Byt w fp vb b) (hbl : b.length ≤ 1000000) (hok : ok s) (hs : s.sz ≤ 1000000) :
    Calls Try.prog 115 #[x, .int .i64 p, vb] w fun e w' => ∃ x', e = .returned (.tuple #[x', .int .i64 (write s p b).2]) ∧ RAt w' fp x' (write s p b).1 ∧ Below w.heap.size w w' := by
  obtain ⟨vk, vw, vh, rfl, hk, hw, hh⟩ := hx
  have hcl : s.calls ≤ 1000000 := by unfold St.sz at hs; omega
  obtain ⟨hf1, hf2⟩ := hok.fuse
  have hal : s.all.length ≤ 1000000 := by unfold St.sz at hs; omega
  have hpl : s.pend.length ≤ 1000000 := by unfold St.sz at hs; omega
  obtain ⟨hsz1, hsz2⟩ := hok.size
  obtain ⟨B, cB, rfl, hB1, hB2, hB3⟩ := hb
  have hko := hk.one
  have hwo := hw.one
  have hho := hh.one
  have stay : ∀ (f : Int), (write s p b) = (s, f) → ∀ W, Below w.heap.size w W → RAt W fp (.agg (rvL s.size vk vw vh s.fuse s.calls s.down).toArray) (write s p b).1 ∧ (write s p b).2 = f := fun f hf W hW => by
    rw [hf]; exact ⟨⟨vk, vw, vh, rfl, hk.on hW, hw.on hW, hh.on hW⟩, rfl⟩
  by_cases hdn : s.down = true
  · have Hst := Lib.hid (stay 12 (if_pos hdn))
    clear stay hk hw hh
    unfold rvL
    rw [hdn]
    have key : Calls Try.prog 115 #[.agg [.int .i64 (s.size : Int), vk, vw, vh, .int .i64 s.fuse, .int .i64 (s.calls : Int), .bool true].toArray, .int .i64 p, .slice B b.length cB] w fun e w' => e = .returned (.tuple #[.agg (rvL s.size vk vw vh s.fuse s.calls true).toArray, .int .i64 12]) ∧ Below w.heap.size w w' := by
      go_enter Try.func115, Try.ntmps115
      go_wp2_with (first
          | ((with_reducible show wpList _ _ _ (⟨some 3, _, _, _, _, _⟩ :: _) _ _); refine wpList_boxT rfl _ _ rfl (rvL s.size vk vw vh s.fuse s.calls true) rfl ?_; intro w1 hb1 bw1 hl1; obtain ⟨c0, c1, c2, c3, c4, c5, c6, fr⟩ := sevenT hb1)
          | ((with_reducible show wpList _ _ _ (⟨some 6, _, _, _, _, _⟩ :: _) _ _); refine wpList_allocT rfl _ rfl rv0 zeroRV ?_; intro w2 hb2 bw2; have hA2 := (show BlkT w2 w.heap.size _ _ from (bw2.block _ hl1).trans hb1); obtain ⟨c0, c1, c2, c3, c4, c5, c6, fr⟩ := sevenT hA2)
          | ((with_reducible show wpList _ _ _ (⟨some 10, _, _, _, _, _⟩ :: _) _ _); refine wpList_load_mid rfl _ _ rfl w.heap.size 0 rfl (rvL s.size vk vw vh s.fuse s.calls true) _ (Blk.rangeAt0 (BlkT.blk hA2)) Try.underlying108 rfl (by kernel_rfl) ?_)
          | ((with_reducible show wpList _ _ _ (⟨some 19, _, _, _, _, _⟩ :: _) _ _); refine wpList_load_mid rfl _ _ rfl w.heap.size 0 rfl (rvL s.size vk vw vh s.fuse s.calls true) _ (Blk.rangeAt0 (BlkT.blk hA2)) Try.underlying108 rfl (by kernel_rfl) ?_)
          | ((with_reducible show wpList _ _ _ (⟨some 23, _, _, _, _, _⟩ :: _) _ _); refine wpList_load_mid rfl _ _ rfl w.heap.size 0 rfl (rvL s.size vk vw vh s.fuse s.calls true) _ (Blk.rangeAt0 (BlkT.blk hA2)) Try.underlying108 rfl (by kernel_rfl) ?_)
          | ((with_reducible show wpList _ _ _ (⟨some 42, _, _, _, _, _⟩ :: _) _ _); refine wpList_load_mid rfl _ _ rfl w.heap.size 0 rfl (rvL s.size vk vw vh s.fuse s.calls true) _ (Blk.rangeAt0 (BlkT.blk hA2)) Try.underlying108 rfl (by kernel_rfl) ?_)
          | ((with_reducible show wpList _ _ _ (⟨some 48, _, _, _, _, _⟩ :: _) _ _); refine wpList_load_mid rfl _ _ rfl w.heap.size 0 rfl (rvL s.size vk vw vh s.fuse s.calls true) _ (Blk.rangeAt0 (BlkT.blk hA2)) Try.underlying108 rfl (by kernel_rfl) ?_)
          | ((with_reducible show wpList _ _ _ (⟨none, .store 108 (.tmp 6) _, _, _, _, _⟩ :: _) _ _); refine wpList_storeT rfl _ _ _ rfl rfl (ys := (rvL s.size vk vw vh s.fuse s.calls true)) rfl hb2 (by simp [rv0, rvL]) (rvL_one hko hwo hho) (by kernel_rfl) ?_; intro w3 hb3 hg3))
      obtain ⟨z0, z1, z2, z3, z4, z5, z6, _⟩ := sevenT hb3
      have b3 : Below w.heap.size w w3 := below_row (bt bw1 bw2) hg3 (Nat.le_of_lt hl1) (bt bw1 bw2).size
      refine bodyPost_ret (v := .tuple #[.agg (rvL s.size vk vw vh s.fuse s.calls true).toArray, .int .i64 12]) (by simp [results, Try.results115, go_sem, z0, z1, z2, z3, z4, z5, z6, rvL]) rfl ?_
      exact ⟨rfl, b3⟩
    rw [hdn] at Hst
    refine key.mono ?_
    rintro e w' ⟨rfl, hB⟩
    obtain ⟨h1, h2⟩ := Hst.out w' hB
    exact ⟨_, by rw [h2], h1, hB⟩
  · have hdf : s.down = false := by simpa using hdn
    by_cases hp : p < 0 ∨ (s.size : Int) ≤ p
    · have Hst := Lib.hid (stay 2 (by unfold write; rw [if_neg hdn, if_pos hp]))
      clear stay hk hw hh
      unfold rvL
      rw [hdf]
      have key : Calls Try.prog 115 #[.agg [.int .i64 (s.size : Int), vk, vw, vh, .int .i64 s.fuse, .int .i64 (s.calls : Int), .bool false].toArray, .int .i64 p, .slice B b.length cB] w fun e w' => e = .returned (.tuple #[.agg (rvL s.size vk vw vh s.fuse s.calls false).toArray, .int .i64 2]) ∧ Below w.heap.size w w' := by
        rcases hp with hp | hp
        · go_enter Try.func115, Try.ntmps115
          go_wp2_with (first
          | ((with_reducible show wpList _ _ _ (⟨some 3, _, _, _, _, _⟩ :: _) _ _); refine wpList_boxT rfl _ _ rfl (rvL s.size vk vw vh s.fuse s.calls false) rfl ?_; intro w1 hb1 bw1 hl1; obtain ⟨c0, c1, c2, c3, c4, c5, c6, fr⟩ := sevenT hb1)
          | ((with_reducible show wpList _ _ _ (⟨some 6, _, _, _, _, _⟩ :: _) _ _); refine wpList_allocT rfl _ rfl rv0 zeroRV ?_; intro w2 hb2 bw2; have hA2 := (show BlkT w2 w.heap.size _ _ from (bw2.block _ hl1).trans hb1); obtain ⟨c0, c1, c2, c3, c4, c5, c6, fr⟩ := sevenT hA2)
          | ((with_reducible show wpList _ _ _ (⟨some 10, _, _, _, _, _⟩ :: _) _ _); refine wpList_load_mid rfl _ _ rfl w.heap.size 0 rfl (rvL s.size vk vw vh s.fuse s.calls false) _ (Blk.rangeAt0 (BlkT.blk hA2)) Try.underlying108 rfl (by kernel_rfl) ?_)
          | ((with_reducible show wpList _ _ _ (⟨some 19, _, _, _, _, _⟩ :: _) _ _); refine wpList_load_mid rfl _ _ rfl w.heap.size 0 rfl (rvL s.size vk vw vh s.fuse s.calls false) _ (Blk.rangeAt0 (BlkT.blk hA2)) Try.underlying108 rfl (by kernel_rfl) ?_)
          | ((with_reducible show wpList _ _ _ (⟨some 23, _, _, _, _, _⟩ :: _) _ _); refine wpList_load_mid rfl _ _ rfl w.heap.size 0 rfl (rvL s.size vk vw vh s.fuse s.calls false) _ (Blk.rangeAt0 (BlkT.blk hA2)) Try.underlying108 rfl (by kernel_rfl) ?_)
          | ((with_reducible show wpList _ _ _ (⟨some 42, _, _, _, _, _⟩ :: _) _ _); refine wpList_load_mid rfl _ _ rfl w.heap.size 0 rfl (rvL s.size vk vw vh s.fuse s.calls false) _ (Blk.rangeAt0 (BlkT.blk hA2)) Try.underlying108 rfl (by kernel_rfl) ?_)
          | ((with_reducible show wpList _ _ _ (⟨some 48, _, _, _, _, _⟩ :: _) _ _); refine wpList_load_mid rfl _ _ rfl w.heap.size 0 rfl (rvL s.size vk vw vh s.fuse s.calls false) _ (Blk.rangeAt0 (BlkT.blk hA2)) Try.underlying108 rfl (by kernel_rfl) ?_)
          | ((with_reducible show wpList _ _ _ (⟨none, .store 108 (.tmp 6) _, _, _, _, _⟩ :: _) _ _); refine wpList_storeT rfl _ _ _ rfl rfl (ys := (rvL s.size vk vw vh s.fuse s.calls false)) rfl hb2 (by simp [rv0, rvL]) (rvL_one hko hwo hho) (by kernel_rfl) ?_; intro w3 hb3 hg3))
          obtain ⟨z0, z1, z2, z3, z4, z5, z6, _⟩ := sevenT hb3
          have b3 : Below w.heap.size w w3 := below_row (bt bw1 bw2) hg3 (Nat.le_of_lt hl1) (bt bw1 bw2).size
          refine bodyPost_ret (v := .tuple #[.agg (rvL s.size vk vw vh s.fuse s.calls false).toArray, .int .i64 2]) (by simp [results, Try.results115, go_sem, z0, z1, z2, z3, z4, z5, z6, rvL]) rfl ?_
          exact ⟨rfl, b3⟩
        · go_enter Try.func115, Try.ntmps115
          go_wp2_with (first
          | ((with_reducible show wpList _ _ _ (⟨some 3, _, _, _, _, _⟩ :: _) _ _); refine wpList_boxT rfl _ _ rfl (rvL s.size vk vw vh s.fuse s.calls false) rfl ?_; intro w1 hb1 bw1 hl1; obtain ⟨c0, c1, c2, c3, c4, c5, c6, fr⟩ := sevenT hb1)
          | ((with_reducible show wpList _ _ _ (⟨some 6, _, _, _, _, _⟩ :: _) _ _); refine wpList_allocT rfl _ rfl rv0 zeroRV ?_; intro w2 hb2 bw2; have hA2 := (show BlkT w2 w.heap.size _ _ from (bw2.block _ hl1).trans hb1); obtain ⟨c0, c1, c2, c3, c4, c5, c6, fr⟩ := sevenT hA2)
          | ((with_reducible show wpList _ _ _ (⟨some 10, _, _, _, _, _⟩ :: _) _ _); refine wpList_load_mid rfl _ _ rfl w.heap.size 0 rfl (rvL s.size vk vw vh s.fuse s.calls false) _ (Blk.rangeAt0 (BlkT.blk hA2)) Try.underlying108 rfl (by kernel_rfl) ?_)
          | ((with_reducible show wpList _ _ _ (⟨some 19, _, _, _, _, _⟩ :: _) _ _); refine wpList_load_mid rfl _ _ rfl w.heap.size 0 rfl (rvL s.size vk vw vh s.fuse s.calls false) _ (Blk.rangeAt0 (BlkT.blk hA2)) Try.underlying108 rfl (by kernel_rfl) ?_)
          | ((with_reducible show wpList _ _ _ (⟨some 23, _, _, _, _, _⟩ :: _) _ _); refine wpList_load_mid rfl _ _ rfl w.heap.size 0 rfl (rvL s.size vk vw vh s.fuse s.calls false) _ (Blk.rangeAt0 (BlkT.blk hA2)) Try.underlying108 rfl (by kernel_rfl) ?_)
          | ((with_reducible show wpList _ _ _ (⟨some 42, _, _, _, _, _⟩ :: _) _ _); refine wpList_load_mid rfl _ _ rfl w.heap.size 0 rfl (rvL s.size vk vw vh s.fuse s.calls false) _ (Blk.rangeAt0 (BlkT.blk hA2)) Try.underlying108 rfl (by kernel_rfl) ?_)
          | ((with_reducible show wpList _ _ _ (⟨some 48, _, _, _, _, _⟩ :: _) _ _); refine wpList_load_mid rfl _ _ rfl w.heap.size 0 rfl (rvL s.size vk vw vh s.fuse s.calls false) _ (Blk.rangeAt0 (BlkT.blk hA2)) Try.underlying108 rfl (by kernel_rfl) ?_)
          | ((with_reducible show wpList _ _ _ (⟨none, .store 108 (.tmp 6) _, _, _, _, _⟩ :: _) _ _); refine wpList_storeT rfl _ _ _ rfl rfl (ys := (rvL s.size vk vw vh s.fuse s.calls false)) rfl hb2 (by simp [rv0, rvL]) (rvL_one hko hwo hho) (by kernel_rfl) ?_; intro w3 hb3 hg3))
          obtain ⟨z0, z1, z2, z3, z4, z5, z6, _⟩ := sevenT hb3
          have b3 : Below w.heap.size w w3 := below_row (bt bw1 bw2) hg3 (Nat.le_of_lt hl1) (bt bw1 bw2).size
          refine bodyPost_ret (v := .tuple #[.agg (rvL s.size vk vw vh s.fuse s.calls false).toArray, .int .i64 2]) (by simp [results, Try.results115, go_sem, z0, z1, z2, z3, z4, z5, z6, rvL]) rfl ?_
          exact ⟨rfl, b3⟩
      rw [hdf] at Hst
      refine key.mono ?_
      rintro e w' ⟨rfl, hB⟩
      obtain ⟨h1, h2⟩ := Hst.out w' hB
      exact ⟨_, by rw [h2], h1, hB⟩
    · have hp1 : ¬ p < 0 := by omega
      have hp2 : ¬ (s.size : Int) ≤ p := by omega
      by_cases hb5 : b.length ≠ 512
      · have Hst := Lib.hid (stay 4 (by unfold write; rw [if_neg hdn, if_neg hp, if_pos hb5]))
        clear stay hk hw hh
        unfold rvL
        rw [hdf]
        have key : Calls Try.prog 115 #[.agg [.int .i64 (s.size : Int), vk, vw, vh, .int .i64 s.fuse, .int .i64 (s.calls : Int), .bool false].toArray, .int .i64 p, .slice B b.length cB] w fun e w' => e = .returned (.tuple #[.agg (rvL s.size vk vw vh s.fuse s.calls false).toArray, .int .i64 4]) ∧ Below w.heap.size w w' := by
          go_enter Try.func115, Try.ntmps115
          have hlI : ((b.length : Int) != 512) = true := by simp; omega
          go_wp2_with (first
          | ((with_reducible show wpList _ _ _ (⟨some 3, _, _, _, _, _⟩ :: _) _ _); refine wpList_boxT rfl _ _ rfl (rvL s.size vk vw vh s.fuse s.calls false) rfl ?_; intro w1 hb1 bw1 hl1; obtain ⟨c0, c1, c2, c3, c4, c5, c6, fr⟩ := sevenT hb1)
          | ((with_reducible show wpList _ _ _ (⟨some 6, _, _, _, _, _⟩ :: _) _ _); refine wpList_allocT rfl _ rfl rv0 zeroRV ?_; intro w2 hb2 bw2; have hA2 := (show BlkT w2 w.heap.size _ _ from (bw2.block _ hl1).trans hb1); obtain ⟨c0, c1, c2, c3, c4, c5, c6, fr⟩ := sevenT hA2)
          | ((with_reducible show wpList _ _ _ (⟨some 10, _, _, _, _, _⟩ :: _) _ _); refine wpList_load_mid rfl _ _ rfl w.heap.size 0 rfl (rvL s.size vk vw vh s.fuse s.calls false) _ (Blk.rangeAt0 (BlkT.blk hA2)) Try.underlying108 rfl (by kernel_rfl) ?_)
          | ((with_reducible show wpList _ _ _ (⟨some 19, _, _, _, _, _⟩ :: _) _ _); refine wpList_load_mid rfl _ _ rfl w.heap.size 0 rfl (rvL s.size vk vw vh s.fuse s.calls false) _ (Blk.rangeAt0 (BlkT.blk hA2)) Try.underlying108 rfl (by kernel_rfl) ?_)
          | ((with_reducible show wpList _ _ _ (⟨some 23, _, _, _, _, _⟩ :: _) _ _); refine wpList_load_mid rfl _ _ rfl w.heap.size 0 rfl (rvL s.size vk vw vh s.fuse s.calls false) _ (Blk.rangeAt0 (BlkT.blk hA2)) Try.underlying108 rfl (by kernel_rfl) ?_)
          | ((with_reducible show wpList _ _ _ (⟨some 42, _, _, _, _, _⟩ :: _) _ _); refine wpList_load_mid rfl _ _ rfl w.heap.size 0 rfl (rvL s.size vk vw vh s.fuse s.calls false) _ (Blk.rangeAt0 (BlkT.blk hA2)) Try.underlying108 rfl (by kernel_rfl) ?_)
          | ((with_reducible show wpList _ _ _ (⟨some 48, _, _, _, _, _⟩ :: _) _ _); refine wpList_load_mid rfl _ _ rfl w.heap.size 0 rfl (rvL s.size vk vw vh s.fuse s.calls false) _ (Blk.rangeAt0 (BlkT.blk hA2)) Try.underlying108 rfl (by kernel_rfl) ?_)
          | ((with_reducible show wpList _ _ _ (⟨none, .store 108 (.tmp 6) _, _, _, _, _⟩ :: _) _ _); refine wpList_storeT rfl _ _ _ rfl rfl (ys := (rvL s.size vk vw vh s.fuse s.calls false)) rfl hb2 (by simp [rv0, rvL]) (rvL_one hko hwo hho) (by kernel_rfl) ?_; intro w3 hb3 hg3))
          obtain ⟨z0, z1, z2, z3, z4, z5, z6, _⟩ := sevenT hb3
          have b3 : Below w.heap.size w w3 := below_row (bt bw1 bw2) hg3 (Nat.le_of_lt hl1) (bt bw1 bw2).size
          refine bodyPost_ret (v := .tuple #[.agg (rvL s.size vk vw vh s.fuse s.calls false).toArray, .int .i64 4]) (by simp [results, Try.results115, go_sem, z0, z1, z2, z3, z4, z5, z6, rvL]) rfl ?_
          exact ⟨rfl, b3⟩
        rw [hdf] at Hst
        refine key.mono ?_
        rintro e w' ⟨rfl, hB⟩
        obtain ⟨h1, h2⟩ := Hst.out w' hB
        exact ⟨_, by rw [h2], h1, hB⟩
      · have hb6 : b.length = 512 := by omega
        obtain ⟨q, rfl⟩ : ∃ q : Nat, p = (q : Int) := ⟨p.toNat, by omega⟩
        have Hp := Lib.hid (show write s (q : Int) b = burn { s with pend := s.pend ++ [(q, b)] } from by unfold write; rw [if_neg hdn, if_neg hp, if_neg hb5, Int.toNat_natCast])
        obtain ⟨Aw, cw, acs, rfl, hw1, hw2, hw3, hw4, hw5, hw6⟩ := hw
        obtain ⟨i0, hi0, hz0, hz1, hz2⟩ := info_parts infoWr
        have Hk := Lib.hid (fun W (bW : Below w.heap.size w W) => hk.on bW)
        have Hh := Lib.hid (fun W (bW : Below w.heap.size w W) => hh.on bW)
        have hre := run_empty
        rw [hb6] at hB1 ⊢
        clear stay hk hh hp
        unfold rvL
        rw [hdf]
        go_enter Try.func115, Try.ntmps115
        go_upto_region 8 with (first
            | ((with_reducible show wpList _ _ _ (⟨some 3, _, _, _, _, _⟩ :: _) _ _); refine wpList_boxT rfl _ _ rfl (rvL s.size vk (.slice Aw s.pend.length cw) vh s.fuse s.calls false) rfl ?_; intro w1 hb1 bw1 hl1; obtain ⟨c0, c1, c2, c3, c4, c5, c6, fr⟩ := sevenT hb1)
            | ((with_reducible show wpList _ _ _ (⟨some 6, _, _, _, _, _⟩ :: _) _ _); refine wpList_allocT rfl _ rfl rv0 zeroRV ?_; intro w2 hb2 bw2; have hA2 := (show BlkT w2 w.heap.size _ _ from (bw2.block _ hl1).trans hb1); obtain ⟨c0, c1, c2, c3, c4, c5, c6, fr⟩ := sevenT hA2; have hPA := Lib.hid (prepA w2 fp Aw acs (hw5.on (bt bw1 bw2))); have ha2 := lt_of_block hA2)
            | ((with_reducible show wpList _ _ _ (⟨some 27, _, _, _, _, _⟩ :: _) _ _); refine wpList_append_rd _ rfl _ _ _ rfl w2.heap.size 70 i0 _ 2 32 Try.underlying66 hi0 hz0 hz1 hz2 rfl (by omega) _ 0 [] rfl hPA.out.own _ Aw s.pend.length cw acs rfl hw3 hPA.out.rd hw4 (by simp only [maxLen]; omega) (by omega) hPA.out.bel.size ?_; intro v8 w8 own8 hg8 hat8; have b8 := (hPA.out.step rfl hg8 : Below w2.heap.size w2 w8))
            | ((with_reducible show wpList _ _ _ (⟨some 32, _, _, _, _, _⟩ :: _) _ _); refine wpList_append_rd _ rfl _ _ _ rfl w2.heap.size 70 i0 _ 2 32 Try.underlying66 hi0 hz0 hz1 hz2 rfl (by omega) _ (0 + s.pend.length) ([] ++ acs) rfl (own8.alloc _) _ _ 1 1 [.int .i64 (q : Int), .slice B 512 cB] rfl rfl (Rd.lit w8 _ _ _ (w8.heap.size + 1) rfl (by omega)) (by simp [Value.oneCell']) (by simp only [maxLen]; omega) (by omega) (Nat.le_trans b8.size (b1alloc _ _).size) ?_; intro v11 w11 own11 hg11 hat11; have b11 := ((bt b8 (b1alloc _ _)).grown hg11 (bt b8 (b1alloc _ _)).size (fun q hq => own_block own8 hq) : Below w2.heap.size w2 w11); obtain ⟨_, _, s2, _, _, _, _, sf⟩ := sevenT (show BlkT w11 w.heap.size _ _ from (b11.block _ ha2).trans hA2); have sf1 := sf 2; have own12 := own11; obtain ⟨A11, c11, rfl⟩ := own_form own12))
        have hl2 := lt_of_block hb2
        have bww := bt bw1 bw2
        have hw12 : w.heap.size ≤ w1.heap.size := Nat.le_of_lt hl1
        have hne : w1.heap.size ≠ w.heap.size := by omega
        have hfq : ∀ j ∈ w1.heap.size :: w.heap.size :: fp, j < w2.heap.size := fun j hj => by
          rcases List.mem_cons.1 hj with e | e
          · omega
          · rcases List.mem_cons.1 e with e | e
            · omega
            · have := hfp j e; omega
        have hE : EntN w2 (w1.heap.size :: w.heap.size :: fp) s.pend acs := ((hw6.cons (a := w.heap.size) (Nat.le_refl _)).cons (a := w1.heap.size) hw12).keep (Keep.of_below bww _) (Fresh.refl _ _)
        have hR : RdN w2 (w1.heap.size :: w.heap.size :: fp) B (b.map e8) := (rdN_cons (rdN_cons hB3 (a := w.heap.size) (Nat.le_refl _)) (a := w1.heap.size) hw12).keep (Keep.of_below bww _) (Fresh.refl _ _)
        have hn11 : 0 + s.pend.length + 1 = (s.pend ++ [(q, b)]).length := by simp
        obtain ⟨m1, m2, m3, m4, _⟩ := mid_row (w3 := w2) (fp := w1.heap.size :: w.heap.size :: fp) (x := (q, b)) hfq bww ⟨b11.os, b11.tape, b11.output, b11.size, b11.block⟩ own11 hn11 hw4 hE hw3 (by rw [hb6]; exact hB1) hB2 hb6 hR w.heap.size 2 (by simp) (Nat.le_refl _) (.slice A11 (0 + s.pend.length + 1) c11)
        have m5 := m4 _ _ hA2
        have m7 := m3 _ _ _ hne hb2
        simp only [Nat.zero_add] at m1 m2 m5 m7
        obtain ⟨w5, hw5'⟩ : ∃ w5, w5 = w11.setCell ⟨w.heap.size, 2, none⟩ (.slice A11 (s.pend.length + 1) c11) := ⟨_, rfl⟩
        rw [← hw5'] at m1 m2 m5 m7 ⊢
        replace m5 : BlkT w5 w.heap.size 108 (rvL s.size vk (.slice A11 (s.pend.length + 1) c11) vh s.fuse s.calls false) := m5
        have m6 : BlkT (w5.setCell ⟨w.heap.size, 5, none⟩ (.int .i64 ((s.calls : Int) + 1))) w.heap.size 108 (rvL s.size vk (.slice A11 (s.pend.length + 1) c11) vh s.fuse (s.calls + 1) false) := m5.set 5 _
        have m8 := m7.other 5 (.int .i64 ((s.calls : Int) + 1)) hne
        have bX := m2.setCell (p := ⟨w.heap.size, 5, none⟩) (Nat.le_refl _) (.int .i64 ((s.calls : Int) + 1))
        have kX : Keep (w1.heap.size :: w.heap.size :: fp) w5 (w5.setCell ⟨w.heap.size, 5, none⟩ (.int .i64 ((s.calls : Int) + 1))) := (Keep.refl _ _).set (.inl (by simp)) _
        clear m3 m4 hE hR hfq hw5' own11 own12 own8 hg11 hg8 hat8 hat11 b8 b11 hA2 hPA c0 c1 c2 c3 c4 c5 c6 fr s2 sf sf1 hw5 hw6 hb2 hb1
        obtain ⟨c0, c1, c2, c3, c4, c5, c6, fr⟩ := sevenT m5
        by_cases hz : s.fuse = 0
        · have m9 := m6.set 6 (.bool true)
          have m10 := m8.other 6 (.bool true) hne
          have bY := bX.setCell (p := ⟨w.heap.size, 6, none⟩) (Nat.le_refl _) (.bool true)
          have kY := kX.set (p := ⟨w.heap.size, 6, none⟩) (.inl (by simp)) (.bool true)
          have hzz : (s.fuse == 0) = true := by simp [hz]
          go_wp2_with (first
            | ((with_reducible show wpList _ _ _ (⟨some 42, _, _, _, _, _⟩ :: _) _ _); refine wpList_load_mid rfl _ _ rfl w.heap.size 0 rfl (rvL s.size vk (.slice A11 (s.pend.length + 1) c11) vh s.fuse (s.calls + 1) true) _ (Blk.rangeAt0 (BlkT.blk m9)) Try.underlying108 rfl (by kernel_rfl) ?_)
            | ((with_reducible show wpList _ _ _ (⟨none, .store 108 (.tmp 6) _, _, _, _, _⟩ :: _) _ _); refine wpList_storeT rfl _ _ _ rfl rfl (ys := (rvL s.size vk (.slice A11 (s.pend.length + 1) c11) vh s.fuse (s.calls + 1) true)) rfl m10 (by simp [rv0, rvL]) (rvL_one hko rfl hho) (by kernel_rfl) ?_; intro w9 hb9 hg9))
          obtain ⟨z0, z1, z2, z3, z4, z5, z6, _⟩ := sevenT hb9
          have b9 : Below w.heap.size w w9 := below_row bY hg9 hw12 bY.size
          have k9 : Keep (w1.heap.size :: w.heap.size :: fp) w5 w9 := kY.trans (Keep.of_grown hg9 (fun g e => by cases e; simp)) (Fresh.refl _ _)
          have m9 := (m1.keep k9 (Fresh.refl _ _)).less (fp := fp) (by intro j hj; simp [hj])
          refine bodyPost_ret (v := .tuple #[.agg (rvL s.size vk (.slice A11 (s.pend.length + 1) c11) vh s.fuse (s.calls + 1) true).toArray, .int .i64 12]) (by simp [results, Try.results115, go_sem, z0, z1, z2, z3, z4, z5, z6, rvL]) rfl ?_
          rw [Hp.out]
          unfold burn
          rw [if_pos hz]
          exact ⟨_, rfl, ⟨_, _, _, rfl, Hk.out _ b9, m9, Hh.out _ b9⟩, b9⟩
        · have hzz : (s.fuse == 0) = false := by simp [hz]
          have m9 := m6.set 4 (.int .i64 (max (s.fuse - 1) (-1)))
          have m10 := m8.other 4 (.int .i64 (max (s.fuse - 1) (-1))) hne
          have bY := bX.setCell (p := ⟨w.heap.size, 4, none⟩) (Nat.le_refl _) (.int .i64 (max (s.fuse - 1) (-1)))
          have kY := kX.set (p := ⟨w.heap.size, 4, none⟩) (.inl (by simp)) (.int .i64 (max (s.fuse - 1) (-1)))
          go_wp2_with (first
            | ((with_reducible show wpList _ _ _ (⟨some 48, _, _, _, _, _⟩ :: _) _ _); refine wpList_load_mid rfl _ _ rfl w.heap.size 0 rfl (rvL s.size vk (.slice A11 (s.pend.length + 1) c11) vh (max (s.fuse - 1) (-1)) (s.calls + 1) false) _ (Blk.rangeAt0 (BlkT.blk m9)) Try.underlying108 rfl (by kernel_rfl) ?_)
            | ((with_reducible show wpList _ _ _ (⟨none, .store 108 (.tmp 6) _, _, _, _, _⟩ :: _) _ _); refine wpList_storeT rfl _ _ _ rfl rfl (ys := (rvL s.size vk (.slice A11 (s.pend.length + 1) c11) vh (max (s.fuse - 1) (-1)) (s.calls + 1) false)) rfl m10 (by simp [rv0, rvL]) (rvL_one hko rfl hho) (by kernel_rfl) ?_; intro w9 hb9 hg9))
          obtain ⟨z0, z1, z2, z3, z4, z5, z6, _⟩ := sevenT hb9
          have b9 : Below w.heap.size w w9 := below_row bY hg9 hw12 bY.size
          have k9 : Keep (w1.heap.size :: w.heap.size :: fp) w5 w9 := kY.trans (Keep.of_grown hg9 (fun g e => by cases e; simp)) (Fresh.refl _ _)
          have m9 := (m1.keep k9 (Fresh.refl _ _)).less (fp := fp) (by intro j hj; simp [hj])
          refine bodyPost_ret (v := .tuple #[.agg (rvL s.size vk (.slice A11 (s.pend.length + 1) c11) vh (max (s.fuse - 1) (-1)) (s.calls + 1) false).toArray, .int .i64 0]) (by simp [results, Try.results115, go_sem, z0, z1, z2, z3, z4, z5, z6, rvL]) rfl ?_
          rw [Hp.out]
          have hburn : burn { s with pend := s.pend ++ [(q, b)] } = ({ s with pend := s.pend ++ [(q, b)], calls := s.calls + 1, fuse := (max (s.fuse - 1) (-1)) }, 0) := by
            unfold burn
            rw [if_neg hz]
            by_cases h0 : 0 < s.fuse
            · rw [if_pos h0, show (max (s.fuse - 1) (-1)) = s.fuse - 1 by omega]
            · rw [if_neg h0, show (max (s.fuse - 1) (-1)) = s.fuse by omega]
          rw [hburn]
          refine ⟨_, rfl, ⟨_, _, _, ?_, Hk.out _ b9, m9, Hh.out _ b9⟩, b9⟩
          simp only [hdf]
end Go.Proofs.Ytdkcdojcglmlbaa.Disk
