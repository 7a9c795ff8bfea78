/- The reference's disk: the walks of New, Put, Write. -/
import Derived.Test.YtdkcdojcglmlbaaRDisk2
namespace Go.Proofs.Ytdkcdojcglmlbaa.Disk
open Go.RowKit
set_option linter.unusedVariables false
set_option maxRecDepth 100000
/-- a value is the reference's disk -/
def RAt (w : World) (fp : List Nat) (v : Value) (s : St) : Prop := ∃ vk vw vh, v = .agg (rvL s.size vk vw vh s.fuse s.calls s.down).toArray ∧ WRow w fp vk s.all ∧ WRow w fp vw s.pend ∧ WRow w fp vh s.all
theorem RAt.keep {w w' : World} {fp fp' : List Nat} {v : Value} {s : St} (h : RAt w fp v s) (k : Keep fp w w') (f : Fresh w fp fp') : RAt w' fp' v s := by
  obtain ⟨vk, vw, vh, h1, h2, h3, h4⟩ := h
  exact ⟨vk, vw, vh, h1, h2.keep k f, h3.keep k f, h4.keep k f⟩
theorem RAt.on {w w' : World} {fp : List Nat} {v : Value} {s : St} (h : RAt w fp v s) (b : Below w.heap.size w w') : RAt w' fp v s := h.keep (Keep.of_below b fp) (Fresh.refl _ _)
theorem WRow.cons {w : World} {fp : List Nat} {v : Value} {l : List Wr} (h : WRow w fp v l) {a : Nat} (ha : w.heap.size ≤ a) : WRow w (a :: fp) v l := by
  obtain ⟨A, c, acs, h1, h2, h3, h4, h5, h6, h7⟩ := h
  exact ⟨A, c, acs, h1, h2, h3, h4, h5, rdN_cons h6 ha, h7.cons ha⟩
theorem WRow.one {w : World} {fp : List Nat} {v : Value} {l : List Wr} (h : WRow w fp v l) : v.oneCell' = true := by obtain ⟨A, c, acs, rfl, _⟩ := h; rfl
set_option maxHeartbeats 2000000 in
theorem rnew_any (n : Nat) (w : World) : Calls Try.prog 65 #[.int .i64 (n : Int)] w fun e w' => ∃ x, e = .returned x ∧ (∀ fp, RAt w' fp x (new n)) ∧ Below w.heap.size w w' := by
  go_enter Try.func65, Try.ntmps65
  go_wp2
  refine bodyPost_ret (v := .agg (rvL n (.slice none 0 0) (.slice none 0 0) (.slice none 0 0) (-1) 0 false).toArray) (by simp [results, Try.results65, go_sem, rvL]) rfl ?_
  exact ⟨_, rfl, fun fp => ⟨_, _, _, rfl, WRow.nil _ _, WRow.nil _ _, WRow.nil _ _⟩, b1alloc _ _⟩
set_option maxHeartbeats 2000000 in
theorem rput_any (w : World) (fp : List Nat) (s : St) (p : Int) (x vb : Value) (b : List UInt8) (hfp : ∀ j ∈ fp, j < w.heap.size) (hx : RAt w fp x s) (hb : Byt w fp vb b) (hbl : b.length ≤ 1000000) (hok : ok s) (hs : s.sz ≤ 1000000) :
    Calls Try.prog 119 #[x, .int .i64 p, vb] w fun e w' => ∃ x', e = .returned (.tuple #[x', .int .i64 (put s p b).2]) ∧ RAt w' fp x' (put s p b).1 ∧ Below w.heap.size w w' := by
  obtain ⟨vk, vw, vh, rfl, hk, hw, hh⟩ := hx
  have hal : s.all.length ≤ 1000000 := by unfold St.sz at hs; omega
  have hpl : s.pend.length ≤ 1000000 := by unfold St.sz at hs; omega
  obtain ⟨hsz1, hsz2⟩ := hok.size
  obtain ⟨B, cB, rfl, hB1, hB2, hB3⟩ := hb
  have hko := hk.one
  have hwo := hw.one
  have hho := hh.one
  have stay : ∀ (f : Int), (put s p b) = (s, f) → ∀ W, Below w.heap.size w W → RAt W fp (.agg (rvL s.size vk vw vh s.fuse s.calls s.down).toArray) (put s p b).1 ∧ (put s p b).2 = f := fun f hf W hW => by
    rw [hf]; exact ⟨⟨vk, vw, vh, rfl, hk.on hW, hw.on hW, hh.on hW⟩, rfl⟩
  by_cases hp : p < 0 ∨ (s.size : Int) ≤ p
  · have Hst := Lib.hid (stay 2 (if_pos hp))
    clear stay hk hw hh
    unfold rvL
    have key : Calls Try.prog 119 #[.agg [.int .i64 (s.size : Int), vk, vw, vh, .int .i64 s.fuse, .int .i64 (s.calls : Int), .bool s.down].toArray, .int .i64 p, .slice B b.length cB] w fun e w' => e = .returned (.tuple #[.agg (rvL s.size vk vw vh s.fuse s.calls s.down).toArray, .int .i64 2]) ∧ Below w.heap.size w w' := by
      rcases hp with hp | hp
      · go_enter Try.func119, Try.ntmps119
        go_wp2_with (first
          | ((with_reducible show wpList _ _ _ (⟨some 3, _, _, _, _, _⟩ :: _) _ _); refine wpList_boxT rfl _ _ rfl (rvL s.size vk vw vh s.fuse s.calls s.down) rfl ?_; intro w1 hb1 bw1 hl1; obtain ⟨c0, c1, c2, c3, c4, c5, c6, fr⟩ := sevenT hb1)
          | ((with_reducible show wpList _ _ _ (⟨some 6, _, _, _, _, _⟩ :: _) _ _); refine wpList_allocT rfl _ rfl rv0 zeroRV ?_; intro w2 hb2 bw2; have hA2 := (show BlkT w2 w.heap.size _ _ from (bw2.block _ hl1).trans hb1); obtain ⟨c0, c1, c2, c3, c4, c5, c6, fr⟩ := sevenT hA2)
          | ((with_reducible show wpList _ _ _ (⟨some 16, _, _, _, _, _⟩ :: _) _ _); refine wpList_load_mid rfl _ _ rfl w.heap.size 0 rfl (rvL s.size vk vw vh s.fuse s.calls s.down) _ (Blk.rangeAt0 (BlkT.blk hA2)) Try.underlying108 rfl (by kernel_rfl) ?_)
          | ((with_reducible show wpList _ _ _ (⟨some 20, _, _, _, _, _⟩ :: _) _ _); refine wpList_load_mid rfl _ _ rfl w.heap.size 0 rfl (rvL s.size vk vw vh s.fuse s.calls s.down) _ (Blk.rangeAt0 (BlkT.blk hA2)) Try.underlying108 rfl (by kernel_rfl) ?_)
          | ((with_reducible show wpList _ _ _ (⟨some 21, _, _, _, _, _⟩ :: _) _ _); refine wpList_load_mid rfl _ _ rfl w.heap.size 0 rfl (rvL s.size vk vw vh s.fuse s.calls s.down) _ (Blk.rangeAt0 (BlkT.blk hA2)) Try.underlying108 rfl (by kernel_rfl) ?_)
          | ((with_reducible show wpList _ _ _ (⟨none, .store 108 (.tmp 6) _, _, _, _, _⟩ :: _) _ _); refine wpList_storeT rfl _ _ _ rfl rfl (ys := (rvL s.size vk vw vh s.fuse s.calls s.down)) rfl hb2 (by simp [rv0, rvL]) (rvL_one hko hwo hho) (by kernel_rfl) ?_; intro w3 hb3 hg3))
        obtain ⟨z0, z1, z2, z3, z4, z5, z6, _⟩ := sevenT hb3
        have b3 : Below w.heap.size w w3 := below_row (bt bw1 bw2) hg3 (Nat.le_of_lt hl1) (bt bw1 bw2).size
        refine bodyPost_ret (v := .tuple #[.agg (rvL s.size vk vw vh s.fuse s.calls s.down).toArray, .int .i64 2]) (by simp [results, Try.results119, go_sem, z0, z1, z2, z3, z4, z5, z6, rvL]) rfl ?_
        exact ⟨rfl, b3⟩
      · go_enter Try.func119, Try.ntmps119
        go_wp2_with (first
          | ((with_reducible show wpList _ _ _ (⟨some 3, _, _, _, _, _⟩ :: _) _ _); refine wpList_boxT rfl _ _ rfl (rvL s.size vk vw vh s.fuse s.calls s.down) rfl ?_; intro w1 hb1 bw1 hl1; obtain ⟨c0, c1, c2, c3, c4, c5, c6, fr⟩ := sevenT hb1)
          | ((with_reducible show wpList _ _ _ (⟨some 6, _, _, _, _, _⟩ :: _) _ _); refine wpList_allocT rfl _ rfl rv0 zeroRV ?_; intro w2 hb2 bw2; have hA2 := (show BlkT w2 w.heap.size _ _ from (bw2.block _ hl1).trans hb1); obtain ⟨c0, c1, c2, c3, c4, c5, c6, fr⟩ := sevenT hA2)
          | ((with_reducible show wpList _ _ _ (⟨some 16, _, _, _, _, _⟩ :: _) _ _); refine wpList_load_mid rfl _ _ rfl w.heap.size 0 rfl (rvL s.size vk vw vh s.fuse s.calls s.down) _ (Blk.rangeAt0 (BlkT.blk hA2)) Try.underlying108 rfl (by kernel_rfl) ?_)
          | ((with_reducible show wpList _ _ _ (⟨some 20, _, _, _, _, _⟩ :: _) _ _); refine wpList_load_mid rfl _ _ rfl w.heap.size 0 rfl (rvL s.size vk vw vh s.fuse s.calls s.down) _ (Blk.rangeAt0 (BlkT.blk hA2)) Try.underlying108 rfl (by kernel_rfl) ?_)
          | ((with_reducible show wpList _ _ _ (⟨some 21, _, _, _, _, _⟩ :: _) _ _); refine wpList_load_mid rfl _ _ rfl w.heap.size 0 rfl (rvL s.size vk vw vh s.fuse s.calls s.down) _ (Blk.rangeAt0 (BlkT.blk hA2)) Try.underlying108 rfl (by kernel_rfl) ?_)
          | ((with_reducible show wpList _ _ _ (⟨none, .store 108 (.tmp 6) _, _, _, _, _⟩ :: _) _ _); refine wpList_storeT rfl _ _ _ rfl rfl (ys := (rvL s.size vk vw vh s.fuse s.calls s.down)) rfl hb2 (by simp [rv0, rvL]) (rvL_one hko hwo hho) (by kernel_rfl) ?_; intro w3 hb3 hg3))
        obtain ⟨z0, z1, z2, z3, z4, z5, z6, _⟩ := sevenT hb3
        have b3 : Below w.heap.size w w3 := below_row (bt bw1 bw2) hg3 (Nat.le_of_lt hl1) (bt bw1 bw2).size
        refine bodyPost_ret (v := .tuple #[.agg (rvL s.size vk vw vh s.fuse s.calls s.down).toArray, .int .i64 2]) (by simp [results, Try.results119, go_sem, z0, z1, z2, z3, z4, z5, z6, rvL]) rfl ?_
        exact ⟨rfl, b3⟩
    refine key.mono ?_
    rintro e w' ⟨rfl, hB⟩
    obtain ⟨h1, h2⟩ := Hst.out w' hB
    exact ⟨_, by rw [h2], h1, hB⟩
  · have hp1 : ¬ p < 0 := by omega
    have hp2 : ¬ (s.size : Int) ≤ p := by omega
    by_cases hb5 : b.length ≠ 512
    · have Hst := Lib.hid (stay 4 (by unfold put; rw [if_neg hp, if_pos hb5]))
      clear stay hk hw hh
      unfold rvL
      have key : Calls Try.prog 119 #[.agg [.int .i64 (s.size : Int), vk, vw, vh, .int .i64 s.fuse, .int .i64 (s.calls : Int), .bool s.down].toArray, .int .i64 p, .slice B b.length cB] w fun e w' => e = .returned (.tuple #[.agg (rvL s.size vk vw vh s.fuse s.calls s.down).toArray, .int .i64 4]) ∧ Below w.heap.size w w' := by
        go_enter Try.func119, Try.ntmps119
        have hlI : ((b.length : Int) != 512) = true := by simp; omega
        go_wp2_with (first
          | ((with_reducible show wpList _ _ _ (⟨some 3, _, _, _, _, _⟩ :: _) _ _); refine wpList_boxT rfl _ _ rfl (rvL s.size vk vw vh s.fuse s.calls s.down) rfl ?_; intro w1 hb1 bw1 hl1; obtain ⟨c0, c1, c2, c3, c4, c5, c6, fr⟩ := sevenT hb1)
          | ((with_reducible show wpList _ _ _ (⟨some 6, _, _, _, _, _⟩ :: _) _ _); refine wpList_allocT rfl _ rfl rv0 zeroRV ?_; intro w2 hb2 bw2; have hA2 := (show BlkT w2 w.heap.size _ _ from (bw2.block _ hl1).trans hb1); obtain ⟨c0, c1, c2, c3, c4, c5, c6, fr⟩ := sevenT hA2)
          | ((with_reducible show wpList _ _ _ (⟨some 16, _, _, _, _, _⟩ :: _) _ _); refine wpList_load_mid rfl _ _ rfl w.heap.size 0 rfl (rvL s.size vk vw vh s.fuse s.calls s.down) _ (Blk.rangeAt0 (BlkT.blk hA2)) Try.underlying108 rfl (by kernel_rfl) ?_)
          | ((with_reducible show wpList _ _ _ (⟨some 20, _, _, _, _, _⟩ :: _) _ _); refine wpList_load_mid rfl _ _ rfl w.heap.size 0 rfl (rvL s.size vk vw vh s.fuse s.calls s.down) _ (Blk.rangeAt0 (BlkT.blk hA2)) Try.underlying108 rfl (by kernel_rfl) ?_)
          | ((with_reducible show wpList _ _ _ (⟨some 21, _, _, _, _, _⟩ :: _) _ _); refine wpList_load_mid rfl _ _ rfl w.heap.size 0 rfl (rvL s.size vk vw vh s.fuse s.calls s.down) _ (Blk.rangeAt0 (BlkT.blk hA2)) Try.underlying108 rfl (by kernel_rfl) ?_)
          | ((with_reducible show wpList _ _ _ (⟨none, .store 108 (.tmp 6) _, _, _, _, _⟩ :: _) _ _); refine wpList_storeT rfl _ _ _ rfl rfl (ys := (rvL s.size vk vw vh s.fuse s.calls s.down)) rfl hb2 (by simp [rv0, rvL]) (rvL_one hko hwo hho) (by kernel_rfl) ?_; intro w3 hb3 hg3))
        obtain ⟨z0, z1, z2, z3, z4, z5, z6, _⟩ := sevenT hb3
        have b3 : Below w.heap.size w w3 := below_row (bt bw1 bw2) hg3 (Nat.le_of_lt hl1) (bt bw1 bw2).size
        refine bodyPost_ret (v := .tuple #[.agg (rvL s.size vk vw vh s.fuse s.calls s.down).toArray, .int .i64 4]) (by simp [results, Try.results119, go_sem, z0, z1, z2, z3, z4, z5, z6, rvL]) rfl ?_
        exact ⟨rfl, b3⟩
      refine key.mono ?_
      rintro e w' ⟨rfl, hB⟩
      obtain ⟨h1, h2⟩ := Hst.out w' hB
      exact ⟨_, by rw [h2], h1, hB⟩
    · have hb6 : b.length = 512 := by omega
      have Hp := Lib.hid (show put s p b = ({ s with all := s.all ++ [(p.toNat, b)] }, 0) from by unfold put; rw [if_neg hp, if_neg hb5])
      obtain ⟨q, rfl⟩ : ∃ q : Nat, p = (q : Int) := ⟨p.toNat, by omega⟩
      rw [Int.toNat_natCast] at Hp
      rw [hb6] at hB1 ⊢
      have Hkp := Lib.hid (fun (W : World) (bW : Below w.heap.size w W) (a : Nat) (ha : w.heap.size ≤ a) (ha2 : a < W.heap.size) => rkeep_any W (a :: fp) (q, b) s.all vk vw vh s.size s.calls s.fuse s.down B cB (fun j hj => (List.mem_cons.1 hj).elim (fun e => e ▸ ha2) (fun e => Nat.lt_of_lt_of_le (hfp j e) bW.size)) ((hk.cons ha).on bW) ((hh.cons ha).on bW) hwo ((rdN_cons hB3 ha).on bW) hb6 (by rw [hb6]; exact hB1) hB2 hal)
      have Hw := Lib.hid (fun W (bW : Below w.heap.size w W) => hw.on bW)
      clear stay hk hw hh hp
      unfold rvL
      go_enter Try.func119, Try.ntmps119
      go_wp2_with (first
          | ((with_reducible show wpList _ _ _ (⟨some 3, _, _, _, _, _⟩ :: _) _ _); refine wpList_boxT rfl _ _ rfl (rvL s.size vk vw vh s.fuse s.calls s.down) rfl ?_; intro w1 hb1 bw1 hl1; obtain ⟨c0, c1, c2, c3, c4, c5, c6, fr⟩ := sevenT hb1)
          | ((with_reducible show wpList _ _ _ (⟨some 6, _, _, _, _, _⟩ :: _) _ _); refine wpList_allocT rfl _ rfl rv0 zeroRV ?_; intro w2 hb2 bw2; have hA2 := (show BlkT w2 w.heap.size _ _ from (bw2.block _ hl1).trans hb1); obtain ⟨c0, c1, c2, c3, c4, c5, c6, fr⟩ := sevenT hA2)
          | ((with_reducible show wpList _ _ _ (⟨some 16, _, _, _, _, _⟩ :: _) _ _); refine wpList_load_mid rfl _ _ rfl w.heap.size 0 rfl (rvL s.size vk vw vh s.fuse s.calls s.down) _ (Blk.rangeAt0 (BlkT.blk hA2)) Try.underlying108 rfl (by kernel_rfl) ?_)
          | ((with_reducible show wpList _ _ _ (⟨some 20, _, _, _, _, _⟩ :: _) _ _); refine wpList_load_mid rfl _ _ rfl w.heap.size 0 rfl (rvL s.size vk vw vh s.fuse s.calls s.down) _ (Blk.rangeAt0 (BlkT.blk hA2)) Try.underlying108 rfl (by kernel_rfl) ?_)
          | ((with_reducible show wpList _ _ _ (⟨some 21, _, _, _, _, _⟩ :: _) _ _); refine wpList_load_mid rfl _ _ rfl w.heap.size 0 rfl (rvL s.size vk vw vh s.fuse s.calls s.down) _ (Blk.rangeAt0 (BlkT.blk hA2)) Try.underlying108 rfl (by kernel_rfl) ?_)
          | ((refine (Hkp.out _ (bt bw1 bw2) w1.heap.size (Nat.le_of_lt hl1) (lt_of_block hb2)).mono ?_); rintro e w4 ⟨vk', vh', rfl, hk4, hh4, b4⟩; have hko' := hk4.one; have hho' := hh4.one; have hb4 := (show BlkT w4 w1.heap.size _ _ from (b4.block _ (lt_of_block hb2)).trans hb2))
          | ((with_reducible show wpList _ _ _ (⟨none, .store 108 (.tmp 6) _, _, _, _, _⟩ :: _) _ _); refine wpList_storeT rfl _ _ _ rfl rfl (ys := (rvL s.size vk' vw vh' s.fuse s.calls s.down)) rfl hb4 (by simp [rv0, rvL]) (rvL_one hko' hwo hho') (by kernel_rfl) ?_; intro w3 hb3 hg3))
      obtain ⟨z0, z1, z2, z3, z4, z5, z6, _⟩ := sevenT hb3
      have b24 : Below w.heap.size w w4 := bt (bt bw1 bw2) b4
      have b3 : Below w.heap.size w w3 := below_row b24 hg3 (Nat.le_of_lt hl1) b24.size
      refine bodyPost_ret (v := .tuple #[.agg (rvL s.size vk' vw vh' s.fuse s.calls s.down).toArray, .int .i64 0]) (by simp [results, Try.results119, go_sem, z0, z1, z2, z3, z4, z5, z6, rvL]) rfl ?_
      have k3 : Keep (w1.heap.size :: fp) w4 w3 := Keep.of_grown hg3 (fun g e => by cases e; simp)
      have h1 := (hk4.keep k3 (Fresh.refl _ _)).less (fp := fp) (by intro j hj; simp [hj])
      have h2 := (hh4.keep k3 (Fresh.refl _ _)).less (fp := fp) (by intro j hj; simp [hj])
      rw [Hp.out]
      exact ⟨_, rfl, ⟨vk', vw, vh', rfl, h1, Hw.out _ b3, h2⟩, b3⟩
end Go.Proofs.Ytdkcdojcglmlbaa.Disk
