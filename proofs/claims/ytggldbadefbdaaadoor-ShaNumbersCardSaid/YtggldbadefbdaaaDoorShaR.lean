/- The walks of the reference's sums: padding, words, a block, a sum. -/
import Derived.Test.YtggldbadefbdaaaDoorShaS
namespace Go.Proofs.YtggldbadefbdaaaDoor.Sha
open Go.RowKit
set_option linter.unusedVariables false
set_option maxRecDepth 100000
theorem c32_shr3 (x : UInt32) : c32 x / (8 : Int) = c32 (x >>> 3) := c32_shr x 3 (by omega)
theorem c32_shr10 (x : UInt32) : c32 x / (1024 : Int) = c32 (x >>> 10) := c32_shr x 10 (by omega)
attribute [local go_sem] c32_xor c32_and c32_or c32_add c32_add' c32_shr3 c32_shr10
def lenS : Value → Nat
  | .slice _ n _ => n
  | _ => 0

set_option maxHeartbeats 400000 in
theorem rpad_any (n : Nat) (m : Int) (hm : m = (n : Int)) (h : n ≤ 1099511627776) (w : World) : Calls Tryd.prog 16 #[.int .i64 m] w fun e w' => RetB 5 w (padB n) e w' := by
  subst hm
  obtain ⟨i0, hi0, hz0, hz1, hz2⟩ := info_parts Num.info8
  have h0 : ((n : Int) < 0) = False := by simp
  obtain ⟨z, hz⟩ : ∃ z, z = (119 - n % 64) % 64 := ⟨_, rfl⟩
  have hz64 : z < 64 := by omega
  have Hz := Lib.hid hz
  clear hz
  go_enter Tryd.func16, Tryd.ntmps16
  go_wp2
  go_loopw [3] (fun v wr => ∃ k A c : Nat, k ≤ z ∧ v = .slice (some ⟨A, 0, none⟩) (1 + k) c ∧ wr.ownsRow w.heap.size 5 1 v (1 + k) (e8 128 :: List.replicate k (e8 0)) ∧ Below w.heap.size w wr) (fun v _ => 100 - lenS v)
  case atStart => exact ⟨0, w.heap.size, 1, by omega, rfl, own_lit w _ _ _ 1 (Nat.le_refl _) rfl (by unfold maxLen; omega), b1alloc _ _⟩
  case round =>
    obtain ⟨k, A, c, hk, rfl, hown, bel⟩ := hrel
    have hz := Hz.out
    by_cases hlt : k < z
    · have hne : (((n : Int) + (1 + (k : Int))) % 64 != 56) = true := bne_yes (by omega)
      clear hz
      go_wp2_with (at_builtin; refine wpList_append_rd _ rfl _ _ _ rfl w.heap.size 5 i0 _ 1 1 Tryd.underlying24 hi0 hz0 hz1 hz2 rfl (by omega) _ (1 + k) _ rfl (hown.alloc _) _ _ 1 1 [.int .u8 0] rfl rfl (Rd.lit wr _ _ _ (wr.heap.size + 1) rfl (by omega)) (one_int _ _) (by simp only [maxLen]; omega) (by omega) (le_alloc bel.size _) ?_; intro v1 w1 hown1 hg1 hat1; obtain ⟨A1, c1, rfl⟩ := own_form hown1; obtain ⟨g1, hg1'⟩ : ∃ g, A1 = some ⟨g, 0, none⟩ := (by rcases hown1.2 with ⟨hv, _⟩ | ⟨g, cap, cur, hv, _⟩; (cases hv); (injection hv with hA _ _; exact ⟨g, hA⟩)))
      subst hg1'
      go_roundw
      case rel => exact ⟨k + 1, g1, c1, by omega, rfl, by rw [List.replicate_succ']; exact hown1, (bel.alloc bel.size _).grown hg1 (le_alloc bel.size _) (fun g hg => own_block hown hg)⟩
      case measure => simp [lenS]; omega
    · obtain rfl : k = z := by omega
      have hne : (((n : Int) + (1 + (k : Int))) % 64 != 56) = false := bne_no (by omega)
      clear hz
      have hu : ((UInt64.ofNat (8 * n)).toNat : Int) = (n : Int) * 8 := by rw [UInt64.toNat_ofNat']; omega
      have hu' : (UInt64.ofNat (8 * n)).toNat = 8 * n := by rw [UInt64.toNat_ofNat']; omega
      have hpt := Num.rput_any (UInt64.ofNat (8 * n)) _ hu.symm 8 _ rfl (by omega) (by omega) wr
      rw [hu'] at hpt
      clear hu hu'
      go_wp2_with fail
      refine hpt.mono ?_
      rintro e w3 ⟨A3, c3, rfl, hown3, bw3⟩
      have hl3 := Num.putL_len (8 * n) 8
      rw [hl3] at hown3
      have Hl3 := Lib.hid hl3
      clear hl3 hpt
      have hset3 := own_on hown bw3
      have bw4 := bt bel bw3
      go_wp2_with (at_builtin; refine wpList_append_rd _ rfl _ _ _ rfl w.heap.size 5 i0 _ 1 1 Tryd.underlying24 hi0 hz0 hz1 hz2 rfl (by omega) _ (1 + k) _ rfl hset3 _ A3 8 c3 ((Num.putL (8 * n) 8).map e8) rfl (by simp [Hl3.out]) (Rd.own hown3) (e8_one _) (by simp only [maxLen]; omega) (by omega) bw4.size ?_; intro v5 w5 hown5 hg5 hat5)
      go_ret
      have hlist : (e8 128 :: List.replicate k (e8 0)) ++ (Num.putL (8 * n) 8).map e8 = (padB n).map e8 := by
        rw [padB, ← Hz.out]; simp
      rw [hlist] at hown5
      exact RetB.mk hown5 rfl (bw4.grown hg5 bw4.size (fun k hk => own_block hset3 hk))
set_option maxHeartbeats 400000 in
theorem rwords_not (A : Option Addr) (n c : Nat) (w : World) (hn : n ≠ 64) (hm : n ≤ maxLen) :
    Calls Tryd.prog 18 #[.slice A n c] w fun e w' => e = .returned (arrV W64) ∧ Below w.heap.size w w' := by
  have hne : ((n : Int) != 64) = true := bne_yes (by omega)
  have Hz := Lib.hid zero28
  unfold maxLen at hm
  go_enter Tryd.func18, Tryd.ntmps18
  go_wp2_with (first
    | (refine wpList_allocN (o := ⟨some 2, _, _, _, _, _⟩) rfl _ rfl W64 zero28 ?_; intro w1 hb1 bw1 hs1)
    | (refine wpList_allocN rfl _ rfl W64 zero28 ?_; intro w2 hb2 bw2 hs2; have hb12 := hb1.on bw2; have bt2 := bt bw1 bw2)
    | (refine wpList_loadA rfl _ _ rfl rfl hb2 Tryd.underlying28 size28 ?_)
    | (refine wpList_storeN rfl _ _ _ rfl rfl (ys := W64) rfl hb12 rfl (vw_one _) size28 ?_; intro w3 hb3 hg3))
  exact bodyPost_ret (v := arrV W64) (results_arr Tryd.results18 _ hb3 Tryd.underlying28 size28 rfl) rfl ⟨rfl, below_row bt2 hg3 (Nat.le_refl _) bt2.size⟩
set_option maxHeartbeats 800000 in
theorem rwords_yes (b off : Nat) (l : List UInt8) (c : Nat) (w : World) (hn : l.length = 64) (hc : 64 ≤ c) (hcm : c ≤ maxLen) (hr : Rd w w.heap.size (some ⟨b, off, none⟩) (l.map e8)) :
    Calls Tryd.prog 18 #[.slice (some ⟨b, off, none⟩) 64 c] w fun e w' => e = .returned (arrV (vw (wl l 64))) ∧ Below w.heap.size w w' := by
  have hz : ∀ w, (zeroValue 28).run Tryd.prog w = .ok (arrV (vw (wpart l 0))) w := fun w => by rw [wpart_zero]; exact zero28 w
  have Hz := Lib.hid hz
  have Hn := Lib.hid hn
  clear hz hn
  unfold maxLen at hcm
  have hc' : (64 : Int) ≤ (c : Int) := by omega
  go_enter Tryd.func18, Tryd.ntmps18
  go_wp2_with (first
    | (refine wpList_allocN (o := ⟨some 2, _, _, _, _, _⟩) rfl _ rfl W64 zero28 ?_; intro w1 hb1 bw1 hs1)
    | (refine wpList_allocN rfl _ rfl (vw (wpart l 0)) Hz.out ?_; intro w2 hb2 bw2 hs2; have hb12 := hb1.on bw2; have bt2 := bt bw1 bw2))
  obtain ⟨B1, hB1⟩ : ∃ B, B = w1.heap.size := ⟨_, rfl⟩
  rw [← hB1] at hb2 ⊢
  have l01 : w.heap.size < B1 := by omega
  clear hB1 hb1 bw1 bw2 hs1 hs2
  go_loopw [4] (fun i wr => ∃ k : Nat, k ≤ 16 ∧ i = .int .i64 k ∧ Blk wr B1 (vw (wpart l k)) ∧ Blk wr w.heap.size W64 ∧ Below w.heap.size w wr) (fun i _ => 16 - (intOf i).toNat)
  case atStart => exact ⟨0, by omega, rfl, hb2, hb12, bt2⟩
  case round =>
    obtain ⟨k, hk, rfl, hb, h0, bw⟩ := hrel
    by_cases hlt : k < 16
    · have hn := Hn.out
      have h4 : ((l.drop (4 * k)).take 4).length = 4 := by rw [List.length_take, List.length_drop]; omega
      have hr4 : Rd wr wr.heap.size (some ⟨b, off + 4 * k, none⟩) (((l.drop (4 * k)).take 4).map e8) := by
        rw [List.map_take, List.map_drop]
        have := (hr.on bw).drop (4 * k)
        simp only [Option.map_some, Addr.add_lit] at this
        exact this.take 4
      have Hw := Lib.hid (wpart_set l k (by omega))
      have Hx := Lib.hid (wnext_lo l k hlt)
      have hcell := Blk.word hb (k := k) (by have := wpart_len l k (by omega); omega)
      have hfr := hb.free k
      clear hn
      go_wp2_with fail
      refine (Num.rget_any _ ((l.drop (4 * k)).take 4) _ _ _ _ (by omega) hr4 (by omega) (by omega)).mono ?_
      rintro e w2 ⟨rfl, rfl⟩
      clear hr4 h4
      have hq : IntKind.u32.wrap (Num.getN ((l.drop (4 * k)).take 4) : Int) = c32 (be32 l k) := by
        unfold c32 be32; rw [IntKind.wrap_u32, UInt32.toNat_ofNat']; omega
      obtain ⟨q, hq2⟩ : ∃ q, q = Num.getN ((l.drop (4 * k)).take 4) := ⟨_, rfl⟩
      rw [← hq2] at hq ⊢
      obtain ⟨x, hx⟩ : ∃ x, x = be32 l k := ⟨_, rfl⟩
      rw [← hx] at hq
      have Hs := Lib.hid (show (wpart l k).set k x = wpart l (k + 1) by rw [hx, ← Hx.out, Hw.out])
      clear hq2 hx
      go_wp2
      go_roundw
      case rel => exact ⟨k + 1, by omega, by go_num, by have := hb.set (k := k) (e32 x); rw [vw_set, Hs.out] at this; exact this, h0.other _ (by omega), bw.setCell (Nat.le_of_lt l01) _⟩
      case measure => simp [intOf]; omega
    · obtain rfl : k = 16 := by omega
      clear hb2 hb12 bt2
      go_wp2
      go_loopw [7] (fun i wx => ∃ k : Nat, 16 ≤ k ∧ k ≤ 64 ∧ i = .int .i64 k ∧ Blk wx B1 (vw (wpart l k)) ∧ Blk wx w.heap.size W64 ∧ Below w.heap.size w wx) (fun i _ => 64 - (intOf i).toNat)
      case atStart => exact ⟨16, by omega, by omega, rfl, hb, h0, bw⟩
      case round =>
        obtain ⟨k, h16, hk, rfl, hb, h0, bw⟩ := hrel
        by_cases hlt : k < 64
        · have hl := wpart_len l k (by omega)
          have g2 := Blk.word hb (k := k - 2) (by omega)
          have g7 := Blk.word hb (k := k - 7) (by omega)
          have g15 := Blk.word hb (k := k - 15) (by omega)
          have g16 := Blk.word hb (k := k - 16) (by omega)
          have hcell := Blk.word hb (k := k) (by omega)
          have hB := hb.lt
          have hfr := hb.free k
          have Hs := Lib.hid (show (wpart l k).set k (high ((wpart l k).getD (k - 2) 0) + (wpart l k).getD (k - 7) 0 + low ((wpart l k).getD (k - 15) 0) + (wpart l k).getD (k - 16) 0) = wpart l (k + 1) by rw [← wnext_hi l k (by omega)]; exact wpart_set l k hlt)
          obtain ⟨x2, h2⟩ : ∃ x, x = (wpart l k).getD (k - 2) 0 := ⟨_, rfl⟩
          obtain ⟨x7, h7⟩ : ∃ x, x = (wpart l k).getD (k - 7) 0 := ⟨_, rfl⟩
          obtain ⟨x15, h15⟩ : ∃ x, x = (wpart l k).getD (k - 15) 0 := ⟨_, rfl⟩
          obtain ⟨x16, h16'⟩ : ∃ x, x = (wpart l k).getD (k - 16) 0 := ⟨_, rfl⟩
          rw [← h2, ← h7, ← h15, ← h16'] at Hs
          rw [← h2] at g2
          rw [← h7] at g7
          rw [← h15] at g15
          rw [← h16'] at g16
          clear h2 h7 h15 h16' hl
          have b2 : (2 : Int) ≤ (k : Int) := by omega
          have c2 : (k : Int) - 2 < 64 := by omega
          have d2 : 0 ≤ (k : Int) - 2 := by omega
          have q2 : IntKind.i64.wrap ((k : Int) - 2) = (k : Int) - 2 := wrap_small (by omega) (by omega)
          have t2 : ((k : Int) - 2).toNat = k - 2 := by omega
          have b7 : (7 : Int) ≤ (k : Int) := by omega
          have c7 : (k : Int) - 7 < 64 := by omega
          have d7 : 0 ≤ (k : Int) - 7 := by omega
          have q7 : IntKind.i64.wrap ((k : Int) - 7) = (k : Int) - 7 := wrap_small (by omega) (by omega)
          have t7 : ((k : Int) - 7).toNat = k - 7 := by omega
          have b15 : (15 : Int) ≤ (k : Int) := by omega
          have c15 : (k : Int) - 15 < 64 := by omega
          have d15 : 0 ≤ (k : Int) - 15 := by omega
          have q15 : IntKind.i64.wrap ((k : Int) - 15) = (k : Int) - 15 := wrap_small (by omega) (by omega)
          have t15 : ((k : Int) - 15).toNat = k - 15 := by omega
          have b16 : (16 : Int) ≤ (k : Int) := by omega
          have c16 : (k : Int) - 16 < 64 := by omega
          have d16 : 0 ≤ (k : Int) - 16 := by omega
          have q16 : IntKind.i64.wrap ((k : Int) - 16) = (k : Int) - 16 := wrap_small (by omega) (by omega)
          have t16 : ((k : Int) - 16).toNat = k - 16 := by omega
          go_wp2
          refine region_inb (by kernel_rfl) (by kernel_rfl) ?_
          have inbNe := InB.some
          have inbW := @wrap_small
          have inbU := IntKind.wrap_u8'
          repeat (refine wpQuiet_step (fun K hK => ?_); go_simp; first | (refine hK _ ?_; clear hK K) | (apply Exists.intro; refine ⟨?_, hK _ ?_⟩; (· (intro w' hw'; first | fail | (have hcw := hw'.cell; go_simp; exact rfl))); clear hK K))
          refine wpQuiet_nil ?_
          intro wq hq
          clear inbNe inbW inbU
          have m0 := hb.on hq.below
          have m1 := h0.on hq.below
          have bm := bw.trans (hq.below.mono bw.size)
          have hcw := fun j => hq.cell B1 j hB
          have n7 := (hcw _).trans g7
          have n16 := (hcw _).trans g16
          have hcn := (hcw _).trans hcell
          have hB' := m0.lt
          clear hq hcw g2 g7 g15 g16 hcell hfr hb h0
          go_wp2
          refine region_inb_tail 29 (by kernel_rfl) (by kernel_rfl) ?_
          simp only [List.take_succ_cons, List.take_zero, List.drop_succ_cons, List.drop_zero]
          have inbNe := InB.some
          have inbW := @wrap_small
          have inbU := IntKind.wrap_u8'
          repeat (refine wpQuiet_step (fun K hK => ?_); go_simp; first | (refine hK _ ?_; clear hK K) | (apply Exists.intro; refine ⟨?_, hK _ ?_⟩; (· (intro w' hw'; first | (go_at_call 55; refine (rright_any _ _ (by decide) _).mono ?_; rintro e w1 ⟨rfl, b1⟩; exact ⟨rfl, hw'.on b1⟩) | (have hcw := hw'.cell; go_simp; exact rfl))); clear hK K))
          refine wpQuiet_nil ?_
          intro wq hq
          clear inbNe inbW inbU
          have p0 := m0.on hq.below
          have p1 := m1.on hq.below
          have hcq := (hq.cell _ _ hB').trans hcn
          have hfq := p0.free k
          have bq := bm.trans (hq.below.mono bm.size)
          clear hq hcn n7 n16 m0 m1
          go_wp2
          go_roundw
          case rel =>
            have hset := p0.set (k := k) (e32 (high x2 + x7 + low x15 + x16))
            rw [vw_set, Hs.out] at hset
            repeat apply Exists.intro
            exact ⟨⟨k + 1, by omega, by omega, by go_num, hset, p1.other _ (by omega), bq.setCell (Nat.le_of_lt l01) _⟩, rfl⟩
          case measure => simp [intOf]; omega
        · obtain rfl : k = 64 := by omega
          rw [wpart_all] at hb
          have hl := wl_len l 64
          have h64 : W64.length = (vw (wl l 64)).length := by rw [vw_len, hl]; rfl
          go_wp2_with (first
            | (refine wpList_loadA rfl _ _ rfl rfl hb Tryd.underlying28 (by rw [vw_len, hl]; exact size28) ?_)
            | (refine wpList_storeN rfl _ _ _ rfl rfl (ys := vw (wl l 64)) rfl h0 h64 (vw_one _) (by rw [vw_len, hl]; exact size28) ?_; intro w2 hb2 hg2))
          exact bodyPost_ret (v := arrV (vw (wl l 64))) (results_arr Tryd.results18 _ hb2 Tryd.underlying28 (by rw [vw_len, hl]; exact size28) rfl) rfl ⟨rfl, below_row bw hg2 (Nat.le_refl _) bw.size⟩
theorem rwords_any (A : Option Addr) (l : List UInt8) (n c : Nat) (w : World) (hn : n = l.length) (hc : n ≤ c) (hcm : c ≤ maxLen) (hr : Rd w w.heap.size A (l.map e8)) :
    Calls Tryd.prog 18 #[.slice A n c] w fun e w' => e = .returned (arrV (vw (words l))) ∧ Below w.heap.size w w' := by
  subst hn
  by_cases h : l.length = 64
  · obtain ⟨b, off, rfl, _, _⟩ := hr (by intro e; have := congrArg List.length e; simp at this; subst this; simp at h)
    rw [words, if_pos h, h]
    exact rwords_yes b off l c w h (by omega) hcm hr
  · rw [words_no h]
    exact rwords_not A _ c w h (by omega)
end Go.Proofs.YtggldbadefbdaaaDoor.Sha
