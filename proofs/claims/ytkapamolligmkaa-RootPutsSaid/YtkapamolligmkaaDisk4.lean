/- The walk of disk.Write, and of disk.Put. -/
import Derived.Test.YtkapamolligmkaaDisk3
import Derived.Outline
namespace Go.Proofs.Ytkapamolligmkaa.Disk
open Go.RowKit
set_option linter.unusedVariables false
set_option maxRecDepth 100000

theorem heap6 {w : World} {g : Nat} {fp : List Nat} {s : St} {vk vp va : Value} {acs : List Value} (h : Lies w g fp s vk vp va acs) : w.cell? ⟨g, 1, none⟩ = some vp ∧ w.frozen? ⟨g, 1, none⟩ = false ∧ g < w.heap.size := by
  obtain ⟨_, c1, _, _, _, _, fr⟩ := six h.blk
  exact ⟨c1, fr 1, lt_of_block h.blk⟩
set_option maxHeartbeats 1000000 in
theorem write_any (g : Nat) (fp : List Nat) (s : St) (p : Int) (A : Option Addr) (n c : Nat) (b : List UInt8) (w : World) (h : DAt w g fp s) (hs : s.sz ≤ 999999999) (hn : n = b.length) (hr : RdN w fp A (b.map e8)) :
    Calls Try.prog 44 #[.pointer (some ⟨g, 0, none⟩), .int .i64 p, .slice A n c] w (Did w g fp (write s p b)) := by
  subst hn
  have hdn := Lib.hid (down_any g fp s w h)
  have has := Lib.hid (asked_any g fp s p w h)
  cases hd : s.down with
  | true =>
    have hw : write s p b = (s, 12) := by unfold write; rw [if_pos hd]
    rw [hw]
    rw [hd] at hdn
    clear hw hd
    go_enter Try.func44, Try.ntmps44
    go_wp2_with fail
    refine hdn.out.mono ?_
    rintro e w1 ⟨rfl, rfl⟩
    go_wp2
    go_ret
    exact Did.same h rfl
  | false =>
    rw [hd] at hdn
    by_cases hp : p < 0 ∨ (s.size : Int) ≤ p
    · have hw : write s p b = (s, 2) := by unfold write; rw [if_neg (by simp [hd]), if_pos hp]
      have hf : askF s p = 2 := if_pos hp
      rw [hf] at has
      rw [hw]
      clear hw hd hp hf
      go_enter Try.func44, Try.ntmps44
      go_wp2_with fail
      refine hdn.out.mono ?_
      rintro e w1 ⟨rfl, rfl⟩
      go_wp2_with fail
      refine has.out.mono ?_
      rintro e w1 ⟨rfl, rfl⟩
      go_wp2
      go_ret
      exact Did.same h rfl
    · have hf : askF s p = 0 := if_neg hp
      rw [hf] at has
      by_cases hl : b.length = 512
      · have hw : write s p b = burn { s with pend := s.pend ++ [(p.toNat, b)] } := by unfold write; rw [if_neg (by simp [hd]), if_neg hp, if_neg (by omega)]
        rw [hw]
        obtain ⟨q, rfl⟩ : ∃ q : Nat, p = (q : Int) := ⟨p.toNat, by omega⟩
        rw [Int.toNat_natCast]
        have hx : okW s.size (q, b) := ⟨by show q < s.size; omega, hl⟩
        obtain ⟨vk, vp, va, acs, hL⟩ := h
        obtain ⟨c1, f1, hgl⟩ := heap6 hL
        obtain ⟨b0, off, rfl, hb0, hbn, hbc⟩ := hr (by intro e; have := congrArg List.length e; simp [hl] at this)
        have hrg : w.rangeAt b0 off (b.map e8) := fun j v hv => by
          obtain ⟨hj, rfl⟩ := List.getElem?_eq_some_iff.1 hv
          exact hbc j hj
        obtain ⟨i0, hi0, hz0, hz1, hz2⟩ := info_parts infoW
        obtain ⟨W1, hW1⟩ : ∃ W1, W1 = w.drew.alloc (.cells (wcells (q, b)).toArray 89) := ⟨_, rfl⟩
        have hrd1 : Rd W1 W1.heap.size (some ⟨w.heap.size, 0, none⟩) (wcells (q, b)) := by rw [hW1]; exact Rd.lit _ _ _ _ _ rfl (by simp)
        have hown1 : W1.ownsRow 0 89 513 vp s.pend.length (pcells s.pend) := by rw [hW1]; exact (show w.drew.ownsRow 0 89 513 vp s.pend.length (pcells s.pend) from hL.pend).alloc _
        obtain ⟨v3, w3, hrun, own3, hg3, hat3⟩ := run_append_rd (P := Try.prog) W1 0 60 60 89 i0 _ 513 520 Try.underlying60 hi0 hz0 hz1 hz2 rfl (by omega) vp s.pend.length _ hown1 W1.heap.size (some ⟨w.heap.size, 0, none⟩) 1 1 (wcells (q, b)) (by rw [wcells_len hl]) hrd1 (wcells_one _) (by simp only [maxLen]; unfold St.sz at hs; omega) (by unfold St.sz at hs; omega) (Nat.zero_le _)
        obtain ⟨g3, c3, rfl, _⟩ := own_some own3 (by omega)
        have hg3' : w.grownBy w3 vp.ownBlock := grown_trans (show w.grownBy W1 vp.ownBlock by rw [hW1]; exact grown_alloc_drew w _ _) hg3
        have hat3' := hat3.imp id (fun e => e.trans (show some W1.heap.size = some (w.heap.size + 1) by rw [hW1]; show some (w.alloc _).heap.size = _; simp))
        have hgP := own_type hL.pend hL.blk (by decide)
        have hc3 : w3.cell? ⟨g, 1, none⟩ = some vp := (World.cell?_of_block (hg3'.block g hgl (fun e => hgP e.symm))).trans c1
        have hf3 : w3.frozen? ⟨g, 1, none⟩ = false := (World.frozen?_of_block (hg3'.block g hgl (fun e => hgP e.symm))).trans f1
        have hc1 : W1.cell? ⟨g, 1, none⟩ = some vp := by rw [hW1]; exact (World.cell?_of_block (Below.heap_alloc w.drew _ g hgl)).trans c1
        have hfin := push_fin hL own3 hg3' hat3' hx
        have hread : ∀ w', Bt [w.drew, W1, w3, w3.setCell ⟨g, 1, none⟩ (.slice (some ⟨g3, 0, none⟩) (s.pend.length + 1) c3)] (0, 1) w' → w'.cell? ⟨g, 1, none⟩ = some vp := by
          rintro w' ⟨k, _, hk, hw'⟩
          have hk1 : k ≤ 1 := hk
          match k, hk1 with
          | 0, _ => injection hw' with hw'; subst hw'; exact c1
          | 1, _ => injection hw' with hw'; subst hw'; exact hc1
        have hrange : ∀ w', Bt [w.drew, W1, w3, w3.setCell ⟨g, 1, none⟩ (.slice (some ⟨g3, 0, none⟩) (s.pend.length + 1) c3)] (0, 0) w' → w'.rangeAt b0 off (b.map e8) := by
          rintro w' ⟨k, _, hk, hw'⟩
          have hk1 : k ≤ 0 := hk
          match k, hk1 with
          | 0, _ => injection hw' with hw'; subst hw'; exact hrg
        have hbuild := fun w => built_wait (q : Int) b hl w
        have harr : ∀ w, (Instr.arrayAt 83 (.slice (some ⟨b0, off, none⟩) b.length c)).run Try.prog w = .ok (.pointer (some ⟨b0, off, none⟩)) w := fun w => by rw [hl]; exact arrayAt_any _ c w
        have hszb := szBl hl
        have hub := Try.underlying83
        have hlI : ((b.length : Int) != 512) = false := by rw [bne_eq_false_iff_eq]; omega
        have Hl := Lib.hid hl
        have HW1 := Lib.hid hW1
        clear hw hd hp hf hl hW1 hrd1 hown1 hbc
        go_enter Try.func44, Try.ntmps44
        go_wp2_with fail
        refine hdn.out.mono ?_
        rintro e w1 ⟨rfl, rfl⟩
        go_wp2_with fail
        refine has.out.mono ?_
        rintro e w1 ⟨rfl, rfl⟩
        go_wp2
        refine region_steps 0 [10, 11, 14] [(4, (0, 1)), (8, (0, 0))] [w.drew, W1, w3, w3.setCell ⟨g, 1, none⟩ (.slice (some ⟨g3, 0, none⟩) (s.pend.length + 1) c3)] (by kernel_rfl) (by kernel_rfl) (by kernel_rfl) (by decide) rfl rfl ?_
        repeat (first
          | ((with_reducible show wpPs _ _ _ _ _ _ _ (⟨some 23, _, _, _, _, _⟩ :: _) _); refine wpPs_read rfl (by rfl) (by rfl) vp ?_ ?_; (· intro w' hw'; have hcw := hread w' hw'; go_simp); go_frame)
          | ((with_reducible show wpPs _ _ _ _ _ _ _ (⟨some 27, _, _, _, _, _⟩ :: _) _); refine wpPs_mid rfl (by rfl) (by rfl) _ _ rfl b0 off rfl (b.map e8) _ hrange hub rfl hszb ?_; go_frame)
          | ((with_reducible show wpPs _ _ _ _ _ _ _ (⟨some 28, _, _, _, _, _⟩ :: _) _); refine wpPs_build rfl (by rfl) (by rfl) _ _ rfl [(0, .int .i64 (q : Int)), (1, .agg (b.map e8).toArray)] rfl (arrV (.int .i64 (q : Int) :: b.map e8)) hbuild ?_; go_frame)
          | ((with_reducible show wpPs _ _ _ _ _ _ _ (⟨some 29, _, _, _, _, _⟩ :: _) _); refine wpPs_lit rfl (by rfl) (by rfl) _ 89 _ rfl w.drew (wcells (q, b)) rfl rfl (by rw [HW1.out]; rfl) i0 _ Try.underlying60 hi0 hz0 (by rw [hz1, wcells_len Hl.out]) (by rw [wcells_len Hl.out]; omega) (by rw [wcells_len Hl.out]; omega) ?_; go_frame)
          | ((with_reducible show wpPs _ _ _ _ _ _ _ (⟨some 30, _, _, _, _, _⟩ :: _) _); refine wpPs_append rfl (by rfl) (by rfl) _ _ _ rfl W1 w3 _ _ _ rfl rfl rfl rfl hrun ?_; go_frame)
          | ((with_reducible show wpPs _ _ _ _ _ _ _ (⟨none, .store _ (.tmp 32) _, _, _, _, _⟩ :: _) _); refine wpPs_turn rfl (by rfl) (by rfl) undef w3 _ rfl rfl ?_ ?_; (· first | (refine .inl ?_; go_simp; done) | (refine .inr ⟨rfl, ?_⟩; go_simp; done)); go_frame)
          | (refine wpPs_read rfl (by rfl) (by rfl) ?_ ?_ ?_; rotate_left; (· intro w' hw'; go_simp; exact rfl); go_frame))
        refine wpPs_nil ?_
        obtain ⟨fp1, hL1, k1, f1'⟩ := hfin
        obtain ⟨w4, hw4⟩ : ∃ w4, w4 = w3.setCell ⟨g, 1, none⟩ (.slice (some ⟨g3, 0, none⟩) (s.pend.length + 1) c3) := ⟨_, rfl⟩
        rw [← hw4] at hL1 k1 ⊢
        clear hw4 hread hrange hrun own3 hg3 hat3 hg3' hat3' hc3 hf3 hc1 HW1
        go_wp2_with fail
        refine (burn_any g fp1 _ _ _ _ _ w4 hL1 (by unfold St.sz at hs ⊢; simp only [List.length_append, List.length_singleton]; omega)).mono ?_
        rintro e w5 ⟨rfl, hL2, k2⟩
        have fin := Lib.hid (show Did w g fp (burn { s with pend := s.pend ++ [(q, b)] }) _ w5 from ⟨rfl, fp1, ⟨_, _, _, _, hL2⟩, k1.trans (k2.more (by simp [hL1.inG])) f1', f1'⟩)
        clear hL1 hL2 k1 k2 f1'
        go_wp2
        go_ret
        exact fin.out
      · have hw : write s p b = (s, 4) := by unfold write; rw [if_neg (by simp [hd]), if_neg hp, if_pos hl]
        rw [hw]
        have hlI : ((b.length : Int) != 512) = true := by rw [bne_iff_ne]; omega
        clear hw hd hp hf
        go_enter Try.func44, Try.ntmps44
        go_wp2_with fail
        refine hdn.out.mono ?_
        rintro e w1 ⟨rfl, rfl⟩
        go_wp2_with fail
        refine has.out.mono ?_
        rintro e w1 ⟨rfl, rfl⟩
        go_wp2
        go_ret
        exact Did.same h rfl
end Go.Proofs.Ytkapamolligmkaa.Disk
