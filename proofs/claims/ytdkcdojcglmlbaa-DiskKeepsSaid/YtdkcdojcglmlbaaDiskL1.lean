/- The walks of the helpers of the layer disk's laws. -/
import Derived.Test.YtdkcdojcglmlbaaDisk10
import Derived.Test.YtdkcdojcglmlbaaRef01
namespace Go.Proofs.Ytdkcdojcglmlbaa.Disk
open Go.RowKit
set_option linter.unusedVariables false
set_option maxRecDepth 100000
theorem info8 : (Try.prog.info? 5).map (fun i => (i.zero, i.size, i.bytes)) = some (some (.int .u8 0), 1, 1) := by kernel_rfl
theorem rep_set (n k : Nat) (x : UInt8) (h : k < n) : ((List.replicate k x ++ List.replicate (n - k) 0).map e8).set k (e8 x) = (List.replicate (k + 1) x ++ List.replicate (n - (k + 1)) 0).map e8 := by
  rw [← List.map_set, List.set_append_right _ _ (by simp), List.length_replicate, Nat.sub_self, show n - k = (n - (k + 1)) + 1 by omega, List.replicate_succ, List.set_cons_zero, List.replicate_succ', List.append_assoc, List.singleton_append]
set_option maxHeartbeats 800000 in
theorem full_any (n : Nat) (z : Int) (hz : z = (n : Int)) (x : UInt8) (m : Int) (hm : m = (x.toNat : Int)) (w : World) (hn : n ≤ 1000000) :
    Calls Try.prog 33 #[.int .i64 z, .int .u8 m] w (RetB 5 w (List.replicate n x)) := by
  subst hz hm
  obtain ⟨i0, hi0, hz0, hz1, hz2⟩ := info_parts info8
  go_enter Try.func33, Try.ntmps33
  go_wp2_with ((with_reducible show wpList _ _ _ (⟨some 8, _, _, _, _, _⟩ :: _) _ _); refine wpList_make_full _ rfl _ _ _ rfl w.heap.size 5 i0 _ 1 Try.underlying26 hi0 hz0 hz1 _ _ _ _ n rfl rfl rfl rfl (by rw [hz2]; omega) (by simp only [maxLen]; omega) (Nat.le_refl _) ?_; intro w1 own1 hg1)
  have b1 : Below w.heap.size w w1 := (Below.refl _ _).grown hg1 (Nat.le_refl _) (by simp)
  rw [made_int] at own1
  go_loopw [6] (fun i wr => ∃ k : Nat, k ≤ n ∧ i = .int .i64 k ∧ wr.ownsRow w.heap.size 5 1 (.slice (some ⟨w.heap.size, 0, none⟩) n n) n ((List.replicate k x ++ List.replicate (n - k) 0).map e8) ∧ Below w.heap.size w wr) (fun i _ => n - (intOf i).toNat)
  case atStart => exact ⟨0, by omega, rfl, (by rw [List.replicate_zero, List.nil_append, Nat.sub_zero, List.map_replicate]; exact own1), b1⟩
  case round =>
    obtain ⟨k, hk, rfl, own, bel⟩ := hrel
    by_cases hlt : k < n
    · have hc := World.ownsRow.cellAt own k (by omega)
      rw [List.getElem?_eq_getElem (by simp; omega)] at hc
      have hf := World.ownsRow.frozenAt own k
      have hst := own.stored k (e8 x)
      rw [rep_set n k x hlt] at hst
      have Hst := Lib.hid hst
      have hbs := Lib.hid (bel.grown hst.2 bel.size (fun q hq => by injection hq with hq; omega))
      clear hst
      go_wp2
      go_roundw
      case rel => exact ⟨k + 1, by omega, by go_num, Hst.out.1, hbs.out⟩
      case measure => simp [intOf]; omega
    · obtain rfl : k = n := by omega
      rw [Nat.sub_self, List.replicate_zero, List.append_nil] at own
      go_wp2
      go_ret
      exact RetB.mk own rfl bel
def seven : List UInt8 := 7 :: List.replicate 511 0
theorem seven_len : seven.length = 512 := by simp [seven]
theorem alive_state : (write (new 2) 1 seven).2 = 0 ∧ (flush (write (new 2) 1 seven).1).2 = 0 ∧ keptAt (restart (flush (write (new 2) 1 seven).1).1 [] (-1) 0) 1 = seven := by
  have hw : write (new 2) 1 seven = ({ size := 2, pend := [(1, seven)], all := [], fuse := -1, calls := 1, down := false }, 0) := by
    unfold write; simp [new, seven_len, burn]
  rw [hw]
  have hf : flush { size := 2, pend := [(1, seven)], all := [], fuse := -1, calls := 1, down := false } = ({ size := 2, pend := [], all := [(1, seven)], fuse := -1, calls := 2, down := false }, 0) := by
    unfold flush; simp [burn]
  rw [hf]
  refine ⟨rfl, rfl, ?_⟩
  simp [restart, fates, keptAt, kept]
set_option maxHeartbeats 1000000 in
theorem alive_any (w : World) : Calls Try.prog 30 #[] w fun e w' => e = .returned (.bool true) ∧ Below w.heap.size w w' := by
  obtain ⟨h1, h2, h3⟩ := alive_state
  have hs1 := sz_write (new 2) 1 seven
  have hs2 := sz_flush (write (new 2) 1 seven).1
  have hs0 : (new 2).sz = 0 := rfl
  obtain ⟨s1, e1⟩ : ∃ s1, s1 = write (new 2) 1 seven := ⟨_, rfl⟩
  rw [← e1] at h1 h2 h3 hs1 hs2
  obtain ⟨s2, e2⟩ : ∃ s2, s2 = flush s1.1 := ⟨_, rfl⟩
  rw [← e2] at h2 h3 hs2
  have E1 := Lib.hid e1
  have E2 := Lib.hid e2
  have H1 := Lib.hid h1
  have H2 := Lib.hid h2
  have H3 := Lib.hid h3
  clear e1 e2 h1 h2 h3
  obtain ⟨i0, hi0, hz0, hz1, hz2⟩ := info_parts info8
  go_enter Try.func30, Try.ntmps30
  go_wp2_with fail
  refine (new_any 2 w (by omega) (by omega)).mono ?_
  rintro e w1 ⟨hn, b1⟩
  rw [if_neg (by omega)] at hn
  obtain ⟨g, fp, rfl, hD, hfp⟩ := hn
  go_wp2_with ((with_reducible show wpList _ _ _ (⟨some 11, _, _, _, _, _⟩ :: _) _ _); refine wpList_make_full _ rfl _ _ _ rfl w1.heap.size 5 i0 _ 1 Try.underlying26 hi0 hz0 hz1 _ _ _ _ 512 rfl rfl rfl rfl (by rw [hz2]; omega) (by simp only [maxLen]; omega) (Nat.le_refl _) ?_; intro w2 own2 hg2; have hc2 : w2.cell? ⟨w1.heap.size, 0, none⟩ = some (.int .u8 0) := (World.ownsRow.cellAt own2 0 (by omega)).trans (by rw [made_int]; rfl); have hf2 := World.ownsRow.frozenAt own2 0)
  have own3 : (w2.setCell ⟨w1.heap.size, 0, none⟩ (.int .u8 7)).ownsRow w1.heap.size 5 1 (.slice (some ⟨w1.heap.size, 0, none⟩) 512 512) 512 (seven.map e8) := by
    have := (own2.stored 0 (.int .u8 7)).1
    rw [made_int] at this
    exact this
  have b13 : Below w1.heap.size w1 (w2.setCell ⟨w1.heap.size, 0, none⟩ (.int .u8 7)) := ((Below.refl _ _).grown hg2 (Nat.le_refl _) (by simp)).grown (own2.stored 0 (.int .u8 7)).2 (by have := hg2.size; omega) (fun q hq => by injection hq with hq; omega)
  obtain ⟨w3, hw3⟩ : ∃ w3, w3 = w2.setCell ⟨w1.heap.size, 0, none⟩ (.int .u8 7) := ⟨_, rfl⟩
  rw [← hw3] at own3 b13 ⊢
  have hD3 := hD.on b13
  have hlt := hD.lt
  clear hw3 own2 hg2 hc2 hf2
  refine (write_any g fp (new 2) 1 (some ⟨w1.heap.size, 0, none⟩) 512 512 seven w3 hD3 (by omega) seven_len.symm (RdN.own own3 hlt)).mono ?_
  rintro e w4 ⟨rfl, fp4, hD4, k4, f4⟩
  rw [← E1.out] at hD4 ⊢
  rw [H1.out]
  have q4 := f4.ge hfp (Nat.le_trans b1.size b13.size)
  have bw4 : Below w.heap.size w w4 := (bt b1 b13).trans (k4.below hfp (Nat.le_trans b1.size b13.size))
  clear k4 f4
  go_wp2_with fail
  refine (flush_any g fp4 s1.1 w4 hD4 (by omega)).mono ?_
  rintro e w5 ⟨rfl, fp5, hD5, k5, f5⟩
  rw [← E2.out] at hD5 ⊢
  rw [H2.out]
  have q5 := f5.ge q4 bw4.size
  have bw5 : Below w.heap.size w w5 := bw4.trans (k5.below q4 bw4.size)
  clear k5 f5
  go_wp2_with fail
  refine (restart_any g fp5 s2.1 [] none 0 0 (-1) 0 w5 hD5 (by omega) rfl (RdN.nil _ _ _) (by simp) (by omega) (by omega) (by omega) (by omega)).mono ?_
  rintro e w6 ⟨rfl, fp6, hD6, k6, f6⟩
  have bw6 : Below w.heap.size w w6 := bw5.trans (k6.below q5 bw5.size)
  clear k6 f6
  go_wp2_with fail
  refine (kept_any g fp6 _ 1 w6 hD6).mono ?_
  rintro e w7 ⟨v, rfl, hN, b7⟩
  rw [H3.out] at hN
  obtain ⟨A, c, rfl, _, _, hc⟩ := hN
  obtain ⟨b, off, rfl, _, _, hcc⟩ := hc (by simp [seven])
  have hc0 := hcc 0 (by simp [seven])
  have hl7 : seven.length = 512 := seven_len
  rw [hl7]
  have hc0' : w7.cell? ⟨b, off, none⟩ = some (.int .u8 7) := hc0
  clear hc0 hcc hc
  have fin := Lib.hid (bt bw6 b7)
  go_wp2
  go_ret
  exact ⟨rfl, fin.out⟩
end Go.Proofs.Ytdkcdojcglmlbaa.Disk
