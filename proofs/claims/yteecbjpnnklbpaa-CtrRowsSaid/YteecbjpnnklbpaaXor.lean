/- The walk of the reference's Xor. -/
import Derived.Test.YteecbjpnnklbpaaMac1
import Derived.Test.YteecbjpnnklbpaaRegion
namespace Go.Proofs.Yteecbjpnnklbpaa.Mac
open Go.RowKit
set_option linter.unusedVariables false
set_option maxRecDepth 100000
theorem xorL_succ (l m : List UInt8) (k : Nat) (h : k < (xorL l m).length) : (xorL l m).take (k + 1) = (xorL l m).take k ++ [l[k]'(by rw [xorL_len] at h; omega) ^^^ m[k]'(by rw [xorL_len] at h; omega)] := by
  rw [List.take_succ_eq_append_getElem h, xorL_get]
set_option maxHeartbeats 400000 in
theorem rxor_any (A B : Option Addr) (l m : List UInt8) (n o c d : Nat) (w : World) (hn : n = l.length) (ho : o = m.length) (hr : Rd w w.heap.size A (l.map e8)) (hs : Rd w w.heap.size B (m.map e8)) (hl : l.length ≤ 1000000000) (hm : m.length ≤ 1000000000) :
    Calls Try.prog 44 #[.slice A n c, .slice B o d] w fun e w' => RetB 5 w (xorL l m) e w' := by
  subst hn ho
  obtain ⟨i0, hi0, hz0, hz1, hz2⟩ := info_parts info8
  obtain ⟨s, hs'⟩ : ∃ s, s = (xorL l m).length := ⟨_, rfl⟩
  have hlm := xorL_len l m
  have hsm : s = min l.length m.length := by omega
  have hsl : s ≤ l.length := by omega
  have hsr : s ≤ m.length := by omega
  have hend : s < l.length → ¬ s < m.length := by omega
  have Hs := Lib.hid hs'
  have Hend := Lib.hid hend
  clear hs' hlm hsm hend
  go_enter Try.func44, Try.ntmps44
  go_wp2
  go_loopw [5, 6] (fun v i wr => ∃ k : Nat, k ≤ s ∧ i = .int .i64 k ∧ wr.ownsRow w.heap.size 5 1 v k (((xorL l m).take k).map e8) ∧ Below w.heap.size w wr) (fun _ i _ => s - (intOf i).toNat)
  case atStart => exact ⟨0, by omega, rfl, own_nil _ _ _ _, Below.refl _ _⟩
  case round =>
    obtain ⟨k, hk, rfl, hown, bel⟩ := hrel
    obtain ⟨A0, c0, rfl⟩ := own_form hown
    by_cases hlt : k < s
    · obtain ⟨b, off, rfl, hbb, hc⟩ := (hr.below bel).get (k := k) (by simp; omega)
      obtain ⟨b', off', rfl, hbb', hc'⟩ := (hs.below bel).get (k := k) (by simp; omega)
      rw [List.getElem_map] at hc hc'
      have hkk : k < (xorL l m).length := by rw [← Hs.out]; exact hlt
      have hst := xorL_succ l m k hkk
      have hll : k < l.length := by omega
      have hmm : k < m.length := by omega
      obtain ⟨x, hx⟩ : ∃ x, x = l[k] := ⟨_, rfl⟩
      obtain ⟨y, hy⟩ : ∃ y, y = m[k] := ⟨_, rfl⟩
      rw [← hx] at hc hst
      rw [← hy] at hc' hst
      have hxy := xor8 x y
      obtain ⟨p, hp⟩ : ∃ p, p = x ^^^ y := ⟨_, rfl⟩
      rw [← hp] at hxy hst
      have Hst := Lib.hid hst
      clear hx hy hp hst hkk
      have hbs : w.heap.size ≤ wr.heap.size := bel.size
      have hbw : b < wr.heap.size := by omega
      have hbw' : b' < wr.heap.size := by omega
      have hllI : (k : Int) < (l.length : Int) := by omega
      have hmmI : (k : Int) < (m.length : Int) := by omega
      go_wp2
      refine region_three [0] [1, 2, 3, 4, 5, 6, 7, 8, 9] 10 (by kernel_rfl) (by kernel_rfl) (fun c d v a w h => by cases d <;> exact h) ?_
      simp only [preAct, preOne, opsAt, List.foldl_cons, List.foldl_nil, List.getElem?_cons_zero, List.getElem?_cons_succ, List.getD_cons_zero, List.getD_cons_succ, List.drop_succ_cons, List.drop_zero]
      have inbNe := InB.some
      have inbW := @wrap_small
      have inbU := IntKind.wrap_u8'
      repeat (refine wpQuiet_step (fun K hK => ?_); go_simp; first | (refine hK _ ?_; clear hK K) | (apply Exists.intro; refine ⟨?_, hK _ ?_⟩; (· (intro w' hw'; first | fail | (have hcw := hw'.cell; go_simp; exact rfl))); clear hK K))
      refine wpQuiet_nil ?_
      intro wq hq
      clear inbNe inbW inbU
      have hq2 := own_on hown hq.below
      have belq := bel.trans (hq.below.mono hbs)
      have hsz : w.heap.size ≤ wq.heap.size := belq.size
      clear hq
      go_wp2_with (at_builtin; refine wpList_append_rd _ rfl _ _ _ rfl w.heap.size 5 i0 _ 1 1 Try.underlying27 hi0 hz0 hz1 hz2 rfl (by omega) _ k _ rfl (hq2.alloc _) _ _ 1 1 [e8 p] rfl rfl (Rd.lit wq _ _ _ (wq.heap.size + 1) rfl (by omega)) (one_int _ _) (by simp only [maxLen]; omega) (by omega) (le_alloc hsz _) ?_; intro v2 w2 hown2 hg2 hat2)
      go_roundw
      case rel => exact ⟨k + 1, by omega, by go_num, by rw [Hst.out, List.map_append]; exact hown2, (belq.alloc hsz _).grown hg2 (le_alloc hsz _) (fun g hg => own_block hown hg)⟩
      case measure => simp [intOf]; omega
    · obtain rfl : k = s := by omega
      rw [List.take_of_length_le (by rw [← Hs.out]; omega)] at hown
      by_cases hkl : k < l.length
      · have hkm := Hend.out hkl
        go_wp2
        go_ret
        exact RetB.mk hown rfl bel
      · have hkm : ¬ (k : Int) < (l.length : Int) := by omega
        go_wp2
        go_ret
        exact RetB.mk hown rfl bel
end Go.Proofs.Yteecbjpnnklbpaa.Mac
