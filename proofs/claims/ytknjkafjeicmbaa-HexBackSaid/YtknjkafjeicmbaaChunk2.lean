/- The library's slices.Chunk at bytes, blocks of any width, the last one perhaps shorter: its iterator's contract. -/
import Derived.Test.YtknjkafjeicmbaaChunk
import Derived.Lib.MinMax
namespace Go.Proofs.Ytknjkafjeicmbaa.Ch
open Go.RowKit Go.Shelf
attribute [local go_sem] Oper.semAt_some
set_option linter.unusedVariables false
/-- how long the k-th block is -/
def wlen (M wd k : Nat) : Nat := min wd (M - wd * k)
/-- the k-th block of a row of M bytes -/
def wpart (b off M wd k : Nat) : Value := .slice (some ⟨b, off + wd * k, none⟩) (wlen M wd k) (wlen M wd k)
set_option maxRecDepth 100000 in
set_option maxHeartbeats 1000000 in
theorem wchunk1_in (Kp : World → World → Prop) (n : Nat) (hn : 1 ≤ n) (l Bs Bn b off M wd m cap : Nat) (A : Option Addr) (hA : 0 < M → A = some ⟨b, off, none⟩) (hwd : 1 ≤ wd ∧ wd ≤ 1000) (hm : ∀ k, k < m ↔ wd * k < M) (hreach : M ≤ 1000000000000) (hcap : M ≤ cap) (hcm : cap ≤ maxLen) (J Jx : List (Fin m) → World → Prop)
    (hY : ∀ pre x W, J pre W → pre.length < m → YieldAt Fence.wide (n - 1) Try.prog l #[wpart b off M wd x.1] W fun e W' =>
      (e = .returned (.bool true) ∧ J (pre ++ [x]) W' ∧ Kp W W') ∨ (e = .returned (.bool false) ∧ Jx (pre ++ [x]) W'))
    (W : World) (hBs : W.cell? ⟨Bs, 0, none⟩ = some (.slice A M cap)) (hBn : W.cell? ⟨Bn, 0, none⟩ = some (.int .i64 (wd : Int))) (hs0 : ∀ W W', Kp W W' → W'.cell? ⟨Bs, 0, none⟩ = W.cell? ⟨Bs, 0, none⟩) (hn0 : ∀ W W', Kp W W' → W'.cell? ⟨Bn, 0, none⟩ = W.cell? ⟨Bn, 0, none⟩)
    (h0 : J [] W)
    (hJd : ∀ pre (W : World) k, J pre W → J pre (W.drewN k)) (hJxd : ∀ pre (W : World) k, Jx pre W → Jx pre (W.drewN k)) :
    CallsIn Fence.wide n Try.prog 77 #[.func (.yield l) #[] #[], .pointer (some ⟨Bs, 0, none⟩), .pointer (some ⟨Bn, 0, none⟩)] W fun e W' => (∃ v, e = .returned v) ∧
      ((∃ ys, ys = List.finRange m ∧ J ys W') ∨ (∃ pre, (∃ k, k ≤ m ∧ pre = (List.finRange m).take k) ∧ Jx pre W')) := by
  refine callsIn_of_wp Try.func77 rfl trivial ?_ rfl
  simp only [Try.ntmps77, List.size_toArray, List.length_cons, List.length_nil, Nat.reduceAdd, Nat.reduceSub, Array.replicate_succ, Array.replicate_zero, List.push_toArray, List.append_toArray, List.nil_append, List.cons_append]
  unfold maxLen at hcm
  have Hm := Lib.hid hm
  have Hwd := Lib.hid hwd
  clear hm hwd
  gi_wp2
  gi_loopw [4] (fun i wr => ∃ k j : Nat, k ≤ m ∧ Hid (j = wd * k ∧ j ≤ M + wd) ∧ i = .int .i64 (j : Int) ∧ J ((List.finRange m).take k) wr ∧ wr.cell? ⟨Bs, 0, none⟩ = some (.slice A M cap) ∧ wr.cell? ⟨Bn, 0, none⟩ = some (.int .i64 (wd : Int)))
    (fun i _ => M + 1000 + 1 - (intOf i).toNat)
  case atStart => exact ⟨0, 0, Nat.zero_le _, Lib.hid ⟨by rw [Nat.mul_zero], by omega⟩, rfl, h0, hBs, hBn⟩
  case round =>
    obtain ⟨k, j, hk, hj, rfl, hJs, cs, cn⟩ := hrel
    by_cases hlt : k < m
    · have hjM : j < M := by rw [hj.out.1]; exact (Hm.out k).1 hlt
      obtain rfl := hA (by omega)
      have hjI : (j : Int) < (M : Int) := by omega
      have hjN : j ≤ M := by omega
      have hjc : (j : Int) ≤ (cap : Int) := by omega
      obtain ⟨e, he⟩ : ∃ e, e = min wd (M - j) := ⟨_, rfl⟩
      have hew := Hwd.out
      have hmn : min (wd : Int) ((M - j : Nat) : Int) = (e : Int) := by omega
      have hmn2 : min (wd : Int) ((M : Int) - (j : Int)) = (e : Int) := by omega
      obtain ⟨j2, hj2⟩ : ∃ x, x = j + e := ⟨_, rfl⟩
      have q2 : IntKind.i64.wrap ((j : Int) + (e : Int)) = (j2 : Int) := by rw [IntKind.wrap_i64]; omega
      have c2 : (j2 : Int) ≤ (cap : Int) := by omega
      have d2 : (j : Int) ≤ (j2 : Int) := by omega
      have n2 : j2 ≤ cap := by omega
      have n3 : j ≤ j2 := by omega
      have s2 : j2 - j = e := by omega
      have ne2 : ¬ cap = j := by omega
      have ne3 : ¬ j2 = j := by omega
      have ne4 : ¬ e = 0 := by omega
      have ne5 : 0 < e := by omega
      obtain ⟨j3, hj3⟩ : ∃ x, x = j + wd := ⟨_, rfl⟩
      have q3 : IntKind.i64.wrap ((j : Int) + (wd : Int)) = (j3 : Int) := by rw [IntKind.wrap_i64]; omega
      have H3 := Lib.hid (show j3 = wd * (k + 1) ∧ j3 ≤ M + wd by rw [Nat.mul_succ, ← hj.out.1]; omega)
      have H4 := Lib.hid (show j < j3 ∧ j < M ∧ j3 ≤ M + 1000 by omega)
      have hp : wpart b off M wd k = .slice (some ⟨b, off + j, none⟩) e e := by rw [wpart, wlen, ← hj.out.1, ← he]
      have Hp := Lib.hid hp
      clear hew he hj2 hj3 hp
      gi_wp2
      gi_quiet (fail)
      obtain ⟨fn, tmps, assign, body, hy, hR⟩ := hY ((List.finRange m).take k) ⟨k, hlt⟩ (wr.drewN nq) (hJd _ _ _ hJs) (by simp; omega)
      rw [Hp.out] at hy

      gi_wp2
      refine hR.mono ?_
      rintro e W3 (⟨rfl, hJ3, hk3⟩ | ⟨rfl, hJx3⟩)
      · have cn3 := (hn0 _ _ hk3).trans cn
        have cs3 := (hs0 _ _ hk3).trans cs
        gi_wp2
        go_roundw
        case rel => exact ⟨k + 1, j3, by omega, H3, rfl, by rw [fin_take hlt]; exact hJ3, cs3, cn3⟩
        case measure => have := H4.out; simp [intOf]; omega
      · gi_wp2
        refine bodyPost_ret (results_none rfl _ _ _) rfl ?_
        exact ⟨⟨_, rfl⟩, .inr ⟨_, ⟨k + 1, by omega, (fin_take hlt).symm⟩, hJx3⟩⟩
    · obtain rfl : k = m := by omega
      have hjM : ¬ (j : Int) < (M : Int) := by
        have h1 : ¬ wd * k < M := fun h => absurd ((Hm.out k).2 h) (by omega)
        rw [← hj.out.1] at h1
        omega
      gi_wp2
      go_end0
      rw [List.take_of_length_le (by simp)] at hJs
      exact ⟨⟨_, rfl⟩, .inl (by simpa using hJs)⟩
theorem wchunk_stops (Kp : World → World → Prop) (n : Nat) (hn : 1 ≤ n) (Bs Bn b off M wd m cap : Nat) (A : Option Addr) (hA : 0 < M → A = some ⟨b, off, none⟩) (hwd : 1 ≤ wd ∧ wd ≤ 1000) (hm : ∀ k, k < m ↔ wd * k < M) (hreach : M ≤ 1000000000000) (hcap : M ≤ cap) (hcm : cap ≤ maxLen) (w : World) (hs : Bs < w.heap.size) (hnn : Bn < w.heap.size)
    (hs0 : ∀ W W', Kp W W' → W'.cell? ⟨Bs, 0, none⟩ = W.cell? ⟨Bs, 0, none⟩) (hn0 : ∀ W W', Kp W W' → W'.cell? ⟨Bn, 0, none⟩ = W.cell? ⟨Bn, 0, none⟩)
    (hBs : w.cell? ⟨Bs, 0, none⟩ = some (.slice A M cap)) (hBn : w.cell? ⟨Bn, 0, none⟩ = some (.int .i64 (wd : Int))) :
    SeqStopsK Fence.wide n Try.prog 77 #[.pointer (some ⟨Bs, 0, none⟩), .pointer (some ⟨Bn, 0, none⟩)] (fun x : Fin m => #[wpart b off M wd x.1]) Kp (fun ys => ys = List.finRange m)
      (fun pre => ∃ k, k ≤ m ∧ pre = (List.finRange m).take k) m w := fun l J Jx W hW hJ hJx hY h0 => by
  have hc1 := (hW.cell (p := ⟨Bs, 0, none⟩) hs).trans hBs
  have hc2 := (hW.cell (p := ⟨Bn, 0, none⟩) hnn).trans hBn
  exact wchunk1_in Kp n hn l Bs Bn b off M wd m cap A hA hwd hm hreach hcap hcm J Jx hY W hc1 hc2 hs0 hn0 h0 (fun pre W k h => hJ pre W _ none h (drew_grown _ _ _) (fun r e => by cases e)) (fun pre W k h => hJx pre W _ none h (drew_grown _ _ _) (fun r e => by cases e))
set_option maxRecDepth 100000 in
set_option maxHeartbeats 400000 in
theorem wchunk_any (A : Option Addr) (n c wd : Nat) (hwd : 1 ≤ wd) (x : Int) (hx : x = (wd : Int)) (w : World) :
    Calls Try.prog 72 #[.slice A n c, .int .i64 x] w fun e w' => e = .returned (.func (.func 77) #[] #[.pointer (some ⟨w.heap.size, 0, none⟩), .pointer (some ⟨w.heap.size + 1, 0, none⟩)]) ∧
      w'.cell? ⟨w.heap.size, 0, none⟩ = some (.slice A n c) ∧ w'.cell? ⟨w.heap.size + 1, 0, none⟩ = some (.int .i64 wd) ∧ Below w.heap.size w w' ∧ w.heap.size + 1 < w'.heap.size := by
  subst hx
  go_enter Try.func72, Try.ntmps72
  go_wp2
  go_ret
  refine ⟨rfl, ?_, ?_, b2alloc _ _ _, ?_⟩
  all_goals simp
end Go.Proofs.Ytknjkafjeicmbaa.Ch
