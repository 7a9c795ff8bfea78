/- The epochs that are kept, one by one: the iterator's contract. -/
import Derived.Test.YtdkcdojcglmlbaaPol3
import Derived.Test.YtdkcdojcglmlbaaChunk
import Derived.Outline
namespace Go.Proofs.Ytdkcdojcglmlbaa.Pol
open Go.RowKit Go.Shelf
open Go.Proofs.Ytdkcdojcglmlbaa.Ch (KpX fin_take keeps_below)
attribute [local go_sem] Oper.semAt_some
set_option linter.unusedVariables false
set_option maxRecDepth 100000
/-- how many epochs are kept -/
def keptN (e o s : Int) (t : List UInt8) : Nat := if rightH e o s t = true then (e - o + 1).toNat else 0
set_option maxHeartbeats 1000000 in
theorem epochs1_in (Kp : World → World → Prop) (n : Nat) (hn : 1 ≤ n) (l H : Nat) (e o s : Int) (t : List UInt8) (ht : t.length ≤ 300) (J Jx : List (Fin (keptN e o s t)) → World → Prop)
    (hY : ∀ pre x W, J pre W → pre.length < keptN e o s t → YieldAt Fence.wide (n - 1) Try.prog l #[.int .i64 (o + (x.1 : Int))] W fun E W' =>
      (E = .returned (.bool true) ∧ J (pre ++ [x]) W' ∧ Kp W W') ∨ (E = .returned (.bool false) ∧ Jx (pre ++ [x]) W'))
    (W : World) (hH : Bl W H 42 [.int .i64 e, .int .i64 o, .int .i64 s, .string ⟨t.toArray⟩]) (hK : ∀ W W', Kp W W' → ∀ k, W'.cell? ⟨H, k, none⟩ = W.cell? ⟨H, k, none⟩)
    (hJb : ∀ pre (W W' : World), J pre W → Below W.heap.size W W' → J pre W') (h0 : J [] W) :
    CallsIn Fence.wide n Try.prog 135 #[.func (.yield l) #[] #[], .pointer (some ⟨H, 0, none⟩)] W fun E W' => (∃ v, E = .returned v) ∧
      ((∃ ys, ys = List.finRange (keptN e o s t) ∧ J ys W') ∨ (∃ pre, (∃ k, k ≤ keptN e o s t ∧ pre = (List.finRange (keptN e o s t)).take k) ∧ Jx pre W')) := by
  obtain ⟨q0, q1, q2, q3, qf⟩ := hH.four
  have hpr := Lib.hid (fun W => polright_any e o s t W ht)
  refine callsIn_of_wp Try.func135 rfl trivial ?_ rfl
  simp only [Try.ntmps135, List.size_toArray, List.length_cons, List.length_nil, Nat.reduceAdd, Nat.reduceSub, Array.replicate_succ, Array.replicate_zero, List.push_toArray, List.append_toArray, List.nil_append, List.cons_append]
  gi_wp2_with fail
  unfold hdr at hpr
  refine ⟨trivial, (callsIn_wide.2 (hpr.out W)).mono ?_⟩
  rintro E w1 ⟨rfl, b1⟩
  have hJ1 := hJb _ _ _ h0 b1
  have hH1 := hH.on b1
  clear h0 hH q0 q1 q2 q3 qf
  obtain ⟨m, hm⟩ : ∃ m, m = keptN e o s t := ⟨_, rfl⟩
  subst hm
  cases hR : rightH e o s t with
  | false =>
    have hz : keptN e o s t = 0 := by unfold keptN; rw [hR]; rfl
    have Hz := Lib.hid hz
    clear hz hR
    gi_wp2
    first | go_end0 | refine bodyPost_ret (results_none rfl _ _ _) rfl ?_
    refine ⟨⟨_, rfl⟩, .inl ⟨_, rfl, ?_⟩⟩
    have : List.finRange (keptN e o s t) = [] := List.eq_nil_of_length_eq_zero (by rw [List.length_finRange, Hz.out])
    rw [this]
    exact hJ1
  | true =>
    obtain ⟨r1, r2, r3, r4, r5, _⟩ := of_decide_eq_true hR
    have hmz : keptN e o s t = (e - o + 1).toNat := by unfold keptN; rw [hR]; rfl
    have Hmz := Lib.hid hmz
    obtain ⟨q0, q1, q2, q3, qf⟩ := hH1.four
    clear hmz hR
    gi_wp2
    gi_loopw [3] (fun i wr => ∃ k : Nat, k ≤ keptN e o s t ∧ i = .int .i64 (o + (k : Int)) ∧ J ((List.finRange (keptN e o s t)).take k) wr ∧ wr.cell? ⟨H, 0, none⟩ = some (.int .i64 e))
      (fun i _ => (e + 1 - intOf i).toNat)
    case atStart => exact ⟨0, Nat.zero_le _, by go_num, hJ1, q0⟩
    case round =>
      clear q0 q1 q2 q3 qf
      obtain ⟨k, hk, rfl, hJs, q0⟩ := hrel
      have hmz := Hmz.out
      by_cases hlt : k < keptN e o s t
      · have hle : o + (k : Int) ≤ e := by omega
        have hw1 : wrap64 (o + (k : Int) + 1) = o + (k : Int) + 1 := by unfold wrap64; omega
        obtain ⟨fn, tmps, assign, body, hy, hRr⟩ := hY ((List.finRange (keptN e o s t)).take k) ⟨k, hlt⟩ wr hJs (by simp; omega)
        clear hmz
        gi_wp2
        refine hRr.mono ?_
        rintro E2 W3 (⟨rfl, hJ3, hk3⟩ | ⟨rfl, hJx3⟩)
        · have q3 := (hK _ _ hk3 0).trans q0
          gi_wp2
          go_roundw
          case rel => exact ⟨k + 1, by omega, by go_num, by rw [fin_take hlt]; exact hJ3, q3⟩
          case measure => simp [intOf]; omega
        · gi_wp2
          refine bodyPost_ret (results_none rfl _ _ _) rfl ?_
          exact ⟨⟨_, rfl⟩, .inr ⟨_, ⟨k + 1, by omega, (fin_take hlt).symm⟩, hJx3⟩⟩
      · have hkm : k = keptN e o s t := by omega
        have hle : ¬ o + (k : Int) ≤ e := by omega
        have Hk := Lib.hid hkm
        clear hmz hkm
        gi_wp2
        go_end0
        rw [Hk.out, List.take_of_length_le (by simp)] at hJs
        exact ⟨⟨_, rfl⟩, .inl (by first | exact hJs | exact ⟨_, rfl, hJs⟩)⟩
theorem epochs_stops (Kp : World → World → Prop) (n : Nat) (hn : 1 ≤ n) (H : Nat) (e o s : Int) (t : List UInt8) (ht : t.length ≤ 300) (w : World) (hH : Bl w H 42 [.int .i64 e, .int .i64 o, .int .i64 s, .string ⟨t.toArray⟩])
    (hK : ∀ W W', Kp W W' → ∀ k, W'.cell? ⟨H, k, none⟩ = W.cell? ⟨H, k, none⟩) :
    SeqStopsK Fence.wide n Try.prog 135 #[.pointer (some ⟨H, 0, none⟩)] (fun x : Fin (keptN e o s t) => #[.int .i64 (o + (x.1 : Int))]) Kp (fun ys => ys = List.finRange (keptN e o s t))
      (fun pre => ∃ k, k ≤ keptN e o s t ∧ pre = (List.finRange (keptN e o s t)).take k) (keptN e o s t) w := fun l J Jx W hW hJ hJx hY h0 =>
  epochs1_in Kp n hn l H e o s t ht J Jx hY W ((hW.block _ (lt_of_block hH)).trans hH) hK (fun pre W W' h b => hJ pre W W' none h (below_grown b none) (fun r e => by cases e)) h0
end Go.Proofs.Ytdkcdojcglmlbaa.Pol
