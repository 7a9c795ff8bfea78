/- Is a number among those: Has; are few epochs kept: light. -/
import Derived.Test.YtdkcdojcglmlbaaPol5
namespace Go.Proofs.Ytdkcdojcglmlbaa.Pol
open Go.RowKit
set_option linter.unusedVariables false
set_option maxRecDepth 100000
set_option maxHeartbeats 400000 in
theorem hasY_any (A : Option Addr) (l : List Int) (n cap : Nat) (x : Int) (w : World) (hn : n = l.length) (hr : Rd w w.heap.size A (l.map (Value.int .i64))) (hl : l.length ≤ 1000000000000) (hx : x ∈ l) :
    Calls Try.prog 57 #[.slice A n cap, .int .i64 x] w fun e w' => e = .returned (.bool true) ∧ w = w' := by
  subst hn
  have Hx := Lib.hid hx
  clear hx
  go_enter Try.func57, Try.ntmps57
  go_wp2
  go_loop [5] (fun i => ∃ k : Nat, k ≤ l.length ∧ i = .int .i64 k ∧ Hid (x ∈ l.drop k)) (fun i => l.length - (intOf i).toNat)
  case atStart => exact ⟨0, by omega, rfl, by rw [List.drop_zero]; exact Hx⟩
  case round =>
    obtain ⟨k, hk, rfl, hm⟩ := hrel
    by_cases hlt : k < l.length
    · obtain ⟨b, off, rfl, hbb, hc⟩ := hr.get (k := k) (by simpa using hlt)
      rw [List.getElem_map] at hc
      by_cases e : l[k] = x
      · have he := beq_yes e
        clear e
        go_wp2
        go_ret
        exact ⟨rfl, rfl⟩
      · have he := beq_no e
        have hm' := hm.out
        rw [← List.getElem_cons_drop hlt] at hm'
        have hnx := Lib.hid (show x ∈ l.drop (k + 1) from (List.mem_cons.1 hm').resolve_left fun h => e h.symm)
        clear e hm'
        go_wp2
        go_round
        case rel => exact ⟨k + 1, by omega, by go_num, hnx⟩
        case measure => simp [intOf]; omega
    · have h0 := hm.out
      rw [List.drop_of_length_le (by omega)] at h0
      exact absurd h0 (by simp)
set_option maxHeartbeats 400000 in
theorem hasN_any (A : Option Addr) (l : List Int) (n cap : Nat) (x : Int) (w : World) (hn : n = l.length) (hr : Rd w w.heap.size A (l.map (Value.int .i64))) (hl : l.length ≤ 1000000000000) (hx : x ∉ l) :
    Calls Try.prog 57 #[.slice A n cap, .int .i64 x] w fun e w' => e = .returned (.bool false) ∧ w = w' := by
  subst hn
  have Hx := Lib.hid hx
  clear hx
  go_enter Try.func57, Try.ntmps57
  go_wp2
  go_loop [5] (fun i => ∃ k : Nat, k ≤ l.length ∧ i = .int .i64 k) (fun i => l.length - (intOf i).toNat)
  case atStart => exact ⟨0, by omega, rfl⟩
  case round =>
    obtain ⟨k, hk, rfl⟩ := hrel
    by_cases hlt : k < l.length
    · obtain ⟨b, off, rfl, hbb, hc⟩ := hr.get (k := k) (by simpa using hlt)
      rw [List.getElem_map] at hc
      have e : ¬ l[k] = x := fun e => Hx.out (e ▸ List.getElem_mem hlt)
      have he := beq_no e
      clear e
      go_wp2
      go_round
      case rel => exact ⟨k + 1, by omega, by go_num⟩
      case measure => simp [intOf]; omega
    · go_wp2
      go_ret
      exact ⟨rfl, rfl⟩
def lightP (e o s : Int) (t : List UInt8) : Bool := decide (t.length ≤ 100) && (!rightH e o s t || decide (e - o ≤ 100))
theorem light_any (e o s : Int) (t : List UInt8) (w : World) : Calls Try.prog 53 #[hdr e o s t] w fun E w' => E = .returned (.bool (lightP e o s t)) ∧ Below w.heap.size w w' := by
  have hsz : (⟨t.toArray⟩ : ByteArray).size = t.length := Utf.ba_size t
  by_cases hl : t.length ≤ 100
  · have hR := fun w => rhright_any e o s t w (by omega)
    obtain ⟨R, hRe⟩ : ∃ R, R = rightH e o s t := ⟨_, rfl⟩
    unfold lightP
    rw [← hRe] at hR ⊢
    have hln : decide ((t.length : Int) ≤ 100) = true := by simp; omega
    cases hb : R with
    | false =>
      subst hb
      simp only [hl, decide_true, Bool.not_false, Bool.true_or, Bool.and_self]
      have HR := Lib.hid hR
      clear hR hRe hl
      unfold hdr at HR ⊢
      go_enter Try.func53, Try.ntmps53
      have T0 : Bl _ _ _ _ := heap_alloc_new w (.cells #[.int .i64 e, .int .i64 o, .int .i64 s, .string ⟨t.toArray⟩] 41)
      go_wp2_with (go_at_call 83; refine (HR.out _).mono ?_; rintro e1 w1 ⟨rfl, b2⟩; obtain ⟨q0, q1, q2, q3, qf⟩ := ((show Bl _ w.heap.size _ [_, _, _, _] from T0).on b2).four)
      go_ret
      exact ⟨rfl, bt (b1alloc _ _) b2⟩
    | true =>
      subst hb
      have hrr := hRe.symm
      have hr2 := of_decide_eq_true hrr
      obtain ⟨g1, g2, g3, _⟩ := hr2
      have hw1 : wrap64 (e - o) = e - o := by unfold wrap64; omega
      simp only [hl, decide_true, Bool.not_true, Bool.false_or, Bool.true_and]
      have HR := Lib.hid hR
      clear hR hRe hl hrr
      unfold hdr at HR ⊢
      go_enter Try.func53, Try.ntmps53
      have T0 : Bl _ _ _ _ := heap_alloc_new w (.cells #[.int .i64 e, .int .i64 o, .int .i64 s, .string ⟨t.toArray⟩] 41)
      go_wp2_with (go_at_call 83; refine (HR.out _).mono ?_; rintro e1 w1 ⟨rfl, b2⟩; obtain ⟨q0, q1, q2, q3, qf⟩ := ((show Bl _ w.heap.size _ [_, _, _, _] from T0).on b2).four)
      go_ret
      exact ⟨rfl, bt (b1alloc _ _) b2⟩
  · have hln : decide ((t.length : Int) ≤ 100) = false := by simp; omega
    unfold lightP
    simp only [hl, decide_false, Bool.false_and]
    clear hl
    unfold hdr
    go_enter Try.func53, Try.ntmps53
    go_wp2_with fail
    go_ret
    exact ⟨rfl, b1alloc _ _⟩
/-! the plain law -/
theorem few_next {k d e o s : Int} {t : List UInt8} {a b c f : Int} {u : List UInt8} (hP : rightP k d = true) (hT : ((a, b, c, u), f) = turn k d e o s t) (hf : f = 0) :
    rightH e o s t = true ∧ e < 99999999 ∧ a = e + 1 ∧ b = max o (oldest k d (e + 1)) ∧ c = s ∧ u = [] := by
  unfold turn at hT
  rw [hP] at hT
  simp only [true_and] at hT
  split at hT
  · rename_i h
    split at hT
    · simp only [Prod.mk.injEq] at hT; omega
    · simp only [Prod.mk.injEq] at hT
      obtain ⟨⟨h1, h2, h3, h4⟩, h5⟩ := hT
      exact ⟨h, by omega, h1, h2, h3, h4⟩
  · simp only [Prod.mk.injEq] at hT; omega
theorem few_counts {k d e o s : Int} {t : List UInt8} (hP : rightP k d = true) (hL : lightP e o s t = true) (hR : rightH e o s t = true) (he : e < 99999999) :
    ∃ n0 n1 nl : Nat, ∃ b : Int, b = max o (oldest k d (e + 1)) ∧ n0 = keptN e o s t ∧ n1 = keptN (e + 1) b s [] ∧ nl = leaveN n0 o (oldest k d (e + 1)) ∧
      n0 ≤ 101 ∧ n1 ≤ 102 ∧ 1 ≤ n1 ∧ nl ≤ n0 ∧ n1 + nl = n0 + 1 ∧ b + (n1 : Int) = e + 2 ∧ (n1 : Int) ≤ k ∧ 0 ≤ o ∧ o ≤ 1073741824 ∧ 0 ≤ e ∧ 0 ≤ b ∧ b ≤ 1073741824 ∧ (∀ i : Nat, i < nl → o + (i : Int) ∉ upL b n1) ∧ (∀ i : Nat, i < nl → o + (i : Int) ∈ upL o n0) := by
  have hp := of_decide_eq_true hP
  have hr := of_decide_eq_true hR
  obtain ⟨r0, r1, r2, r3, r4, r5⟩ := hr
  obtain ⟨p0, p1, p2, p3⟩ := hp
  have hl : e - o ≤ 100 := by unfold lightP at hL; rw [hR] at hL; simp at hL; exact hL.2
  obtain ⟨M, hM⟩ : ∃ M, M = oldest k d (e + 1) := ⟨_, rfl⟩
  have hM1 : M ≤ e + 1 ∧ 0 ≤ M ∧ (e + 2 - M ≤ k) := by
    rw [hM]; unfold oldest; rw [hP]; simp only [true_and]; split <;> omega
  rw [← hM]
  have hb : 0 ≤ max o M ∧ max o M ≤ e + 1 := by omega
  have hR1 : rightH (e + 1) (max o M) s [] = true := by unfold rightH; exact decide_eq_true ⟨by omega, by omega, by omega, r3, r4, .inl rfl⟩
  have h0 : keptN e o s t = (e - o + 1).toNat := by unfold keptN; rw [if_pos hR]
  have h1 : keptN (e + 1) (max o M) s [] = (e + 1 - max o M + 1).toNat := by unfold keptN; rw [if_pos hR1]
  have hlv : leaveN (keptN e o s t) o M = min (keptN e o s t) (M - o).toNat := rfl
  refine ⟨_, _, _, _, rfl, rfl, rfl, rfl, by omega, by omega, by omega, by omega, by omega, by omega, by omega, by omega, by omega, by omega, by omega, by omega, ?_, ?_⟩
  · intro i hi hmem
    unfold upL at hmem
    simp only [List.mem_map, List.mem_range] at hmem
    obtain ⟨j, hj, hj2⟩ := hmem
    omega
  · intro i hi
    unfold upL
    simp only [List.mem_map, List.mem_range]
    exact ⟨i, by omega, rfl⟩
end Go.Proofs.Ytdkcdojcglmlbaa.Pol
