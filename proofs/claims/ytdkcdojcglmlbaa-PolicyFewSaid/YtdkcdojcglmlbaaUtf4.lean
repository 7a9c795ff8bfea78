/- The walk of the reference's Runes. -/
import Derived.Test.YtdkcdojcglmlbaaUtf3
import Derived.Test.YtdkcdojcglmlbaaScanPlain
import Derived.OwnWalk
namespace Go.Proofs.Ytdkcdojcglmlbaa.Utf
open Go.RowKit
set_option linter.unusedVariables false
set_option maxRecDepth 100000
abbrev e32 (r : Nat) : Value := .int .i32 (r : Int)
theorem rfirst_any (l : List UInt8) (w : World) (hl : l.length ≤ 1000000) :
    Calls Try.prog 146 #[.string ⟨l.toArray⟩] w fun e w' => e = .returned (.tuple #[.int .i32 ((first l).1 : Int), .int .i64 ((first l).2 : Int)]) ∧ Below w.heap.size w w' := by
  by_cases h0 : 0 < l.length
  · rcases (show (¬ 240 ≤ g l 0 ∧ ¬ 224 ≤ g l 0 ∧ ¬ 192 ≤ g l 0) ∨ (¬ 240 ≤ g l 0 ∧ ¬ 224 ≤ g l 0 ∧ 192 ≤ g l 0) ∨ (¬ 240 ≤ g l 0 ∧ 224 ≤ g l 0) ∨ 240 ≤ g l 0 by omega) with ⟨h1, h2, h3⟩ | ⟨h1, h2, h3⟩ | ⟨h1, h2⟩ | h1
    · exact rfirst_1 l w hl h0 h1 h2 h3
    · exact rfirst_2 l w hl h0 h1 h2 h3
    · exact rfirst_3 l w hl h0 h1 h2
    · exact rfirst_4 l w hl h0 h1
  · have hn : l = [] := List.eq_nil_of_length_eq_zero (by omega)
    subst hn
    have hsz : (⟨([] : List UInt8).toArray⟩ : ByteArray).size = 0 := rfl
    obtain ⟨S, hS⟩ : ∃ S : ByteArray, S = ⟨([] : List UInt8).toArray⟩ := ⟨_, rfl⟩
    rw [← hS] at hsz ⊢
    clear hS
    go_enter Try.func146, Try.ntmps146
    go_wp2_with fail
    go_ret2
    exact ⟨rfl, Below.refl _ _⟩
/-- what Runes tells: the runes, where there is none, the fault -/
def runesR (s : List UInt8) : List Nat × Nat × Int := if (scan s).2 = s.length then ((scan s).1, 0, 0) else ([], (scan s).2, 4)
theorem info32 : (Try.prog.info? 21).map (fun i => (i.zero, i.size, i.bytes)) = some (some (.int .i32 0), 1, 4) := by kernel_rfl
theorem ex_drop (l : List UInt8) (k : Nat) : (⟨l.toArray⟩ : ByteArray).extract k l.length = ⟨(l.drop k).toArray⟩ := by
  apply ByteArray.ext
  simp
  exact List.take_of_length_le (by simp)
set_option maxHeartbeats 1000000 in
theorem rrunes_any (s : List UInt8) (w : World) (hl : s.length ≤ 1000000) :
    Calls Try.prog 140 #[.string ⟨s.toArray⟩] w fun e w' => ∃ v, e = .returned (.tuple #[v, .int .i64 ((runesR s).2.1 : Int), .int .i64 (runesR s).2.2]) ∧ w'.ownsRow w.heap.size 21 1 v (runesR s).1.length ((runesR s).1.map e32) ∧ Below w.heap.size w w' := by
  obtain ⟨i0, hi0, hz0, hz1, hz2⟩ := info_parts info32
  have hsz : (⟨s.toArray⟩ : ByteArray).size = s.length := ba_size s
  have hsl : ∀ k : Nat, k ≤ s.length → ∀ w, (Instr.slice 9 (.string ⟨s.toArray⟩) (some (.int .i64 (k : Int))) none none).run Try.prog w = .ok (.string ⟨(s.drop k).toArray⟩) w := fun k hk w => by
    rw [run_slice_string_from_if (P := Try.prog) w 9 ⟨s.toArray⟩ .i64 (k : Int) Try.underlying9, if_pos ⟨by omega, by rw [ba_size]; omega⟩, ba_size, Int.toNat_natCast, ex_drop]
  have hfst := Lib.hid (fun k w => rfirst_any (s.drop k) w (by rw [List.length_drop]; omega))
  have hstep := Lib.hid (fun rs k (hk : k ≤ s.length) (h : scan s = (rs ++ (scan (s.drop k)).1, k + (scan (s.drop k)).2)) hf => scan_step hk h hf)
  obtain ⟨S, hS⟩ : ∃ S : ByteArray, S = ⟨s.toArray⟩ := ⟨_, rfl⟩
  rw [← hS] at hsz hsl ⊢
  have Hsl := Lib.hid hsl
  clear hS hsl
  go_enter Try.func140, Try.ntmps140
  go_wp2_with fail
  go_loopw [5, 6] (fun v i wr => ∃ (k : Nat) (rs : List Nat), k ≤ s.length ∧ rs.length ≤ k ∧ i = .int .i64 (k : Int) ∧ wr.ownsRow w.heap.size 21 1 v rs.length (rs.map e32) ∧ Hid (scan s = (rs ++ (scan (s.drop k)).1, k + (scan (s.drop k)).2)) ∧ Below w.heap.size w wr) (fun _ i _ => s.length - (intOf i).toNat)
  case atStart => exact ⟨0, [], by omega, by simp, rfl, own_nil _ _ _ _, Lib.hid (by simp), Below.refl _ _⟩
  case round =>
    obtain ⟨k, rs, hk, hrk, rfl, hown, hsc, bel⟩ := hrel
    by_cases hlt : k < s.length
    · have hsk := Hsl.out k hk
      have hfk := hfst.out k
      have hst := Lib.hid (hstep.out rs k hk hsc.out)
      have hno := Lib.hid (show (first (s.drop k)).2 = 0 → runesR s = ([], k, 4) from fun h => by
        have h2 := hsc.out
        rw [scan_no _ h] at h2
        unfold runesR
        rw [h2, if_neg (by simp only; omega)]
        simp)
      have hsz4 := fun h => first_size (s.drop k) h
      obtain ⟨F, hF⟩ : ∃ F, F = first (s.drop k) := ⟨_, rfl⟩
      rw [← hF] at hfk hst hno hsz4
      have hfk := Lib.hid hfk
      have hr1 := Lib.hid (show F.2 ≠ 0 → F.1 ≤ 1114111 from fun h => by
        have := (first_right (s.drop k) (by rw [← hF]; exact h)).1
        rw [← hF] at this
        unfold right at this
        exact (of_decide_eq_true this).1)
      clear hF
      obtain ⟨r, sz⟩ := F
      simp only at hst hno hsz4 hr1 hfk
      by_cases hz : sz = 0
      · subst hz
        have hru := Lib.hid (hno.out rfl)
        clear hno hst hsz4 hr1
        go_wp2_with (go_at_call 146; refine (hfk.out _).mono ?_; rintro e w2 ⟨rfl, b2⟩)
        go_ret3
        rw [hru.out]
        exact ⟨_, rfl, own_nil _ _ _ _, bt bel b2⟩
      · have h4 := hsz4 hz
        rw [List.length_drop] at h4
        obtain ⟨hst1, hst2⟩ := hst.out hz
        have Hst1 := Lib.hid hst1
        have hrb := hr1.out hz
        have hzI : ((sz : Int) == 0) = false := beq_no (by omega)
        have hw1 : wrap64 ((k : Int) + (sz : Int)) = (k : Int) + (sz : Int) := by unfold wrap64; omega
        clear hno hst hsz4 hr1 hst1 hz
        go_wp2_with (first
          | (go_at_call 146; refine (hfk.out _).mono ?_; rintro e w2 ⟨rfl, b2⟩; have own2 := own_on hown b2; have bw2 := bt bel b2)
          | (at_builtin; refine wpList_append_rd _ rfl _ _ _ rfl w.heap.size 21 i0 _ 1 4 Try.underlying197 hi0 hz0 hz1 hz2 rfl (by omega) _ rs.length _ rfl (own2.alloc _) _ _ 1 1 [e32 r] rfl rfl (Rd.lit w2 _ _ _ (w2.heap.size + 1) rfl (by omega)) (by intro u hu; simp at hu; subst hu; rfl) (by simp only [maxLen]; omega) (by omega) (le_alloc bw2.size _) ?_; intro v1 w3 hown3 hg3 hat3))
        go_roundw
        case rel => exact ⟨k + sz, rs ++ [r], hst2, by rw [List.length_append, List.length_singleton]; omega, by go_num, by rw [List.length_append, List.length_singleton, List.map_append]; exact hown3, Hst1, (bw2.alloc bw2.size _).grown hg3 (le_alloc bw2.size _) (fun g hg => own_block own2 hg)⟩
        case measure => simp [intOf]; omega
    · obtain rfl : k = s.length := by omega
      have hru := Lib.hid (show runesR s = (rs, 0, 0) by
        have h2 := hsc.out
        rw [List.drop_length, scan_nil] at h2
        unfold runesR
        rw [h2]
        simp)
      go_wp2_with fail
      go_ret3
      rw [hru.out]
      exact ⟨_, rfl, hown, bel⟩
end Go.Proofs.Ytdkcdojcglmlbaa.Utf
