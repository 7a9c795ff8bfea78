/- The walk of the program's Runes. -/
import Derived.Test.YtcagglcmikgdfaaDoorUtf4
import Derived.Test.YtcagglcmikgdfaaDoorUtfLays
import Derived.Lib.OthersKept
namespace Go.Proofs.YtcagglcmikgdfaaDoor.Utf
open Go.RowKit
set_option linter.unusedVariables false
set_option maxRecDepth 100000
theorem own_less {w : World} {base base' : Nat} {e : TypeId} {size : Nat} {v : Value} {n : Nat} {xs : List Value} (h : w.ownsRow base e size v n xs) (hb : base' ≤ base) : w.ownsRow base' e size v n xs := by
  refine ⟨h.1, ?_⟩
  rcases h.2 with h | ⟨g, cap, cur, rfl, hg, r⟩
  · exact .inl h
  · exact .inr ⟨g, cap, cur, rfl, by omega, r⟩
theorem keep_iterAt {w : World} {k : Nat} {s : ByteArray} {pos : Nat} : Keep [k] w (w.iterAt k s pos) :=
  ⟨rfl, rfl, rfl, by rw [Lib.iterAt_size]; exact Nat.le_refl _, fun j hj hn => Lib.iterAt_other w k j s pos (fun e => hn (by simp [e]))⟩
set_option maxHeartbeats 2000000 in
theorem runes_any (s : List UInt8) (w : World) (hl : s.length ≤ 1000000) (hT : Tabs w) :
    Calls Tryd.prog 7 #[.string ⟨s.toArray⟩] w fun e w' => ∃ v, e = .returned (.tuple #[v, .int .i64 ((runesR s).2.1 : Int), .int .i64 (runesR s).2.2]) ∧ w'.ownsRow w.heap.size 21 1 v (runesR s).1.length ((runesR s).1.map e32) ∧ Below w.heap.size w w' := by
  obtain ⟨i0, hi0, hz0, hz1, hz2⟩ := info_parts info32
  have hsz : (⟨s.toArray⟩ : ByteArray).size = s.length := ba_size s
  have hde := Lib.hid (fun pos => decode_eq s pos)
  have hsl : ∀ k : Nat, k ≤ s.length → ∀ w, (Instr.slice 9 (.string ⟨s.toArray⟩) (some (.int .i64 (k : Int))) none none).run Tryd.prog w = .ok (.string ⟨(s.drop k).toArray⟩) w := fun k hk w => by
    rw [run_slice_string_from_if (P := Tryd.prog) w 9 ⟨s.toArray⟩ .i64 (k : Int) Tryd.underlying9, if_pos ⟨by omega, by rw [ba_size]; omega⟩, ba_size, Int.toNat_natCast, ex_drop]
  have hnxt := Lib.hid (fun (wr : World) (b0 pos : Nat) (hk : wr.heap[b0]? = some (.stringIter ⟨s.toArray⟩ pos)) (h : pos < s.length) (ty : TypeId) => Lib.run_next_any_at (P := Tryd.prog) wr b0 ⟨s.toArray⟩ pos ty hk (by rw [ba_size]; exact h))
  have hend := Lib.hid (fun (wr : World) (b0 pos : Nat) (hk : wr.heap[b0]? = some (.stringIter ⟨s.toArray⟩ pos)) (h : ¬ pos < s.length) (ty : TypeId) => Lib.run_next_end_at (P := Tryd.prog) wr b0 ⟨s.toArray⟩ pos ty hk (by rw [ba_size]; exact h))
  have hstep := Lib.hid (fun rs k (hk : k ≤ s.length) (h : scan s = (rs ++ (scan (s.drop k)).1, k + (scan (s.drop k)).2)) hf => scan_step hk h hf)
  obtain ⟨S, hS⟩ : ∃ S : ByteArray, S = ⟨s.toArray⟩ := ⟨_, rfl⟩
  rw [← hS] at hsz hsl hnxt hend hde ⊢
  have Hsl := Lib.hid hsl
  clear hS hsl
  go_enter Tryd.func7, Tryd.ntmps7
  go_wp2_with fail
  go_loopw [2] (fun v wr => ∃ (k : Nat) (rs : List Nat), k ≤ s.length ∧ rs.length ≤ k ∧ wr.ownsRow (w.heap.size + 1) 21 1 v rs.length (rs.map e32) ∧ Hid (scan s = (rs ++ (scan (s.drop k)).1, k + (scan (s.drop k)).2)) ∧ wr.heap[w.heap.size]? = some (.stringIter S k) ∧ Below w.heap.size w wr) (fun _ wr => s.length - wr.iterPos w.heap.size)
  case atStart => exact ⟨0, [], by omega, by simp, own_nil _ _ _ _, Lib.hid (by simp), World.iter_heap w S 0, below_lit _ _⟩
  case round =>
    obtain ⟨k, rs, hk, hrk, hown, hsc, hit, bel⟩ := hrel
    have hitp : wr.iterPos w.heap.size = k := by simp [World.iterPos, hit]
    by_cases hlt : k < s.length
    · have hnx := hnxt.out wr _ k hit hlt
      rw [hde.out k] at hnx
      have hne : s.drop k ≠ [] := fun e => by have := congrArg List.length e; rw [List.length_drop] at this; simp at this; omega
      have hfd := Lib.hid (show (first (s.drop k)).2 = 0 ↔ dec (s.drop k) = (65533, 1) from dec_none hne)
      have hfs := Lib.hid (show (first (s.drop k)).2 ≠ 0 → dec (s.drop k) = first (s.drop k) from dec_some hne)
      have hst := Lib.hid (hstep.out rs k hk hsc.out)
      have hsz4 := fun h => first_size (s.drop k) h
      have hr1 := Lib.hid (show (first (s.drop k)).2 ≠ 0 → (first (s.drop k)).1 ≤ 1114111 from fun h => by
        have := (first_right (s.drop k) h).1
        unfold right at this
        exact (of_decide_eq_true this).1)
      have hno := Lib.hid (show (first (s.drop k)).2 = 0 → runesR s = ([], k, 4) from fun h => by
        have h2 := hsc.out
        rw [scan_no _ h] at h2
        unfold runesR
        rw [h2, if_neg (by simp only; omega)]
        simp)
      have hdc := Lib.hid (fun w (hT : Tabs w) => decode_any (s.drop k) w hne hT)
      have hsk := Hsl.out k hk
      obtain ⟨D, hD⟩ : ∃ D, D = dec (s.drop k) := ⟨_, rfl⟩
      rw [← hD] at hnx hfd hfs hdc
      clear hD hne
      obtain ⟨r, wd⟩ := D
      simp only [Prod.mk.injEq] at hnx hfd hdc
      -- where the text has a rune: one more
      have rest : ∀ (hf : (first (s.drop k)).2 ≠ 0), (r, wd) = first (s.drop k) ∧ k + wd ≤ s.length ∧ 1 ≤ wd ∧ r ≤ 1114111 ∧ scan s = ((rs ++ [r]) ++ (scan (s.drop (k + wd))).1, (k + wd) + (scan (s.drop (k + wd))).2) := fun hf => by
        have e := hfs.out hf
        have h1 := hst.out hf
        have h2 := hsz4 hf
        have h3 := hr1.out hf
        rw [← e] at h1 h2 h3
        exact ⟨e, h1.2, h2.1, h3, h1.1⟩
      have hT1 := Lib.hid (show Tabs (wr.iterAt w.heap.size S (k + wd)) from hT.on (Lib.below_iterAt bel (Nat.le_refl _) S (k + wd)))
      have hit1 := Lib.iterAt_heap wr w.heap.size S k (k + wd) hit
      have bel1 := Lib.below_iterAt bel (Nat.le_refl _) S (k + wd)
      have own1 := own_keep hown (keep_iterAt (w := wr) (k := w.heap.size) (s := S) (pos := k + wd)) (fun g hg e => by have := own_block hown hg; simp at e; omega)
      obtain ⟨W1, hW1⟩ : ∃ W1, W1 = wr.iterAt w.heap.size S (k + wd) := ⟨_, rfl⟩
      rw [← hW1] at hnx hT1 hit1 bel1 own1
      clear hW1 hfs hst hsz4 hr1 hown
      by_cases h5 : r = 65533
      · subst h5
        by_cases h6 : wd = 1
        · subst h6
          have hru := Lib.hid (hno.out (hfd.out.2 ⟨rfl, rfl⟩))
          clear hno hfd rest
          go_wp2_with (go_at_call 22; refine (hdc.out _ hT1.out).mono ?_; rintro e w2 ⟨rfl, b2⟩)
          go_ret3
          rw [hru.out]
          exact ⟨_, rfl, own_nil _ _ _ _, bt bel1 b2⟩
        · obtain ⟨_, q1, q2, _, q4⟩ := rest (fun h => h6 (hfd.out.1 h).2)
          have Q4 := Lib.hid q4
          have h2I : ¬ (wd : Int) < 2 := by omega
          clear hno hfd rest q4 h6
          go_wp2_with (first
            | (go_at_call 22; refine (hdc.out _ hT1.out).mono ?_; rintro e w2 ⟨rfl, b2⟩; have own2 := own_on own1 b2; have bw2 := bt bel1 b2; have hit2 := (b2.block _ (lt_of_block hit1)).trans hit1)
            | (at_builtin; refine wpList_append_rd _ rfl _ _ _ rfl (w.heap.size + 1) 21 i0 _ 1 4 Tryd.underlying22 hi0 hz0 hz1 hz2 rfl (by omega) _ rs.length _ rfl (own2.alloc _) _ _ 1 1 [e32 65533] rfl rfl (Rd.lit w2 _ _ _ (w2.heap.size + 1) rfl (by omega)) (by intro u hu; simp at hu; subst hu; rfl) (by simp only [maxLen]; omega) (by omega) (by have := bw2.size; have := lt_of_block hit2; simp; omega) ?_; intro v1 w3 hown3 hg3 hat3))
          have hit3 := (hg3.block w.heap.size (by have := lt_of_block hit2; simp; omega) (fun e => by have := own_block own2 e.symm; omega)).trans ((Below.heap_alloc _ _ _ (lt_of_block hit2)).trans hit2)
          have bw3 := (bw2.alloc bw2.size _).grown hg3 (le_alloc bw2.size _) (fun g hg => by have := own_block own2 hg; omega)
          go_roundw
          case rel => exact ⟨k + wd, rs ++ [65533], q1, by rw [List.length_append, List.length_singleton]; omega, by rw [List.length_append, List.length_singleton, List.map_append]; exact hown3, Q4, hit3, bw3⟩
          case measure => rw [hitp]; simp [World.iterPos, hit3]; omega
      · obtain ⟨_, q1, q2, q3, q4⟩ := rest (fun h => h5 (hfd.out.1 h).1)
        have Q4 := Lib.hid q4
        have h5I : ((r : Int) == 65533) = false := beq_no (by omega)
        clear hno hfd rest q4 h5
        go_wp2_with (at_builtin; refine wpList_append_rd _ rfl _ _ _ rfl (w.heap.size + 1) 21 i0 _ 1 4 Tryd.underlying22 hi0 hz0 hz1 hz2 rfl (by omega) _ rs.length _ rfl (own1.alloc _) _ _ 1 1 [e32 r] rfl rfl (Rd.lit W1 _ _ _ (W1.heap.size + 1) rfl (by omega)) (by intro u hu; simp at hu; subst hu; rfl) (by simp only [maxLen]; omega) (by omega) (by have := lt_of_block hit1; simp; omega) ?_; intro v1 w3 hown3 hg3 hat3)
        have hit3 := (hg3.block w.heap.size (by have := lt_of_block hit1; simp; omega) (fun e => by have := own_block own1 e.symm; omega)).trans ((Below.heap_alloc _ _ _ (lt_of_block hit1)).trans hit1)
        have bw3 := (bel1.alloc bel1.size _).grown hg3 (le_alloc bel1.size _) (fun g hg => by have := own_block own1 hg; omega)
        go_roundw
        case rel => exact ⟨k + wd, rs ++ [r], q1, by rw [List.length_append, List.length_singleton]; omega, by rw [List.length_append, List.length_singleton, List.map_append]; exact hown3, Q4, hit3, bw3⟩
        case measure => rw [hitp]; simp [World.iterPos, hit3]; omega
    · obtain rfl : k = s.length := by omega
      have hnx := hend.out wr _ s.length hit (by omega)
      have hru := Lib.hid (show runesR s = (rs, 0, 0) by
        have h2 := hsc.out
        rw [List.drop_length, scan_nil] at h2
        unfold runesR
        rw [h2]
        simp)
      go_wp2_with fail
      go_ret3
      rw [hru.out]
      exact ⟨_, rfl, own_less hown (Nat.le_succ _), bel⟩
end Go.Proofs.YtcagglcmikgdfaaDoor.Utf
