/- Parts of names: the program's and the reference's. -/
import Derived.Test.YtdkcdojcglmlbaaUtf4
import Derived.Laws.RangeAny
namespace Go.Proofs.Ytdkcdojcglmlbaa.Utf
open Go.RowKit
set_option linter.unusedVariables false
set_option maxRecDepth 100000
/-- is a text part of a name, of which n runes were seen? -/
def partN (l : List UInt8) (n : Nat) : Bool := decide ((scan l).2 = l.length ∧ (∀ r ∈ (scan l).1, smB (r : Int) = true) ∧ 1 ≤ n + (scan l).1.length ∧ n + (scan l).1.length ≤ 8)
def part (l : List UInt8) : Bool := partN l 0
theorem partN_nil (n : Nat) : partN [] n = decide (1 ≤ n ∧ n ≤ 8) := by
  unfold partN; rw [scan_nil]; simp
theorem partN_bad (l : List UInt8) (n : Nat) (hne : l ≠ []) (h : smB ((dec l).1 : Int) = false) : partN l n = false := by
  refine decide_eq_false ?_
  rintro ⟨h1, h2, _⟩
  by_cases hf : (first l).2 = 0
  · rw [scan_no l hf] at h1
    exact hne (List.eq_nil_of_length_eq_zero h1.symm)
  · rw [scan_yes l hf] at h2
    have := h2 (first l).1 (List.mem_cons_self ..)
    rw [← dec_some hne hf, h] at this
    exact Bool.noConfusion this
theorem sm_err : smB (65533 : Int) = false := by decide
theorem partN_good (l : List UInt8) (n : Nat) (hne : l ≠ []) (h : smB ((dec l).1 : Int) = true) : partN l n = partN (l.drop (dec l).2) (n + 1) ∧ 1 ≤ (dec l).2 ∧ (dec l).2 ≤ l.length := by
  have hf : (first l).2 ≠ 0 := fun h0 => by
    rw [(dec_none hne).1 h0] at h
    exact Bool.noConfusion (sm_err.symm.trans h)
  have hd := dec_some hne hf
  have hs := first_size l hf
  rw [hd] at h ⊢
  refine ⟨?_, hs.1, hs.2.2⟩
  unfold partN
  rw [scan_yes l hf]
  refine decide_eq_decide.2 ⟨fun ⟨h1, h2, h3, h4⟩ => ⟨?_, fun r hr => h2 r (List.mem_cons_of_mem _ hr), ?_, ?_⟩, fun ⟨h1, h2, h3, h4⟩ => ⟨?_, fun r hr => ?_, ?_, ?_⟩⟩
  · simp only at h1; rw [List.length_drop]; omega
  · simp only [List.length_cons] at h3; omega
  · simp only [List.length_cons] at h4; omega
  · rw [List.length_drop] at h1; simp only; omega
  · rcases List.mem_cons.1 hr with rfl | hr
    · exact h
    · exact h2 r hr
  · simp only [List.length_cons]; omega
  · simp only [List.length_cons]; omega
set_option maxHeartbeats 1000000 in
theorem part_any (s : List UInt8) (w : World) (hl : s.length ≤ 1000000) : Calls Try.prog 145 #[.string ⟨s.toArray⟩] w fun e w' => e = .returned (.bool (part s)) ∧ Below w.heap.size w w' := by
  have hsz : (⟨s.toArray⟩ : ByteArray).size = s.length := ba_size s
  have hde := Lib.hid (fun pos => decode_eq s pos)
  have hnxt := Lib.hid (fun pos (h : pos < s.length) (ty : TypeId) => run_next_any (P := Try.prog) w ⟨s.toArray⟩ pos ty (by rw [ba_size]; exact h))
  have hend := Lib.hid (fun pos (h : ¬ pos < s.length) (ty : TypeId) => run_next_end (P := Try.prog) w ⟨s.toArray⟩ pos ty (by rw [ba_size]; exact h))
  obtain ⟨S, hS⟩ : ∃ S : ByteArray, S = ⟨s.toArray⟩ := ⟨_, rfl⟩
  rw [← hS] at hsz hnxt hend hde ⊢
  clear hS
  go_enter Try.func145, Try.ntmps145
  go_wp2_with fail
  go_loopw [3] (fun n w' => ∃ (pos k : Nat), w' = w.iter S pos ∧ n = .int .i64 (k : Int) ∧ Hid (part s = partN (s.drop pos) k) ∧ pos ≤ s.length ∧ k ≤ pos) (fun _ w' => s.length - w'.iterPos w.heap.size)
  case atStart => exact ⟨0, 0, rfl, rfl, Lib.hid (by rw [List.drop_zero]; rfl), by omega, by omega⟩
  case round =>
    obtain ⟨pos, k, rfl, rfl, hp, hle, hk⟩ := hrel
    by_cases hlt : pos < s.length
    · have hnx := hnxt.out pos hlt
      rw [hde.out pos] at hnx
      have hne : s.drop pos ≠ [] := fun e => by have := congrArg List.length e; rw [List.length_drop] at this; simp at this; omega
      have hbad := Lib.hid (partN_bad (s.drop pos) k hne)
      have hgood := Lib.hid (partN_good (s.drop pos) k hne)
      obtain ⟨D, hD⟩ : ∃ D, D = dec (s.drop pos) := ⟨_, rfl⟩
      rw [← hD] at hnx hbad hgood
      clear hD hne
      obtain ⟨r, wd⟩ := D
      simp only at hnx hbad hgood
      have hsm := Lib.hid (fun w => small_any (r : Int) w)
      cases hb : smB (r : Int) with
      | false =>
        have he := Lib.hid (show part s = false from hp.out.trans (hbad.out hb))
        rw [hb] at hsm
        clear hb hbad hgood
        go_wp2_with (go_at_call 150; refine (hsm.out _).mono ?_; rintro e w2 ⟨rfl, rfl⟩)
        go_ret
        exact ⟨bool_ret he.out, below_lit _ _⟩
      | true =>
        obtain ⟨he, h1, h2⟩ := hgood.out hb
        have he := Lib.hid (hp.out.trans he)
        rw [List.drop_drop] at he
        rw [List.length_drop] at h2
        rw [hb] at hsm
        clear hb hbad hgood
        have hw1 : wrap64 ((k : Int) + 1) = (k : Int) + 1 := by unfold wrap64; omega
        go_wp2_with (go_at_call 150; refine (hsm.out _).mono ?_; rintro e w2 ⟨rfl, rfl⟩)
        go_roundw
        case rel => exact ⟨pos + wd, k + 1, rfl, by go_num, he, by omega, by omega⟩
        case measure => simp; omega
    · obtain rfl : pos = s.length := by omega
      have hnx := hend.out s.length (by omega)
      have he := hp.out
      rw [List.drop_length, partN_nil] at he
      rcases (show k < 1 ∨ (1 ≤ k ∧ 8 < k) ∨ (1 ≤ k ∧ k ≤ 8) by omega) with c1 | ⟨c1, c2⟩ | ⟨c1, c2⟩
      all_goals (first | (have he2 := Lib.hid (he.trans (decide_eq_false (by omega)))) | (have he2 := Lib.hid (he.trans (decide_eq_true (by omega)))))
      all_goals (first | (have c1I : (1 : Int) ≤ (k : Int) := (by omega)) | (have c1I : ¬ (1 : Int) ≤ (k : Int) := (by omega)))
      all_goals (first | (have c2I : (k : Int) ≤ 8 := (by omega)) | (have c2I : ¬ (k : Int) ≤ 8 := (by omega)))
      all_goals
        clear he
        go_wp2_with fail
        go_ret
        exact ⟨bool_ret (he2.out.trans (by first | rfl | (simp <;> omega))), below_lit _ _⟩
set_option maxHeartbeats 1000000 in
theorem rpart_any (s : List UInt8) (w : World) (hl : s.length ≤ 1000000) : Calls Try.prog 124 #[.string ⟨s.toArray⟩] w fun e w' => e = .returned (.bool (part s)) ∧ Below w.heap.size w w' := by
  have hru := rrunes_any s w hl
  have hpt : part s = decide ((scan s).2 = s.length ∧ (∀ r ∈ (scan s).1, smB (r : Int) = true) ∧ 1 ≤ 0 + (scan s).1.length ∧ 0 + (scan s).1.length ≤ 8) := rfl
  by_cases hok : (scan s).2 = s.length
  · have hrr : runesR s = ((scan s).1, 0, 0) := if_pos hok
    rw [hrr] at hru
    obtain ⟨rs, hrs⟩ : ∃ rs, rs = (scan s).1 := ⟨_, rfl⟩
    rw [← hrs] at hru hpt
    have hpt2 : part s = decide ((∀ r ∈ rs, smB (r : Int) = true) ∧ 1 ≤ rs.length ∧ rs.length ≤ 8) := hpt.trans (decide_eq_decide.2 ⟨fun ⟨_, h2, h3, h4⟩ => ⟨h2, by omega, by omega⟩, fun ⟨h2, h3, h4⟩ => ⟨hok, h2, by omega, by omega⟩⟩)
    have Hru := Lib.hid hru
    clear hrs hpt hok hrr hru
    rcases (show rs.length < 1 ∨ (1 ≤ rs.length ∧ 8 < rs.length) ∨ (1 ≤ rs.length ∧ rs.length ≤ 8) by omega) with c1 | ⟨c1, c2⟩ | ⟨c1, c2⟩
    · have he := Lib.hid (hpt2.trans (decide_eq_false (by omega)))
      have c1I : (rs.length : Int) < 1 := by omega
      clear hpt2
      go_enter Try.func124, Try.ntmps124
      go_wp2_with (go_at_call 140; refine (Hru.out).mono ?_; rintro e w2 ⟨v2, rfl, own2, b2⟩; obtain ⟨A2, c2, rfl⟩ := own_form own2)
      go_ret
      exact ⟨bool_ret he.out, b2⟩
    · have he := Lib.hid (hpt2.trans (decide_eq_false (by omega)))
      have c1I : ¬ (rs.length : Int) < 1 := by omega
      have c2I : (8 : Int) < (rs.length : Int) := by omega
      clear hpt2
      go_enter Try.func124, Try.ntmps124
      go_wp2_with (go_at_call 140; refine (Hru.out).mono ?_; rintro e w2 ⟨v2, rfl, own2, b2⟩; obtain ⟨A2, c2, rfl⟩ := own_form own2)
      go_ret
      exact ⟨bool_ret he.out, b2⟩
    · have hpt3 : part s = decide (∀ r ∈ rs, smB (r : Int) = true) := hpt2.trans (decide_eq_decide.2 ⟨fun h => h.1, fun h => ⟨h, c1, c2⟩⟩)
      have Hpt := Lib.hid hpt3
      have c1I : ¬ (rs.length : Int) < 1 := by omega
      have c2I : ¬ (8 : Int) < (rs.length : Int) := by omega
      clear hpt2 hpt3
      go_enter Try.func124, Try.ntmps124
      go_wp2_with (go_at_call 140; refine (Hru.out).mono ?_; rintro e w2 ⟨v2, rfl, own2, b2⟩; obtain ⟨A2, c2, rfl⟩ := own_form own2)
      have hR2 := Rd.own own2
      clear own2
      go_wp2_with fail
      go_loopw [6] (fun i wr => ∃ k : Nat, k ≤ rs.length ∧ i = .int .i64 (k : Int) ∧ Hid (∀ j (hj : j < k) (h : k ≤ rs.length), smB ((rs[j]'(by omega) : Nat) : Int) = true) ∧ wr = w2) (fun i _ => rs.length - (intOf i).toNat)
      case atStart => exact ⟨0, by omega, rfl, Lib.hid (fun j hj => absurd hj (by omega)), rfl⟩
      case round =>
        obtain ⟨k, hk, rfl, hgood, rfl⟩ := hrel
        by_cases hlt : k < rs.length
        · obtain ⟨b, off, rfl, hb, hcell⟩ := hR2.get (k := k) (by simpa using hlt)
          have hsm := Lib.hid (fun w => rsmall_any ((rs[k] : Nat) : Int) w)
          rw [List.getElem_map] at hcell
          obtain ⟨r, hr⟩ : ∃ r, r = rs[k] := ⟨_, rfl⟩
          rw [← hr] at hsm
          have hcell2 : wr.cell? ⟨b, off + k, none⟩ = some (.int .i32 (r : Int)) := by rw [hcell, hr]
          have Hr := Lib.hid hr
          clear hr hcell
          have hkI : (k : Int) < (rs.length : Int) := by omega
          cases hsb : smB (r : Int) with
          | false =>
            have he := Lib.hid (show part s = false from Hpt.out.trans (decide_eq_false (fun h => by
              have := h rs[k] (List.getElem_mem hlt)
              rw [← Hr.out, hsb] at this
              exact Bool.noConfusion this)))
            rw [hsb] at hsm
            clear hsb
            go_wp2_with (go_at_call 141; refine (hsm.out _).mono ?_; rintro e w3 ⟨rfl, rfl⟩)
            go_ret
            exact ⟨bool_ret he.out, b2⟩
          | true =>
            have hg2 := Lib.hid (show ∀ j (hj : j < k + 1) (h : k + 1 ≤ rs.length), smB ((rs[j]'(by omega) : Nat) : Int) = true from fun j hj h => by
              rcases Nat.lt_or_ge j k with h2 | h2
              · exact hgood.out j h2 (by omega)
              · obtain rfl : j = k := (by omega)
                rw [← Hr.out]; exact hsb)
            rw [hsb] at hsm
            clear hsb
            go_wp2_with (go_at_call 141; refine (hsm.out _).mono ?_; rintro e w3 ⟨rfl, rfl⟩)
            go_roundw
            case rel => exact ⟨k + 1, by omega, by go_num, hg2, (by first | rfl | trivial)⟩
            case measure => simp [intOf]; omega
        · obtain rfl : k = rs.length := by omega
          have he := Lib.hid (show part s = true from Hpt.out.trans (decide_eq_true (fun r hr => by
            obtain ⟨j, hj, rfl⟩ := List.getElem_of_mem hr
            exact hgood.out j hj (by omega))))
          go_wp2_with fail
          go_ret
          exact ⟨bool_ret he.out, b2⟩
  · have hrr : runesR s = ([], (scan s).2, 4) := if_neg hok
    rw [hrr] at hru
    have he := Lib.hid (hpt.trans (decide_eq_false (fun h => hok h.1)))
    have Hru := Lib.hid hru
    clear hrr hru hpt
    go_enter Try.func124, Try.ntmps124
    go_wp2_with (go_at_call 140; refine (Hru.out).mono ?_; rintro e w2 ⟨v2, rfl, own2, b2⟩; obtain ⟨A2, c2, rfl⟩ := own_form own2)
    go_ret
    exact ⟨bool_ret he.out, b2⟩
end Go.Proofs.Ytdkcdojcglmlbaa.Utf
