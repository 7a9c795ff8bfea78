/- The walk of hex.Parse. -/
import Derived.Test.YtknjkafjeicmbaaHex
import Derived.Test.YtknjkafjeicmbaaHexBackPlain
import Derived.Outline
namespace Go.Proofs.Ytknjkafjeicmbaa.Hex
open Go.RowKit
set_option linter.unusedVariables false
set_option maxRecDepth 100000

theorem run_index_str {P : Program} (t : TypeId) (l : List UInt8) (k : Nat) (h : k < l.length) (hu : P.underlying t = some .string) (w : World) : (Instr.index t (.string ⟨l.toArray⟩) (.int .i64 (k : Int))).run P w = .ok (e8 l[k]) w := by
  have hs : (⟨l.toArray⟩ : ByteArray).size = l.length := by simp [ByteArray.size]
  rw [run_index_string (P := P) w t ⟨l.toArray⟩ .i64 (k : Int) hu, dif_pos ⟨by omega, by rw [hs]; omega⟩]
  rfl
set_option maxHeartbeats 400000 in
theorem value_any (c : UInt8) (w : World) : Calls Try.prog 76 #[e8 c] w fun e w' => e = .returned (.tuple #[e8 (vl c), .bool (val c).isSome]) ∧ w = w' := by
  have c0 : (0 : Int) ≤ (c.toNat : Int) := by omega
  have c1 : (c.toNat : Int) < 256 := by have := c.toNat_lt; omega
  have none' : (¬ (48 ≤ c.toNat ∧ c.toNat ≤ 57)) → (¬ (97 ≤ c.toNat ∧ c.toNat ≤ 102)) → (Ending.returned (.tuple #[.int .u8 0, .bool false]) = .returned (.tuple #[e8 (vl c), .bool (val c).isSome]) ) := by
    intro h1 h2
    have hv : val c = none := by rw [val, if_neg h1, if_neg h2]
    have hw : vl c = 0 := by rw [vl, hv]; rfl
    rw [hv, hw]
    rfl
  have high : (97 : Int) ≤ (c.toNat : Int) → (c.toNat : Int) ≤ 102 → (Ending.returned (.tuple #[.int .u8 ((c.toNat : Int) - 97 + 10), .bool true]) = .returned (.tuple #[e8 (vl c), .bool (val c).isSome]) ) := by
    intro h1 h2
    have hv : val c = some (c - 87) := by rw [val, if_neg (by omega), if_pos ⟨by omega, by omega⟩]
    have hn : (c - 87).toNat = c.toNat - 87 := by
      have : (87 : UInt8).toNat = 87 := rfl
      rw [UInt8.toNat_sub_of_le _ _ (UInt8.le_iff_toNat_le.2 (by omega))]; omega
    have hw : vl c = c - 87 := by rw [vl, hv]; rfl
    have hg : (c.toNat : Int) - 97 + 10 = ((c - 87).toNat : Int) := by rw [hn]; omega
    rw [hw, hv, hg]
    rfl
  have low : (48 : Int) ≤ (c.toNat : Int) → (c.toNat : Int) ≤ 57 → (Ending.returned (.tuple #[.int .u8 ((c.toNat : Int) - 48), .bool true]) = .returned (.tuple #[e8 (vl c), .bool (val c).isSome]) ) := by
    intro h1 h2
    have hv : val c = some (c - 48) := if_pos ⟨by omega, by omega⟩
    have hn : (c - 48).toNat = c.toNat - 48 := by
      have : (48 : UInt8).toNat = 48 := rfl
      rw [UInt8.toNat_sub_of_le _ _ (UInt8.le_iff_toNat_le.2 (by omega))]; omega
    have hw : vl c = c - 48 := by rw [vl, hv]; rfl
    have hg : (c.toNat : Int) - 48 = ((c - 48).toNat : Int) := by rw [hn]; omega
    rw [hw, hv, hg]
    rfl
  obtain ⟨R, hR⟩ : ∃ R, R = Value.tuple #[e8 (vl c), .bool (val c).isSome] := ⟨_, rfl⟩
  rw [← hR] at none' high low ⊢
  clear hR
  have N := Lib.hid none'
  have H := Lib.hid high
  have L := Lib.hid low
  clear none' high low
  by_cases h1 : (48 : Int) ≤ (c.toNat : Int)
  · by_cases h2 : (c.toNat : Int) ≤ 57
    · go_enter Try.func76, Try.ntmps76
      go_wp2
      go_ret2
      exact ⟨L.out h1 h2, rfl⟩
    · by_cases h3 : (97 : Int) ≤ (c.toNat : Int)
      · by_cases h4 : (c.toNat : Int) ≤ 102
        · go_enter Try.func76, Try.ntmps76
          go_wp2
          go_ret2
          exact ⟨H.out h3 h4, rfl⟩
        · go_enter Try.func76, Try.ntmps76
          go_wp2
          go_ret2
          exact ⟨N.out (by omega) (by omega), rfl⟩
      · go_enter Try.func76, Try.ntmps76
        go_wp2
        go_ret2
        exact ⟨N.out (by omega) (by omega), rfl⟩
  · have h3 : ¬ (97 : Int) ≤ (c.toNat : Int) := by omega
    go_enter Try.func76, Try.ntmps76
    go_wp2
    go_ret2
    exact ⟨N.out (by omega) (by omega), rfl⟩
/-- what Parse tells: the bytes, the place, the fault -/
def parse (s : List UInt8) : List UInt8 × Nat × Int :=
  match bad s with
  | some i => ([], i, 3)
  | none => if s.length % 2 = 0 then (outp s, 0, 0) else ([], s.length, 3)
theorem bad_none {s : List UInt8} (h : ∀ j (hj : j < s.length), (val s[j]).isSome = true) : bad s = none := by
  unfold bad
  rw [List.findIdx?_eq_none_iff]
  intro x hx
  obtain ⟨j, hj, rfl⟩ := List.getElem_of_mem hx
  simpa using h j hj
theorem bad_some {s : List UInt8} {i : Nat} (hi : i < s.length) (h : ∀ j (hj : j < i), (val (s[j]'(by omega))).isSome = true) (hb : (val s[i]).isSome = false) : bad s = some i := by
  unfold bad
  rw [List.findIdx?_eq_some_iff_getElem]
  refine ⟨hi, by simpa using hb, fun j hj => ?_⟩
  have := h j hj
  simp only [Bool.not_eq_true]
  rw [Option.isNone_eq_false_iff]; exact this
set_option maxHeartbeats 1000000 in
theorem parse_any (s : List UInt8) (w : World) (hl : s.length ≤ 1000000) :
    Calls Try.prog 61 #[.string ⟨s.toArray⟩] w fun e w' => ∃ v, e = .returned (.tuple #[v, .int .i64 ((parse s).2.1 : Int), .int .i64 (parse s).2.2]) ∧ w'.ownsRow w.heap.size 5 1 v (parse s).1.length ((parse s).1.map e8) ∧ Below w.heap.size w w' := by
  obtain ⟨i0, hi0, hz0, hz1, hz2⟩ := info_parts info8
  have hval : ∀ w, Sem.run Try.prog (callFunc 76 #[]) w = .ok (.enter 76 #[]) w := by intro w; simp [go_sem]
  obtain ⟨S, hS⟩ : ∃ S : ByteArray, S = ⟨s.toArray⟩ := ⟨_, rfl⟩
  have hsz : S.size = s.length := by rw [hS]; simp [ByteArray.size]
  have hget : ∀ k (h : k < S.size) (h' : k < s.length), S[k] = s[k] := by subst hS; intro k h h'; rfl
  rw [← hS]
  have Hget := Lib.hid hget
  clear hget hS
  go_enter Try.func61, Try.ntmps61
  go_wp2_with fail
  go_loopw [2, 6, 7, 12] (fun v h _ i wr => ∃ k : Nat, k ≤ s.length ∧ Hid (∀ j (hj : j < k) (hk : k ≤ s.length), (val (s[j]'(by omega))).isSome = true) ∧ i = .int .i64 k ∧ (∃ hb : UInt8, h = e8 hb ∧ Hid (∀ (hk : k ≤ s.length) (h1 : k % 2 = 1), hb = vl (s[k - 1]'(by omega)))) ∧ wr.ownsRow w.heap.size 5 1 v (k / 2) ((outp (s.take k)).map e8) ∧ Below w.heap.size w wr) (fun _ _ _ i _ => s.length - (intOf i).toNat)
  case atStart => exact ⟨0, by omega, Lib.hid (fun j hj => absurd hj (by omega)), rfl, ⟨0, rfl, Lib.hid (fun _ h => by omega)⟩, own_nil _ _ _ _, Below.refl _ _⟩
  case round =>
    obtain ⟨k, hk, hgood, rfl, ⟨hb, rfl, hhb⟩, hown, bel⟩ := hrel
    by_cases hlt : k < s.length
    · have hlt' : k < S.size := by omega
      have hkI : (k : Int) < (s.length : Int) := by omega
      have hix : (Instr.index 9 (.string S) (.int .i64 (k : Int))).run Try.prog wr = .ok (e8 s[k]) wr := by
        rw [run_index_string (P := Try.prog) wr 9 S .i64 (k : Int) Try.underlying9, dif_pos ⟨by omega, by omega⟩]
        simp only [Int.toNat_natCast, Hget.out k hlt' hlt]
      obtain ⟨c, hc⟩ : ∃ c, c = s[k] := ⟨_, rfl⟩
      rw [← hc] at hix
      have hcall := value_any c wr
      obtain ⟨is, his⟩ : ∃ is, is = (val c).isSome := ⟨_, rfl⟩
      rw [← his] at hcall
      have Hcall := Lib.hid hcall
      cases is
      · have hpb := Lib.hid (show parse s = ([], k, 3) by
          unfold parse; rw [bad_some hlt (fun j hj => hgood.out j hj hk) (by rw [← hc, ← his])])
        clear hc his hcall
        go_wp2_with fail
        refine Hcall.out.mono ?_
        rintro e w2 ⟨rfl, rfl⟩
        go_wp2
        go_ret3
        rw [hpb.out]
        exact ⟨_, rfl, own_nil _ _ _ _, bel⟩
      · have hgn := Lib.hid (show ∀ j (hj : j < k + 1) (hk : k + 1 ≤ s.length), (val (s[j]'(by omega))).isSome = true from fun j hj hk' => by
          rcases Nat.lt_or_ge j k with h | h
          · exact hgood.out j h hk
          · obtain rfl : j = k := by omega
            rw [← hc, ← his])
        have Hc := Lib.hid hc
        clear hc his hcall
        obtain ⟨x, hx⟩ : ∃ x, x = vl c := ⟨_, rfl⟩
        rw [← hx] at Hcall
        rcases Nat.mod_two_eq_zero_or_one k with h2 | h2
        · have he := Lib.hid (outp_even s k hlt h2)
          have t0 : ((k : Int) % 2 == 0) = true := by rw [beq_iff_eq]; omega
          have Hx := Lib.hid (show ∀ (hk : k + 1 ≤ s.length) (h1 : (k + 1) % 2 = 1), x = vl (s[k + 1 - 1]'(by exact hk)) from fun hk' _ => by
            rw [hx, Hc.out]; rfl)
          have h3 := Lib.hid (show (k + 1) / 2 = k / 2 by omega)
          clear hx h2
          go_wp2_with fail
          refine Hcall.out.mono ?_
          rintro e w2 ⟨rfl, rfl⟩
          go_wp2
          go_roundw
          case rel => exact ⟨k + 1, by omega, hgn, by go_num, ⟨x, rfl, Hx⟩, by rw [h3.out, he.out]; exact hown, bel⟩
          case measure => simp [intOf]; omega
        · have t0 : ((k : Int) % 2 == 0) = false := by rw [beq_eq_false_iff_ne]; omega
          have ho : Hid (outp (s.take (k + 1)) = outp (s.take k) ++ [hb <<< 4 ||| x]) := Lib.hid (by rw [outp_odd s k hlt h2, hhb.out hk h2, hx, Hc.out])
          have hb4 : hb.toNat < 16 := by rw [hhb.out hk h2]; exact vl_lt _
          have h3 := Lib.hid (show (k + 1) / 2 = k / 2 + 1 by omega)
          have h4 := Lib.hid (show ¬ (k + 1) % 2 = 1 by omega)
          clear h2
          have hx4 := vl_lt c
          rw [← hx] at hx4
          have hsh : bits .or .u8 ((hb.toNat : Int) * 16) (x.toNat : Int) = ((hb <<< 4 ||| x).toNat : Int) := by rw [← or8, UInt8.toNat_shiftLeft]; simp [Nat.shiftLeft_eq]; rw [Int.emod_eq_of_lt (by omega) (by omega)]
          have Hx := Lib.hid hx
          clear hx
          go_wp2_with fail
          refine Hcall.out.mono ?_
          rintro e w2 ⟨rfl, rfl⟩
          obtain ⟨y, hy⟩ : ∃ y, y = hb <<< 4 ||| x := ⟨_, rfl⟩
          rw [← hy] at hsh ho
          clear hy
          go_wp2_with (at_builtin; refine wpList_append_rd _ rfl _ _ _ rfl w.heap.size 5 i0 _ 1 1 Try.underlying22 hi0 hz0 hz1 hz2 rfl (by omega) _ (k / 2) _ rfl (hown.alloc _) _ _ 1 1 [e8 y] rfl rfl (Rd.lit wr _ _ _ (wr.heap.size + 1) rfl (by omega)) (by intro u hu; simp at hu; subst hu; rfl) (by simp only [maxLen]; omega) (by omega) (le_alloc bel.size _) ?_; intro v1 w3 hown3 hg3 hat3)
          go_roundw
          case rel => exact ⟨k + 1, by omega, hgn, by go_num, ⟨hb, rfl, Lib.hid (fun _ h => absurd h h4.out)⟩, by rw [h3.out, ho.out, List.map_append]; exact hown3, (bel.alloc bel.size _).grown hg3 (le_alloc bel.size _) (fun g hg => own_block hown hg)⟩
          case measure => simp [intOf]; omega
    · obtain rfl : k = s.length := by omega
      rw [List.take_length] at hown
      have hbn := Lib.hid (bad_none (s := s) (fun j hj => hgood.out j hj hk))
      rcases Nat.mod_two_eq_zero_or_one s.length with h2 | h2
      · have t0 : ((s.length : Int) % 2 != 0) = false := by rw [bne_eq_false_iff_eq]; omega
        have hp := Lib.hid (show parse s = (outp s, 0, 0) by unfold parse; rw [hbn.out]; simp [h2])
        clear h2
        go_wp2
        go_ret3
        rw [hp.out]
        exact ⟨_, rfl, by rw [outp_len]; exact hown, bel⟩
      · have t0 : ((s.length : Int) % 2 != 0) = true := by rw [bne_iff_ne]; omega
        have hp := Lib.hid (show parse s = ([], s.length, 3) by unfold parse; rw [hbn.out]; simp [h2])
        clear h2
        go_wp2
        go_ret3
        rw [hp.out]
        exact ⟨_, rfl, own_nil _ _ _ _, bel⟩
end Go.Proofs.Ytknjkafjeicmbaa.Hex
