/- The walks of Text, both sides. -/
import Derived.Test.YtcagglcmikgdfaaDoorUtf6
import Derived.Shelf.Strings.BuilderRune
import Derived.Shelf.Strings.BuilderK
namespace Go.Proofs.YtcagglcmikgdfaaDoor.Utf
open Go.RowKit Go.Shelf
set_option linter.unusedVariables false
set_option maxRecDepth 100000
def laysWR_ren : Go.Shelf.Ren := ⟨fun | 168 => 25 | 240 => 32 | 242 => 33 | 276 => 35 | 278 => 36 | n => n, fun | 70 => 39 | 21 => 21 | 3 => 3 | 75 => 44 | 0 => 0 | 72 => 42 | 37 => 40 | 4 => 4 | 164 => 59 | 51 => 61 | 5 => 5 | 46 => 58 | 80 => 47 | 9 => 9 | n => n, fun | n => n⟩
theorem laysWR : Go.Proofs.Lays.n168 Tryd.prog laysWR_ren := {
  mixed := by kernel_rfl,
  f168 := Tryd.func25.trans (congrArg some (by kernel_rfl)),
  f240 := Tryd.func32.trans (congrArg some (by kernel_rfl)),
  f242 := Tryd.func33.trans (congrArg some (by kernel_rfl)),
  f276 := Tryd.func35.trans (congrArg some (by kernel_rfl)),
  f278 := Tryd.func36.trans (congrArg some (by kernel_rfl)),
  t0 := Tryd.underlying0,
  a0 := Tryd.isAgg0,
  z0 := Tryd.sizeOf0,
  v0 := Tryd.zeroValue0,
  t3 := Tryd.underlying3,
  a3 := Tryd.isAgg3,
  z3 := Tryd.sizeOf3,
  v3 := Tryd.zeroValue3,
  t4 := Tryd.underlying4,
  a4 := Tryd.isAgg4,
  z4 := Tryd.sizeOf4,
  v4 := Tryd.zeroValue4,
  t5 := Tryd.underlying5,
  a5 := Tryd.isAgg5,
  z5 := Tryd.sizeOf5,
  v5 := Tryd.zeroValue5,
  t9 := Tryd.underlying9,
  a9 := Tryd.isAgg9,
  z9 := Tryd.sizeOf9,
  v9 := Tryd.zeroValue9,
  t20 := Tryd.underlying20,
  a20 := Tryd.isAgg20,
  z20 := Tryd.sizeOf20,
  v20 := Tryd.zeroValue20,
  t21 := Tryd.underlying21,
  a21 := Tryd.isAgg21,
  z21 := Tryd.sizeOf21,
  v21 := Tryd.zeroValue21,
  t37 := Tryd.underlying40,
  a37 := Tryd.isAgg40,
  z37 := Tryd.sizeOf40,
  v37 := Tryd.zeroValue40,
  t46 := Tryd.underlying58,
  a46 := Tryd.isAgg58,
  z46 := Tryd.sizeOf58,
  v46 := Tryd.zeroValue58,
  t51 := Tryd.underlying61,
  a51 := Tryd.isAgg61,
  z51 := Tryd.sizeOf61,
  v51 := Tryd.zeroValue61,
  t70 := Tryd.underlying39,
  a70 := Tryd.isAgg39,
  z70 := Tryd.sizeOf39,
  v70 := Tryd.zeroValue39,
  t72 := Tryd.underlying42,
  a72 := Tryd.isAgg42,
  z72 := Tryd.sizeOf42,
  v72 := Tryd.zeroValue42,
  t75 := Tryd.underlying44,
  a75 := Tryd.isAgg44,
  z75 := Tryd.sizeOf44,
  v75 := Tryd.zeroValue44,
  t164 := Tryd.underlying59,
  a164 := Tryd.isAgg59,
  z164 := Tryd.sizeOf59,
  v164 := Tryd.zeroValue59 }
def laysStr_ren : Go.Shelf.Ren := ⟨fun | 169 => 26 | n => n, fun | 70 => 39 | 9 => 9 | 0 => 0 | 72 => 42 | 37 => 40 | 127 => 52 | 3 => 3 | 5 => 5 | n => n, fun | n => n⟩
theorem laysStr : Go.Proofs.Lays.n169 Tryd.prog laysStr_ren := {
  mixed := by kernel_rfl,
  f169 := Tryd.func26.trans (congrArg some (by kernel_rfl)),
  t0 := Tryd.underlying0,
  a0 := Tryd.isAgg0,
  z0 := Tryd.sizeOf0,
  v0 := Tryd.zeroValue0,
  t3 := Tryd.underlying3,
  a3 := Tryd.isAgg3,
  z3 := Tryd.sizeOf3,
  v3 := Tryd.zeroValue3,
  t9 := Tryd.underlying9,
  a9 := Tryd.isAgg9,
  z9 := Tryd.sizeOf9,
  v9 := Tryd.zeroValue9,
  t37 := Tryd.underlying40,
  a37 := Tryd.isAgg40,
  z37 := Tryd.sizeOf40,
  v37 := Tryd.zeroValue40,
  t70 := Tryd.underlying39,
  a70 := Tryd.isAgg39,
  z70 := Tryd.sizeOf39,
  v70 := Tryd.zeroValue39,
  t72 := Tryd.underlying42,
  a72 := Tryd.isAgg42,
  z72 := Tryd.sizeOf42,
  v72 := Tryd.zeroValue42,
  t127 := Tryd.underlying52,
  a127 := Tryd.isAgg52,
  z127 := Tryd.sizeOf52,
  v127 := Tryd.zeroValue52 }
theorem extraWR : Builder.Extra Tryd.prog laysWR_ren := ⟨⟨by kernel_rfl, by kernel_rfl⟩, Tryd.underlying5, Tryd.isAgg5, Tryd.sizeOf5, Tryd.zeroValue5, by kernel_rfl, by kernel_rfl, by kernel_rfl, by decide⟩
theorem extraStr : Builder.Extra Tryd.prog laysStr_ren := ⟨⟨by kernel_rfl, by kernel_rfl⟩, Tryd.underlying5, Tryd.isAgg5, Tryd.sizeOf5, Tryd.zeroValue5, by kernel_rfl, by kernel_rfl, by kernel_rfl, by decide⟩
theorem info8 : (Tryd.prog.info? 5).map (fun i => (i.zero, i.size, i.bytes)) = some (some (.int .u8 0), 1, 1) := by kernel_rfl
theorem enc_eq {r : Int} (h : riB r = true) : Lib.encodeRune r = enc r.toNat := by
  have h1 : 0 ≤ r ∧ r ≤ 1114111 ∧ (r < 55296 ∨ 57343 < r) := of_decide_eq_true h
  obtain ⟨n, rfl⟩ : ∃ n : Nat, r = (n : Int) := ⟨r.toNat, by omega⟩
  rw [Int.toNat_natCast]
  have e8' : ∀ (x : Int) (a : Nat), x = (a : Int) → x.toNat.toUInt8 = UInt8.ofNat a := fun x a h => by rw [h]; rfl
  unfold Lib.encodeRune enc
  rcases (show n < 128 ∨ (128 ≤ n ∧ n < 2048) ∨ (2048 ≤ n ∧ n < 65536) ∨ 65536 ≤ n by omega) with c | ⟨c0, c⟩ | ⟨c0, c⟩ | c0
  · rw [Lib.encodeRuneZ_one (by omega) (by omega), if_pos c]; rfl
  · rw [Lib.encodeRuneZ_two (by omega) (by omega), if_neg (by omega), if_pos c]
    exact cons_eq (e8' _ _ (by omega)) (cons_eq (e8' _ _ (by omega)) rfl)
  · rw [Lib.encodeRuneZ_three (by omega), if_neg (by omega), if_neg (by omega), if_pos c]
    exact cons_eq (e8' _ _ (by omega)) (cons_eq (e8' _ _ (by omega)) (cons_eq (e8' _ _ (by omega)) rfl))
  · rw [Lib.encodeRuneZ_four (by omega) (by omega), if_neg (by omega), if_neg (by omega), if_neg (by omega)]
    exact cons_eq (e8' _ _ (by omega)) (cons_eq (e8' _ _ (by omega)) (cons_eq (e8' _ _ (by omega)) (cons_eq (e8' _ _ (by omega)) rfl)))
theorem valid_ri (r : Int) : Lib.validRune r = riB r := by
  unfold Lib.validRune riB
  rw [Bool.eq_iff_iff]
  simp
  omega
theorem validRune_any (r : Int) (w : World) : Calls Tryd.prog 24 #[.int .i32 r] w fun e w' => e = .returned (.bool (riB r)) ∧ w' = w := by
  have h := Any.utf8_ValidRune laysVR r w
  rw [valid_ri] at h
  exact h
/-- what Text tells -/
def textZ (l : List Int) : List UInt8 × Nat × Int :=
  match l.findIdx? (fun r => !riB r) with
  | some i => ([], i, 4)
  | none => (encs (l.map Int.toNat), 0, 0)
theorem textZ_bad {l : List Int} {k : Nat} (hk : k < l.length) (h : ∀ j (hj : j < k), riB (l[j]'(by omega)) = true) (hb : riB l[k] = false) : textZ l = ([], k, 4) := by
  have : l.findIdx? (fun r => !riB r) = some k := by
    rw [List.findIdx?_eq_some_iff_getElem]
    exact ⟨hk, by simp [hb], fun j hj => by simp [h j hj]⟩
  unfold textZ; rw [this]
theorem textZ_good {l : List Int} (h : ∀ r ∈ l, riB r = true) : textZ l = (encs (l.map Int.toNat), 0, 0) := by
  have : l.findIdx? (fun r => !riB r) = none := by
    rw [List.findIdx?_eq_none_iff]
    intro r hr
    simp [h r hr]
  unfold textZ; rw [this]
theorem enc_le (r : Nat) : (enc r).length ≤ 4 := by rw [enc_len]; unfold width; split <;> (try split) <;> (try split) <;> omega
theorem encs_le : ∀ (rs : List Nat), (encs rs).length ≤ 4 * rs.length
  | [] => by simp [encs]
  | r :: rs => by
    have h1 := enc_le r
    have h2 := encs_le rs
    rw [encs_cons, List.length_append, List.length_cons]; omega
set_option maxHeartbeats 1000000 in
theorem text_any (A : Option Addr) (l : List Int) (n c : Nat) (w : World) (hn : n = l.length) (hr : Rd w w.heap.size A (l.map (Value.int .i32))) (hb : ∀ r ∈ l, -2147483648 ≤ r ∧ r ≤ 2147483647) (hl : l.length ≤ 1000000) :
    Calls Tryd.prog 9 #[.slice A n c] w fun e w' => e = .returned (.tuple #[.string ⟨(textZ l).1.toArray⟩, .int .i64 ((textZ l).2.1 : Int), .int .i64 (textZ l).2.2]) ∧ Below w.heap.size w w' := by
  subst hn
  have hwr := Lib.hid (fun W bs r h0 h1 h2 h3 h4 => Any.Builder_WriteRune_k laysWR extraWR w.heap.size w.heap.size bs r h0 h1 W h2 h3 h4)
  have hst := Lib.hid (fun W u h2 h4 => Any.Builder_String_any_k laysStr extraStr w.heap.size w.heap.size u W h2 h4)
  have hvr := Lib.hid (fun r W => validRune_any r W)
  go_enter Tryd.func9, Tryd.ntmps9
  go_wp2_with fail
  go_loopw [10] (fun i wr => ∃ k : Nat, k ≤ l.length ∧ i = .int .i64 (k : Int) ∧ Hid (∀ j (hj : j < k) (h : k ≤ l.length), riB (l[j]'(by omega)) = true) ∧ Lib.IsBuilderF 42 5 w.heap.size w.heap.size (Lib.byteCells (encs ((l.take k).map Int.toNat))) wr ∧ Below w.heap.size w wr) (fun i _ => l.length - (intOf i).toNat)
  case atStart => exact ⟨0, by omega, rfl, Lib.hid (fun j hj => absurd hj (by omega)), .inl ⟨Nat.le_refl _, .slice none 0 0, heap_alloc_new w _, World.ownsRowF_of (own_nil _ _ _ _), by simp [Value.ownBlock]⟩, below_lit _ _⟩
  case round =>
    obtain ⟨k, hk, rfl, hgood, hB, bel⟩ := hrel
    by_cases hlt : k < l.length
    · obtain ⟨b, off, rfl, hbb, hcell⟩ := (hr.below bel).get (k := k) (by simpa using hlt)
      rw [List.getElem_map] at hcell
      have hrb := hb l[k] (List.getElem_mem hlt)
      have htk : (l.take (k + 1)).map Int.toNat = (l.take k).map Int.toNat ++ [l[k].toNat] := by rw [List.take_succ_eq_append_getElem hlt, List.map_append]; rfl
      have hlen : (Lib.byteCells (encs ((l.take k).map Int.toNat))).length + 4 ≤ 140737488355328 := by
        rw [Lib.byteCells_length]
        have := encs_le ((l.take k).map Int.toNat)
        rw [List.length_map, List.length_take] at this
        omega
      have hbad := Lib.hid (fun h => textZ_bad hlt (fun j hj => hgood.out j hj hk) h)
      have hg2 := Lib.hid (fun (h1 : riB l[k] = true) => show ∀ j (hj : j < k + 1) (h : k + 1 ≤ l.length), riB (l[j]'(by omega)) = true from fun j hj h => by
        rcases Nat.lt_or_ge j k with h2 | h2
        · exact hgood.out j h2 (by omega)
        · obtain rfl : j = k := (by omega)
          exact h1)
      obtain ⟨r, hr'⟩ : ∃ r, r = l[k] := ⟨_, rfl⟩
      rw [← hr'] at hcell hrb htk hbad hg2
      have Htk := Lib.hid htk
      clear hr' htk
      have hkI : (k : Int) < (l.length : Int) := by omega
      have hv := hvr.out r
      have hbw : b < wr.heap.size := Nat.lt_of_lt_of_le hbb bel.size
      cases hri : riB r with
      | false =>
        have he := Lib.hid (hbad.out hri)
        rw [hri] at hv
        have Hv := Lib.hid hv
        clear hv hri hbad hg2
        go_wp2_with (go_at_call 24; refine (Hv.out _).mono ?_; rintro e w2 ⟨rfl, rfl⟩)
        go_ret3
        rw [he.out]
        exact ⟨rfl, bel⟩
      | true =>
        have hgn := Lib.hid (hg2.out hri)
        have hec := Lib.hid (show Lib.byteCells (encs ((l.take k).map Int.toNat)) ++ Lib.runeCells r = Lib.byteCells (encs ((l.take (k + 1)).map Int.toNat)) by
          rw [Htk.out, encs_snoc, ← Lib.byteCells_encodeRune, enc_eq hri]
          unfold Lib.byteCells
          rw [List.map_append])
        rw [hri] at hv
        have Hv := Lib.hid hv
        have hW := Lib.hid (hwr.out wr _ r hrb.1 hrb.2 hB hlen bel.size)
        clear hv hri hbad hg2 hB hlen
        go_wp2_with (first
          | (go_at_call 24; refine (Hv.out _).mono ?_; rintro e w2 ⟨rfl, rfl⟩)
          | (go_at_call 25; refine (hW.out).mono ?_; rintro e w3 ⟨rfl, hB3, b3, _⟩))
        go_roundw
        case rel => exact ⟨k + 1, by omega, by go_num, hgn, .inr (by rw [← hec.out]; exact hB3), bel.trans b3⟩
        case measure => simp [intOf]; omega
    · obtain rfl : k = l.length := by omega
      have he := Lib.hid (textZ_good (l := l) (fun r hr => by
        obtain ⟨j, hj, rfl⟩ := List.getElem_of_mem hr
        exact hgood.out j hj (by omega)))
      rw [List.take_length] at hB
      have hS := Lib.hid (hst.out wr _ hB bel.size)
      clear hB
      go_wp2_with (go_at_call 26; refine (hS.out).mono ?_; rintro e w2 ⟨rfl, _, b2, _⟩)
      go_ret3
      rw [he.out]
      exact ⟨rfl, bel.trans b2⟩
set_option maxHeartbeats 1000000 in
theorem rtext_any (A : Option Addr) (l : List Int) (n c : Nat) (w : World) (hn : n = l.length) (hr : Rd w w.heap.size A (l.map (Value.int .i32))) (hl : l.length ≤ 1000000) :
    Calls Tryd.prog 10 #[.slice A n c] w fun e w' => e = .returned (.tuple #[.string ⟨(textZ l).1.toArray⟩, .int .i64 ((textZ l).2.1 : Int), .int .i64 (textZ l).2.2]) ∧ Below w.heap.size w w' := by
  subst hn
  obtain ⟨i0, hi0, hz0, hz1, hz2⟩ := info_parts info8
  have hrr := Lib.hid (fun r W => rright_any r W)
  go_enter Tryd.func10, Tryd.ntmps10
  go_wp2_with fail
  go_loopw [5, 6] (fun v i wr => ∃ k : Nat, k ≤ l.length ∧ i = .int .i64 (k : Int) ∧ Hid (∀ j (hj : j < k) (h : k ≤ l.length), riB (l[j]'(by omega)) = true) ∧ (∃ bs : List UInt8, Hid (bs = encs ((l.take k).map Int.toNat)) ∧ bs.length ≤ 4 * k ∧ wr.ownsRow w.heap.size 5 1 v bs.length (bs.map e8)) ∧ Below w.heap.size w wr) (fun _ i _ => l.length - (intOf i).toNat)
  case atStart => exact ⟨0, by omega, rfl, Lib.hid (fun j hj => absurd hj (by omega)), ⟨[], Lib.hid rfl, by simp, own_nil _ _ _ _⟩, Below.refl _ _⟩
  case round =>
    obtain ⟨k, hk, rfl, hgood, ⟨bs, hbs, hbl, hown⟩, bel⟩ := hrel
    by_cases hlt : k < l.length
    · obtain ⟨b, off, rfl, hbb, hcell⟩ := (hr.below bel).get (k := k) (by simpa using hlt)
      rw [List.getElem_map] at hcell
      have htk : (l.take (k + 1)).map Int.toNat = (l.take k).map Int.toNat ++ [l[k].toNat] := by rw [List.take_succ_eq_append_getElem hlt, List.map_append]; rfl
      have hbad := Lib.hid (fun h => textZ_bad hlt (fun j hj => hgood.out j hj hk) h)
      have hg2 := Lib.hid (fun (h1 : riB l[k] = true) => show ∀ j (hj : j < k + 1) (h : k + 1 ≤ l.length), riB (l[j]'(by omega)) = true from fun j hj h => by
        rcases Nat.lt_or_ge j k with h2 | h2
        · exact hgood.out j h2 (by omega)
        · obtain rfl : j = k := (by omega)
          exact h1)
      obtain ⟨r, hr'⟩ : ∃ r, r = l[k] := ⟨_, rfl⟩
      rw [← hr'] at hcell htk hbad hg2
      have Htk := Lib.hid htk
      clear hr' htk
      have hkI : (k : Int) < (l.length : Int) := by omega
      have hv := hrr.out r
      cases hri : riB r with
      | false =>
        have he := Lib.hid (hbad.out hri)
        rw [hri] at hv
        have Hv := Lib.hid hv
        clear hv hri hbad hg2
        go_wp2_with (go_at_call 27; refine (Hv.out _).mono ?_; rintro e w2 ⟨rfl, rfl⟩)
        go_ret3
        rw [he.out]
        exact ⟨rfl, bel⟩
      | true =>
        have hgn := Lib.hid (hg2.out hri)
        have h1 : 0 ≤ r ∧ r ≤ 1114111 ∧ (r < 55296 ∨ 57343 < r) := of_decide_eq_true hri
        obtain ⟨R, rfl⟩ : ∃ R : Nat, r = (R : Int) := ⟨r.toNat, by omega⟩
        have hb2 := Lib.hid (fun W => rbytes_any R (R : Int) rfl (by omega) W)
        have hbn := Lib.hid (show bs ++ enc R = encs ((l.take (k + 1)).map Int.toNat) by rw [Htk.out, encs_snoc, hbs.out, Int.toNat_natCast])
        have hel := enc_le R
        rw [hri] at hv
        have Hv := Lib.hid hv
        obtain ⟨X, hX⟩ : ∃ X, X = enc R := ⟨_, rfl⟩
        rw [← hX] at hb2 hbn hel
        clear hv hri hbad hg2 hX h1
        go_wp2_with (first
          | (go_at_call 27; refine (Hv.out _).mono ?_; rintro e w2 ⟨rfl, rfl⟩)
          | (go_at_call 28; refine (hb2.out _).mono ?_; rintro e w3 ⟨A3, c3, rfl, own3, b3⟩; have hown3 := own_on hown b3; have bw3 := bt bel b3; have hR3 := Rd.own own3)
          | (at_builtin; refine wpList_append_rd _ rfl _ _ _ rfl w.heap.size 5 i0 _ 1 1 Tryd.underlying40 hi0 hz0 hz1 hz2 rfl (by omega) _ bs.length _ rfl hown3 _ A3 X.length c3 (X.map e8) rfl (by simp) hR3 (e8_one X) (by simp only [maxLen]; omega) (by omega) bw3.size ?_; intro v4 w4 hown4 hg4 hat4))
        go_roundw
        case rel => exact ⟨k + 1, by omega, by go_num, hgn, ⟨bs ++ X, hbn, by rw [List.length_append]; omega, by rw [List.length_append, List.map_append]; exact hown4⟩, bw3.grown hg4 bw3.size (fun g hg => own_block hown3 hg)⟩
        case measure => simp [intOf]; omega
    · obtain rfl : k = l.length := by omega
      have he := Lib.hid (textZ_good (l := l) (fun r hr => by
        obtain ⟨j, hj, rfl⟩ := List.getElem_of_mem hr
        exact hgood.out j hj (by omega)))
      rw [List.take_length] at hbs
      obtain ⟨Av, cv, rfl⟩ := own_form hown
      have hcv := run_conv_rd (P := Tryd.prog) (w := wr) 40 9 5 bs.length cv rfl Tryd.underlying40 Tryd.underlying5 Tryd.underlying9 (Rd.own hown)
      go_wp2_with fail
      go_ret3
      rw [he.out, ← hbs.out]
      exact ⟨rfl, bel⟩
end Go.Proofs.YtcagglcmikgdfaaDoor.Utf
