/- UtfBack: for every input the law returns true: runes are read of their text as they were, folded twice a text is as folded once, and what is cut off begins it. No condition. -/
import Derived.Test.YtcagglcmikgdfaaDoorUtf9
import Derived.Test.YtcagglcmikgdfaaDoorTabU
import Derived.Lib.MinMax
namespace Go.Proofs.YtcagglcmikgdfaaDoor.UtfBack
open Go.ChangeShapes Go.WideShapes Go.ChangeAt Go.RowKit Go.Joins
open Go.ChangeMaps (open_string shut_string)
open Go.Proofs.YtcagglcmikgdfaaDoor.Utf
set_option linter.unusedVariables false
set_option maxRecDepth 100000
theorem textZ_cases (l : List Int) : (textZ l = (encs (l.map Int.toNat), 0, 0) ∧ ∀ r ∈ l, riB r = true) ∨ ∃ k, textZ l = ([], k, 4) := by
  by_cases h : ∀ r ∈ l, riB r = true
  · exact .inl ⟨textZ_good h, h⟩
  · cases hf : l.findIdx? (fun r => !riB r) with
    | none =>
      rw [List.findIdx?_eq_none_iff] at hf
      exact absurd (fun r hr => by simpa using hf r hr) h
    | some k => exact .inr ⟨k, by unfold textZ; rw [hf]⟩
theorem back_list {l : List Int} (h : ∀ r ∈ l, riB r = true) : (l.map Int.toNat).map e32 = l.map (Value.int .i32) ∧ (∀ r ∈ l.map Int.toNat, right r = true) := by
  constructor
  · rw [List.map_map]
    refine List.map_congr_left (fun r hr => ?_)
    have h1 : 0 ≤ r ∧ r ≤ 1114111 ∧ (r < 55296 ∨ 57343 < r) := of_decide_eq_true (h r hr)
    show Value.int .i32 ((r.toNat : Nat) : Int) = _
    rw [Int.toNat_of_nonneg h1.1]
  · intro x hx
    obtain ⟨r, hr, rfl⟩ := List.mem_map.1 hx
    have h0 := h r hr
    have h1 : 0 ≤ r ∧ r ≤ 1114111 ∧ (r < 55296 ∨ 57343 < r) := of_decide_eq_true h0
    rw [← ri_right, Int.toNat_of_nonneg h1.1]; exact h0
set_option maxHeartbeats 2000000 in
theorem walk (A : Option Addr) (l : List Int) (c : Nat) (s : List UInt8) (n : Int) (w : World) (hr : Rd w w.heap.size A (l.map (Value.int .i32))) (hc : l.length ≤ c) (hcm : c ≤ maxLen) (hb : ∀ n ∈ l, -2147483648 ≤ n ∧ n ≤ 2147483647) (hn0 : -9223372036854775808 ≤ n) (hn1 : n ≤ 9223372036854775807) (hT : Tabs w) :
    Calls Tryd.prog 5 #[.slice A l.length c, .string ⟨s.toArray⟩, .int .i64 n] w fun e w' => e = .returned (.bool true) ∧ Below w.heap.size w w' := by
  have hal := Lib.hid (fun W (h : Tabs W) => alive_any W h)
  have hsz : (⟨s.toArray⟩ : ByteArray).size = s.length := ba_size s
  by_cases hbig : 300 < s.length ∨ 100 < l.length
  · obtain ⟨S, hS⟩ : ∃ S : ByteArray, S = ⟨s.toArray⟩ := ⟨_, rfl⟩
    rw [← hS] at hsz ⊢
    rcases (show 100 < l.length ∨ (l.length ≤ 100 ∧ 300 < s.length) by omega) with h | ⟨h1, h2⟩
    · have hI : (100 : Int) < (l.length : Int) := by omega
      clear hS
      go_enter Tryd.func5, Tryd.ntmps5
      go_wp2_with (go_at_call 6; refine (hal.out _ hT).mono ?_; rintro e w1 ⟨rfl, b1⟩)
      go_ret
      exact ⟨rfl, b1⟩
    · have hI : ¬ (100 : Int) < (l.length : Int) := by omega
      have hI2 : (300 : Int) < (s.length : Int) := by omega
      clear hS
      go_enter Tryd.func5, Tryd.ntmps5
      go_wp2_with (go_at_call 6; refine (hal.out _ hT).mono ?_; rintro e w1 ⟨rfl, b1⟩)
      go_ret
      exact ⟨rfl, b1⟩
  have hI : ¬ (300 : Int) < (s.length : Int) := by omega
  have hI2 : ¬ (100 : Int) < (l.length : Int) := by omega
  have hsl : s.length ≤ 300 := by omega
  have hll : l.length ≤ 100 := by omega
  have h1 := text_any A l l.length c w rfl hr hb (by omega)
  have h3 := fun W (h : Tabs W) => cut_any s n W (by omega) hn0 hn1 h
  have h5 := fun W (h : Tabs W) => fold_any s W (by omega) h
  have hfl : (foldL s).length ≤ 1000000 := by
    unfold foldL
    split
    · have h1 := encs_le ((scan s).1.map low)
      have h2 := (scan_le _ s (Nat.le_refl _)).2.1
      rw [List.length_map] at h1
      omega
    · simp
  have h6 := fun W (h : Tabs W) => fold_any (foldL s) W hfl h
  rw [fold_fold] at h6
  have hpre := cut_pre s n
  have hcc := cut_count s n
  have hcl : (cutL s n).length ≤ s.length := by
    have := congrArg List.length hpre
    rw [List.length_take] at this
    omega
  have h7 := fun W (h : Tabs W) => count_any (cutL s n) W (by omega) h
  obtain ⟨C, hC⟩ : ∃ C, C = cutL s n := ⟨_, rfl⟩
  rw [← hC] at h3 hpre hcc hcl h7
  obtain ⟨F, hF⟩ : ∃ F, F = foldL s := ⟨_, rfl⟩
  rw [← hF] at h5 h6
  obtain ⟨K, hK⟩ : ∃ K, K = countL C := ⟨_, rfl⟩
  rw [← hK] at hcc h7
  have hto : ∀ w, (Instr.slice 9 (.string ⟨s.toArray⟩) none (some (.int .i64 (C.length : Int))) none).run Tryd.prog w = .ok (.string ⟨C.toArray⟩) w := fun w => by
    rw [run_slice_string_to_if (P := Tryd.prog) w 9 ⟨s.toArray⟩ .i64 (C.length : Int) Tryd.underlying9, if_pos ⟨by omega, by rw [ba_size]; omega⟩, Int.toNat_natCast, ex_take, ← hpre]
  have hszC : (⟨C.toArray⟩ : ByteArray).size = C.length := ba_size C
  have hclI : (C.length : Int) ≤ (s.length : Int) := by omega
  have hnb : ∀ (x : List UInt8), (x == x) = true := fun x => by simp
  obtain ⟨S, hS⟩ : ∃ S : ByteArray, S = ⟨s.toArray⟩ := ⟨_, rfl⟩
  rw [← hS] at hsz h3 h5 hto ⊢
  have H3 := Lib.hid h3
  have H5 := Lib.hid h5
  have H6 := Lib.hid h6
  have H7 := Lib.hid h7
  rcases textZ_cases l with ⟨hz, hall⟩ | ⟨k, hz⟩
  · rw [hz] at h1
    obtain ⟨g1, g2⟩ := back_list hall
    have hel := encs_le (l.map Int.toNat)
    rw [List.length_map] at hel
    have h8 := fun W (h : Tabs W) => runes_any (encs (l.map Int.toNat)) W (by omega) h
    have h9 := fun W (h : Tabs W) => count_any (encs (l.map Int.toNat)) W (by omega) h
    have hse := scan_encs (l.map Int.toNat) g2
    have hrr : runesR (encs (l.map Int.toNat)) = (l.map Int.toNat, 0, 0) := by unfold runesR; rw [hse, if_pos rfl]
    have hcn : countL (encs (l.map Int.toNat)) = (l.length : Int) := by unfold countL; rw [hse, if_pos rfl]; simp
    rw [hrr] at h8
    rw [hcn] at h9
    simp only [List.length_map, g1] at h8
    obtain ⟨X, hX⟩ : ∃ X, X = encs (l.map Int.toNat) := ⟨_, rfl⟩
    rw [← hX] at h1 h8 h9
    have H1 := Lib.hid h1
    have H8 := Lib.hid h8
    have H9 := Lib.hid h9
    have hsame := Lib.hid (fun (A B : Option Addr) c d W hA hB => same_any A B l l l.length l.length c d W rfl rfl hA hB (by omega) (by omega))
    have hne : ((l.length : Int) != (l.length : Int)) = false := by simp
    clear hS hC hF hK hX h1 h3 h5 h6 h7 h8 h9 hbig hz hall g1 g2 hse hrr hcn hel hpre hcl hfl
    go_enter Tryd.func5, Tryd.ntmps5
    go_wp2_with (first
      | (go_at_call 9; refine (H1.out).mono ?_; rintro e w1 ⟨rfl, b1⟩)
      | (go_at_call 7; refine (H8.out _ (hT.on b1)).mono ?_; rintro e w2 ⟨v2, rfl, own2, b2⟩; obtain ⟨A2, c2, rfl⟩ := own_form own2; have r2 := Rd.own own2; have bb2 := bt b1 b2)
      | (go_at_call 11; refine (hsame.out A2 A c2 c _ r2 (hr.on bb2)).mono ?_; rw [sameZ_self]; rintro e w3 ⟨rfl, b3⟩; have bb3 := bt bb2 b3)
      | (go_at_call 12; (with_reducible show Calls _ _ #[.string ⟨X.toArray⟩] _ _); refine (H9.out _ (hT.on bb3)).mono ?_; rintro e w4 ⟨rfl, b4⟩; have bb4 := bt bb3 b4)
      | (go_at_call 14; refine (H3.out _ (hT.on bb4)).mono ?_; rintro e w5 ⟨rfl, b5⟩; have bb5 := bt bb4 b5; have tF1 : True := trivial)
      | (go_at_call 16; (with_reducible show Calls _ _ #[.string ⟨F.toArray⟩] _ _); refine (H6.out _ (hT.on bb6)).mono ?_; rintro e w7 ⟨rfl, b7⟩; have bb7 := bt bb6 b7)
      | (go_at_call 16; have _t := tF1; refine (H5.out _ (hT.on bb5)).mono ?_; rintro e w6 ⟨rfl, b6⟩; have bb6 := bt bb5 b6; clear tF1)
      | (go_at_call 16; refine (H5.out _ (hT.on bb7)).mono ?_; rintro e w8 ⟨rfl, b8⟩; have bb8 := bt bb7 b8)
      | (go_at_call 12; refine (H7.out _ (hT.on bb8)).mono ?_; rintro e w9 ⟨rfl, b9⟩; have bb9 := bt bb8 b9)
      | (go_at_call 6; refine (hal.out _ (hT.on bb9)).mono ?_; rintro e w10 ⟨rfl, b10⟩; have bb10 := bt bb9 b10))
    go_ret
    exact ⟨rfl, bb10⟩
  · rw [hz] at h1
    have H1 := Lib.hid h1
    clear hS hC hF hK h1 h3 h5 h6 h7 hbig hz hpre hcl hfl
    go_enter Tryd.func5, Tryd.ntmps5
    go_wp2_with (first
      | (go_at_call 9; refine (H1.out).mono ?_; rintro e w1 ⟨rfl, b1⟩)
      | (go_at_call 14; refine (H3.out _ (hT.on b1)).mono ?_; rintro e w5 ⟨rfl, b5⟩; have bb5 := bt b1 b5; have tF1 : True := trivial)
      | (go_at_call 16; (with_reducible show Calls _ _ #[.string ⟨F.toArray⟩] _ _); refine (H6.out _ (hT.on bb6)).mono ?_; rintro e w7 ⟨rfl, b7⟩; have bb7 := bt bb6 b7)
      | (go_at_call 16; have _t := tF1; refine (H5.out _ (hT.on bb5)).mono ?_; rintro e w6 ⟨rfl, b6⟩; have bb6 := bt bb5 b6; clear tF1)
      | (go_at_call 16; refine (H5.out _ (hT.on bb7)).mono ?_; rintro e w8 ⟨rfl, b8⟩; have bb8 := bt bb7 b8)
      | (go_at_call 12; refine (H7.out _ (hT.on bb8)).mono ?_; rintro e w9 ⟨rfl, b9⟩; have bb9 := bt bb8 b9)
      | (go_at_call 6; refine (hal.out _ (hT.on bb9)).mono ?_; rintro e w10 ⟨rfl, b10⟩; have bb10 := bt bb9 b10))
    go_ret
    exact ⟨rfl, bb10⟩
set_option maxRecDepth 100000 in
theorem contract (H : Type) (enc : TypeId × Value → H) (W : World) (base : Nat) (args : Array Value) (ds gs : List (DataW H)) (before : List MemPlace)
    (hval0 : ∀ (j : Nat) t v, Tryd.f5.params[j]? = some t → args[j]? = some v → Value.okWide Tryd.prog W .any base t v)
    (hW : DataW.Whole enc Tryd.prog Tryd.f5.params.toList Rows.utfBackSpec.vars false W args.toList ds gs before) (hL : laidMetH Tryd.prog Rows.utfBackRow.laid W) :
    Calls Tryd.prog 5 args W fun e W' => ∃ v, e = .returned v ∧ Rows.utfBackSpec.post enc Tryd.prog Tryd.f5 false true false false W args v W' := by
  have hk := Laid.tab hL
  have hval : ∀ (j : Nat) t v, Tryd.f5.params[j]? = some t → args[j]? = some v → Value.okWide Tryd.prog W .any base t v := hval0
  have hW' := hW
  obtain ⟨p, q, hA0, hV, rfl, hfz, hnd⟩ := hW
  have hA : DataW.TrodAll enc Tryd.prog W 0 (fun _ => true) true Tryd.f5.params.toList args.toList ds p := hA0
  rw [Tryd.params5] at hA hval
  obtain ⟨v0, vs0, d0, ds0, p0, q0, hargs, rfl, rfl, h0, r0⟩ := trodAll_cons hA
  obtain ⟨v1, vs1, d1, ds1, p1, q1, rfl, rfl, rfl, h1, r1⟩ := trodAll_cons r0
  obtain ⟨v2, vs2, d2, ds2, p2, q2, rfl, rfl, rfl, h2, r2⟩ := trodAll_cons r1
  obtain ⟨rfl, rfl, rfl⟩ := trodAll_nil r2
  obtain rfl : args = #[v0, v1, v2] := by cases args; simp_all
  obtain ⟨rfl, rfl⟩ := trodVars_none hV
  have k0 := h0
  have lt0 := places_lt k0
  obtain ⟨a0, len0, cap0, rfl⟩ := okWide_slice Tryd.underlying22 (hval 0 22 v0 rfl rfl)
  obtain ⟨fuel0, hf0⟩ := h0
  obtain ⟨l0, rfl, rr0, rc0, rm0, rw0⟩ := runes_of rfl Tryd.underlying22 Tryd.underlying21 (by kernel_rfl) hf0
  have k1 := h1
  have lt1 := places_lt k1
  obtain ⟨s1, rfl, _, _, ws1⟩ := open_string Tryd.underlying9 (hval 1 9 v1 rfl rfl) h1
  obtain ⟨⟨t1⟩⟩ := s1
  have k2 := h2
  have lt2 := places_lt k2
  obtain ⟨n2, rfl, _, _, w2⟩ := open_int Tryd.underlying3 (hval 2 3 v2 rfl rfl) h2
  clear hA0 hval0
  refine (walk a0 l0 cap0 t1 n2 W rr0 rc0 rm0 rw0 (wfi w2).1 (wfi w2).2 hk).mono fun e W' ⟨he, bel⟩ => ?_
  subst he
  exact ⟨_, rfl, _, _, _, [], _, [], hW', trodAll_mk1 (shut_bool Tryd.underlying4 _), (trodAll_cons_mk (Below.trod laidOut (by kernel_rfl) (of_decide_eq_true (by kernel_rfl)) k0 bel lt0) (trodAll_cons_mk (Below.trod laidOut (by kernel_rfl) (of_decide_eq_true (by kernel_rfl)) k1 bel lt1) (trodAll_cons_mk (Below.trod laidOut (by kernel_rfl) (of_decide_eq_true (by kernel_rfl)) k2 bel lt2) trodAll_mk0))), rfl, bel.frame _, fun h => by cases h⟩

theorem laid_met (os : Os) : laidMet Tryd.prog Rows.utfBackRow.laid ((Laid.laidWorld os).forCall (fun _ _ => 0) ⟨#[], #[.slice none 0 0, .string ⟨#[]⟩, .int .i64 0], []⟩).memory :=
  laidMet_of_run' 8 (by kernel_rfl) (by kernel_rfl)
set_option maxRecDepth 100000 in
theorem lifted (os : Os) (started : os.Started) (H : Type) (enc : TypeId × Value → H) (F : Stop.Interp) :
    ReturnsInHanded {} Tryd.checked os 5 .any ((OpenSpec.ofChange Rows.utfBackSpec).preRow enc Tryd.prog Tryd.f5 Rows.utfBackRow.domain false Rows.utfBackRow.laid) (((OpenSpec.ofChange Rows.utfBackSpec).at F).post enc Tryd.prog Tryd.f5 false true false false) := by
  obtain ⟨x, hx⟩ := Option.isSome_iff_exists.1 (show (DataW.whole enc Tryd.prog ((Laid.laidWorld os).forCall (fun _ _ => 0) ⟨#[], #[.slice none 0 0, .string ⟨#[]⟩, .int .i64 0], []⟩).memory Tryd.f5.params.toList Rows.utfBackSpec.vars false (#[.slice none 0 0, .string ⟨#[]⟩, .int .i64 0] : Array Value).toList 8).isSome = true by kernel_rfl)
  refine returnsInHanded_of_row (C := Tryd.checked) (s := OpenSpec.ofChange Rows.utfBackSpec) own started (by kernel_rfl) Tryd.func5
    (witness_row_at (enc := enc) (C := Tryd.checked) false (Laid.laidWorld os) #[.slice none 0 0, .string ⟨#[]⟩, .int .i64 0] rfl (by kernel_rfl) (by kernel_rfl) (by kernel_rfl)
      (OpenSpec.preRow_of_cond 8 hx (by rfl) (fun k hk => by cases hk) (by kernel_rfl) (laid_met os))) ?_
  intro W base args ds gs before hval hW _ _ _ hL _ _
  exact contract H enc W base args ds gs before hval hW hL
theorem said : Rows.UtfBackSaid :=
  OpenClaim.holds_of_cond 5 Tryd.f5 rfl rfl rfl rfl rfl rfl rfl ⟨rfl, rfl, rfl, rfl, rfl⟩ rfl rfl rfl rfl rfl (by kernel_rfl) Tryd.func5 (by kernel_rfl)
    (of_decide_eq_true (by kernel_rfl)) (by unfold Func.isWrapper; first | (rw [if_pos (by decide +kernel)]; kernel_rfl) | (rw [if_neg (by decide +kernel)]; exact ⟨rfl, rfl⟩))
    (fun os started H enc _ F => by rw [OpenClaim.pre_eq_preRow]; exact lifted os started H enc F)
theorem plain (f : FuncId) (fn : Func) (hf : Tryd.pinned.checked.prog.funcNamed "oubliette/oubliettelaw02.UtfBack" = some f) (hfn : Tryd.pinned.checked.prog.funcs[f]? = some fn) :
    false = Tryd.pinned.checked.prog.looks [] ∧ ∀ (j : Nat) t, fn.params[j]? = some t → Tryd.pinned.checked.prog.wantsStandIn t = false := by
  obtain rfl : f = 5 := Option.some.inj ((show Tryd.prog.funcNamed "oubliette/oubliettelaw02.UtfBack" = some 5 by kernel_rfl).symm.trans hf) |>.symm
  obtain rfl : fn = Tryd.f5 := (Option.some.inj (Tryd.func5.symm.trans hfn)).symm
  refine ⟨by kernel_rfl, fun j t ht => ?_⟩
  rw [Tryd.params5] at ht
  have hm : t ∈ ([3, 9, 22] : List TypeId) := by have := Array.mem_of_getElem? ht; simp at this; first | (subst this; simp; done) | (rcases this with h | h <;> (simp [h]; done)) | (rcases this with h | h | h <;> (simp [h]; done)) | (rcases this with h | h | h | h <;> (simp [h]; done)) | (rcases this with h | h | h | h | h <;> (simp [h]; done))
  have hall : (([3, 9, 22] : List TypeId).all fun u => !Tryd.prog.wantsStandIn u) = true := by kernel_rfl
  exact (show Tryd.prog.wantsStandIn t = false by simpa using List.all_eq_true.1 hall t hm)
theorem proved : Rows.UtfBackCardSaid :=
  Claim7.holds_tied_plain_at .later [] _ _ _ _ said (fun _ h => by cases h) (by kernel_rfl) (fun _ h => by cases h) utfBack_row_tie rfl ⟨rfl, rfl⟩ (by kernel_rfl) rfl plain (by kernel_rfl)
#print axioms proved
end Go.Proofs.YtcagglcmikgdfaaDoor.UtfBack
