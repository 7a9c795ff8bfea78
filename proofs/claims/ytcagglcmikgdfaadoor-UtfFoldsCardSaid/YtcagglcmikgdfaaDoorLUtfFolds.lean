/- UtfFolds: for every input the law returns true: how many runes any text has, its first ones, and its letters made small. No condition. -/
import Derived.Test.YtcagglcmikgdfaaDoorUtf9
import Derived.Test.YtcagglcmikgdfaaDoorTabU
namespace Go.Proofs.YtcagglcmikgdfaaDoor.UtfFolds
open Go.ChangeShapes Go.WideShapes Go.ChangeAt Go.RowKit Go.Joins
open Go.ChangeMaps (open_string shut_string)
open Go.Proofs.YtcagglcmikgdfaaDoor.Utf
set_option linter.unusedVariables false
set_option maxRecDepth 100000
set_option maxHeartbeats 1000000 in
theorem walk (s : List UInt8) (n : Int) (r : Int) (w : World) (hn0 : -9223372036854775808 ≤ n) (hn1 : n ≤ 9223372036854775807) (hT : Tabs w) :
    Calls Tryd.prog 4 #[.string ⟨s.toArray⟩, .int .i64 n, .int .i32 r] w fun e w' => e = .returned (.bool true) ∧ Below w.heap.size w w' := by
  have hal := Lib.hid (fun W (h : Tabs W) => alive_any W h)
  have hsz : (⟨s.toArray⟩ : ByteArray).size = s.length := ba_size s
  by_cases hbig : 300 < s.length
  · obtain ⟨S, hS⟩ : ∃ S : ByteArray, S = ⟨s.toArray⟩ := ⟨_, rfl⟩
    rw [← hS] at hsz ⊢
    have hI : (300 : Int) < (s.length : Int) := by omega
    clear hS
    go_enter Tryd.func4, Tryd.ntmps4
    go_wp2_with (go_at_call 6; refine (hal.out _ hT).mono ?_; rintro e w1 ⟨rfl, b1⟩)
    go_ret
    exact ⟨rfl, b1⟩
  have hI : ¬ (300 : Int) < (s.length : Int) := by omega
  have h1 := Lib.hid (count_any s w (by omega) hT)
  have h2 := fun W => rcount_any s W (by omega)
  have h3 := fun W (h : Tabs W) => cut_any s n W (by omega) hn0 hn1 h
  have h4 := fun W => rcut_any s n W (by omega) hn0 hn1
  have h5 := fun W (h : Tabs W) => fold_any s W (by omega) h
  have h6 := fun W => rfold_any s W (by omega)
  obtain ⟨K, hK⟩ : ∃ K, K = countL s := ⟨_, rfl⟩
  rw [← hK] at h1 h2
  obtain ⟨C, hC⟩ : ∃ C, C = cutL s n := ⟨_, rfl⟩
  rw [← hC] at h3 h4
  obtain ⟨F, hF⟩ : ∃ F, F = foldL s := ⟨_, rfl⟩
  rw [← hF] at h5 h6
  obtain ⟨S, hS⟩ : ∃ S : ByteArray, S = ⟨s.toArray⟩ := ⟨_, rfl⟩
  rw [← hS] at hsz h1 h2 h3 h4 h5 h6 ⊢
  have H2 := Lib.hid h2
  have H3 := Lib.hid h3
  have H4 := Lib.hid h4
  have H5 := Lib.hid h5
  have H6 := Lib.hid h6
  have H7 := Lib.hid (fun W => letter_any r W)
  have H8 := Lib.hid (fun W => rletter_any r W)
  have H9 := Lib.hid (fun W => upper_any r W)
  have H10 := Lib.hid (fun W => rupper_any r W)
  obtain ⟨L, hL⟩ : ∃ L, L = leB r := ⟨_, rfl⟩
  obtain ⟨U, hU⟩ : ∃ U, U = upB r := ⟨_, rfl⟩
  rw [← hL] at H7 H8
  rw [← hU] at H9 H10
  clear hS hK hC hF hL hU h2 h3 h4 h5 h6 hbig
  go_enter Tryd.func4, Tryd.ntmps4
  go_wp2_with (first
    | (go_at_call 12; refine (h1.out).mono ?_; rintro e w1 ⟨rfl, b1⟩)
    | (go_at_call 13; refine (H2.out _).mono ?_; rintro e w2 ⟨rfl, b2⟩; have bb2 := bt b1 b2)
    | (go_at_call 14; refine (H3.out _ (hT.on bb2)).mono ?_; rintro e w3 ⟨rfl, b3⟩; have bb3 := bt bb2 b3)
    | (go_at_call 15; refine (H4.out _).mono ?_; rintro e w4 ⟨rfl, b4⟩; have bb4 := bt bb3 b4)
    | (go_at_call 16; refine (H5.out _ (hT.on bb4)).mono ?_; rintro e w5 ⟨rfl, b5⟩; have bb5 := bt bb4 b5)
    | (go_at_call 17; refine (H6.out _).mono ?_; rintro e w6 ⟨rfl, b6⟩; have bb6 := bt bb5 b6)
    | (go_at_call 18; refine (H7.out _).mono ?_; rintro e w7 ⟨rfl, rfl⟩)
    | (go_at_call 19; refine (H8.out _).mono ?_; rintro e w8 ⟨rfl, rfl⟩)
    | (go_at_call 20; refine (H9.out _).mono ?_; rintro e w9 ⟨rfl, rfl⟩)
    | (go_at_call 21; refine (H10.out _).mono ?_; rintro e w10 ⟨rfl, rfl⟩)
    | (go_at_call 6; refine (hal.out _ (hT.on bb6)).mono ?_; rintro e w11 ⟨rfl, b11⟩; have bb11 := bt bb6 b11))
  go_ret
  exact ⟨rfl, bb11⟩
set_option maxRecDepth 100000 in
theorem contract (H : Type) (enc : TypeId × Value → H) (W : World) (base : Nat) (args : Array Value) (ds gs : List (DataW H)) (before : List MemPlace)
    (hval0 : ∀ (j : Nat) t v, Tryd.f4.params[j]? = some t → args[j]? = some v → Value.okWide Tryd.prog W .any base t v)
    (hW : DataW.Whole enc Tryd.prog Tryd.f4.params.toList Rows.utfFoldsSpec.vars false W args.toList ds gs before) (hL : laidMetH Tryd.prog Rows.utfFoldsRow.laid W) :
    Calls Tryd.prog 4 args W fun e W' => ∃ v, e = .returned v ∧ Rows.utfFoldsSpec.post enc Tryd.prog Tryd.f4 false true false false W args v W' := by
  have hk := Laid.tab hL
  have hval : ∀ (j : Nat) t v, Tryd.f4.params[j]? = some t → args[j]? = some v → Value.okWide Tryd.prog W .any base t v := hval0
  have hW' := hW
  obtain ⟨p, q, hA0, hV, rfl, hfz, hnd⟩ := hW
  have hA : DataW.TrodAll enc Tryd.prog W 0 (fun _ => true) true Tryd.f4.params.toList args.toList ds p := hA0
  rw [Tryd.params4] at hA hval
  obtain ⟨v0, vs0, d0, ds0, p0, q0, hargs, rfl, rfl, h0, r0⟩ := trodAll_cons hA
  obtain ⟨v1, vs1, d1, ds1, p1, q1, rfl, rfl, rfl, h1, r1⟩ := trodAll_cons r0
  obtain ⟨v2, vs2, d2, ds2, p2, q2, rfl, rfl, rfl, h2, r2⟩ := trodAll_cons r1
  obtain ⟨rfl, rfl, rfl⟩ := trodAll_nil r2
  obtain rfl : args = #[v0, v1, v2] := by cases args; simp_all
  obtain ⟨rfl, rfl⟩ := trodVars_none hV
  have k0 := h0
  have lt0 := places_lt k0
  obtain ⟨s0, rfl, _, _, ws0⟩ := open_string Tryd.underlying9 (hval 0 9 v0 rfl rfl) h0
  obtain ⟨⟨t0⟩⟩ := s0
  have k1 := h1
  have lt1 := places_lt k1
  obtain ⟨n1, rfl, _, _, w1⟩ := open_int Tryd.underlying3 (hval 1 3 v1 rfl rfl) h1
  have k2 := h2
  have lt2 := places_lt k2
  obtain ⟨n2, rfl, _, _, w2⟩ := open_int Tryd.underlying21 (hval 2 21 v2 rfl rfl) h2
  clear hA0 hval0
  refine (walk t0 n1 n2 W (wfi w1).1 (wfi w1).2 hk).mono fun e W' ⟨he, bel⟩ => ?_
  subst he
  exact ⟨_, rfl, _, _, _, [], _, [], hW', trodAll_mk1 (shut_bool Tryd.underlying4 _), (trodAll_cons_mk (Below.trod laidOut (by kernel_rfl) (of_decide_eq_true (by kernel_rfl)) k0 bel lt0) (trodAll_cons_mk (Below.trod laidOut (by kernel_rfl) (of_decide_eq_true (by kernel_rfl)) k1 bel lt1) (trodAll_cons_mk (Below.trod laidOut (by kernel_rfl) (of_decide_eq_true (by kernel_rfl)) k2 bel lt2) trodAll_mk0))), rfl, bel.frame _, fun h => by cases h⟩

theorem laid_met (os : Os) : laidMet Tryd.prog Rows.utfFoldsRow.laid ((Laid.laidWorld os).forCall (fun _ _ => 0) ⟨#[], #[.string ⟨#[]⟩, .int .i64 0, .int .i32 0], []⟩).memory :=
  laidMet_of_run' 8 (by kernel_rfl) (by kernel_rfl)
set_option maxRecDepth 100000 in
theorem lifted (os : Os) (started : os.Started) (H : Type) (enc : TypeId × Value → H) (F : Stop.Interp) :
    ReturnsInHanded {} Tryd.checked os 4 .any ((OpenSpec.ofChange Rows.utfFoldsSpec).preRow enc Tryd.prog Tryd.f4 Rows.utfFoldsRow.domain false Rows.utfFoldsRow.laid) (((OpenSpec.ofChange Rows.utfFoldsSpec).at F).post enc Tryd.prog Tryd.f4 false true false false) := by
  obtain ⟨x, hx⟩ := Option.isSome_iff_exists.1 (show (DataW.whole enc Tryd.prog ((Laid.laidWorld os).forCall (fun _ _ => 0) ⟨#[], #[.string ⟨#[]⟩, .int .i64 0, .int .i32 0], []⟩).memory Tryd.f4.params.toList Rows.utfFoldsSpec.vars false (#[.string ⟨#[]⟩, .int .i64 0, .int .i32 0] : Array Value).toList 8).isSome = true by kernel_rfl)
  refine returnsInHanded_of_row (C := Tryd.checked) (s := OpenSpec.ofChange Rows.utfFoldsSpec) own started (by kernel_rfl) Tryd.func4
    (witness_row_at (enc := enc) (C := Tryd.checked) false (Laid.laidWorld os) #[.string ⟨#[]⟩, .int .i64 0, .int .i32 0] rfl (by kernel_rfl) (by kernel_rfl) (by kernel_rfl)
      (OpenSpec.preRow_of_cond 8 hx (by rfl) (fun k hk => by cases hk) (by kernel_rfl) (laid_met os))) ?_
  intro W base args ds gs before hval hW _ _ _ hL _ _
  exact contract H enc W base args ds gs before hval hW hL
theorem said : Rows.UtfFoldsSaid :=
  OpenClaim.holds_of_cond 4 Tryd.f4 rfl rfl rfl rfl rfl rfl rfl ⟨rfl, rfl, rfl, rfl, rfl⟩ rfl rfl rfl rfl rfl (by kernel_rfl) Tryd.func4 (by kernel_rfl)
    (of_decide_eq_true (by kernel_rfl)) (by unfold Func.isWrapper; first | (rw [if_pos (by decide +kernel)]; kernel_rfl) | (rw [if_neg (by decide +kernel)]; exact ⟨rfl, rfl⟩))
    (fun os started H enc _ F => by rw [OpenClaim.pre_eq_preRow]; exact lifted os started H enc F)
theorem plain (f : FuncId) (fn : Func) (hf : Tryd.pinned.checked.prog.funcNamed "oubliette/oubliettelaw02.UtfFolds" = some f) (hfn : Tryd.pinned.checked.prog.funcs[f]? = some fn) :
    false = Tryd.pinned.checked.prog.looks [] ∧ ∀ (j : Nat) t, fn.params[j]? = some t → Tryd.pinned.checked.prog.wantsStandIn t = false := by
  obtain rfl : f = 4 := Option.some.inj ((show Tryd.prog.funcNamed "oubliette/oubliettelaw02.UtfFolds" = some 4 by kernel_rfl).symm.trans hf) |>.symm
  obtain rfl : fn = Tryd.f4 := (Option.some.inj (Tryd.func4.symm.trans hfn)).symm
  refine ⟨by kernel_rfl, fun j t ht => ?_⟩
  rw [Tryd.params4] at ht
  have hm : t ∈ ([3, 9, 21] : List TypeId) := by have := Array.mem_of_getElem? ht; simp at this; first | (subst this; simp; done) | (rcases this with h | h <;> (simp [h]; done)) | (rcases this with h | h | h <;> (simp [h]; done)) | (rcases this with h | h | h | h <;> (simp [h]; done)) | (rcases this with h | h | h | h | h <;> (simp [h]; done))
  have hall : (([3, 9, 21] : List TypeId).all fun u => !Tryd.prog.wantsStandIn u) = true := by kernel_rfl
  exact (show Tryd.prog.wantsStandIn t = false by simpa using List.all_eq_true.1 hall t hm)
theorem proved : Rows.UtfFoldsCardSaid :=
  Claim7.holds_tied_plain_at .later [] _ _ _ _ said (fun _ h => by cases h) (by kernel_rfl) (fun _ h => by cases h) utfFolds_row_tie rfl ⟨rfl, rfl⟩ (by kernel_rfl) rfl plain (by kernel_rfl)
#print axioms proved
end Go.Proofs.YtcagglcmikgdfaaDoor.UtfFolds
