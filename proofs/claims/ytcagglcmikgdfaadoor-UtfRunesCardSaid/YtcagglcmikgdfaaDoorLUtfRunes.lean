/- UtfRunes: for every input the law returns true: the runes of any text, or where it has none, and the text of any runes. No condition. -/
import Derived.Test.YtcagglcmikgdfaaDoorUtf9
import Derived.Test.YtcagglcmikgdfaaDoorTabU
namespace Go.Proofs.YtcagglcmikgdfaaDoor.UtfRunes
open Go.ChangeShapes Go.WideShapes Go.ChangeAt Go.RowKit Go.Joins
open Go.ChangeMaps (open_string shut_string)
open Go.Proofs.YtcagglcmikgdfaaDoor.Utf
set_option linter.unusedVariables false
set_option maxRecDepth 100000
set_option maxHeartbeats 1000000 in
theorem walk (s : List UInt8) (A : Option Addr) (l : List Int) (c : Nat) (w : World) (hr : Rd w w.heap.size A (l.map (Value.int .i32))) (hc : l.length ≤ c) (hcm : c ≤ maxLen) (hb : ∀ n ∈ l, -2147483648 ≤ n ∧ n ≤ 2147483647) (hT : Tabs w) :
    Calls Tryd.prog 3 #[.string ⟨s.toArray⟩, .slice A l.length c] w fun e w' => e = .returned (.bool true) ∧ Below w.heap.size w w' := by
  have hal := Lib.hid (fun W (h : Tabs W) => alive_any W h)
  have hsz : (⟨s.toArray⟩ : ByteArray).size = s.length := ba_size s
  by_cases hbig : 300 < s.length ∨ 100 < l.length
  · obtain ⟨S, hS⟩ : ∃ S : ByteArray, S = ⟨s.toArray⟩ := ⟨_, rfl⟩
    rw [← hS] at hsz ⊢
    rcases (show 300 < s.length ∨ (s.length ≤ 300 ∧ 100 < l.length) by omega) with h | ⟨h1, h2⟩
    · have hI : (300 : Int) < (s.length : Int) := by omega
      clear hS
      go_enter Tryd.func3, Tryd.ntmps3
      go_wp2_with (go_at_call 6; refine (hal.out _ hT).mono ?_; rintro e w1 ⟨rfl, b1⟩)
      go_ret
      exact ⟨rfl, b1⟩
    · have hI : ¬ (300 : Int) < (s.length : Int) := by omega
      have hI2 : (100 : Int) < (l.length : Int) := by omega
      clear hS
      go_enter Tryd.func3, Tryd.ntmps3
      go_wp2_with (go_at_call 6; refine (hal.out _ hT).mono ?_; rintro e w1 ⟨rfl, b1⟩)
      go_ret
      exact ⟨rfl, b1⟩
  have hI : ¬ (300 : Int) < (s.length : Int) := by omega
  have hI2 : ¬ (100 : Int) < (l.length : Int) := by omega
  have h1 := Lib.hid (runes_any s w (by omega) hT)
  have h2 := fun W => rrunes_any s W (by omega)
  have h3 := Lib.hid (fun W (hW : Below w.heap.size w W) => text_any A l l.length c W rfl (hr.on hW) hb (by omega))
  have h4 := Lib.hid (fun W (hW : Below w.heap.size w W) => rtext_any A l l.length c W rfl (hr.on hW) (by omega))
  have hrl : (runesR s).1.length ≤ 300 := by
    unfold runesR
    split
    · have := (scan_le _ s (Nat.le_refl _)).2.1; simp only; omega
    · simp
  obtain ⟨R, hR⟩ : ∃ R, R = runesR s := ⟨_, rfl⟩
  rw [← hR] at h1 h2 hrl
  obtain ⟨Z, hZ⟩ : ∃ Z, Z = textZ l := ⟨_, rfl⟩
  rw [← hZ] at h3 h4
  obtain ⟨S, hS⟩ : ∃ S : ByteArray, S = ⟨s.toArray⟩ := ⟨_, rfl⟩
  rw [← hS] at hsz h1 h2 ⊢
  have H2 := Lib.hid h2
  have hnb : ∀ (x : List UInt8), (x == x) = true := fun x => by simp
  clear hS hR hZ h2 hbig
  obtain ⟨rs, at1, f1⟩ := R
  obtain ⟨zb, at2, f2⟩ := Z
  have hsame := Lib.hid (fun (A B : Option Addr) c d W hA hB => same_any A B (rs.map (fun r => ((r : Nat) : Int))) (rs.map (fun r => ((r : Nat) : Int))) rs.length rs.length c d W (by simp) (by simp) hA hB (by simp at hrl ⊢; omega) (by simp at hrl ⊢; omega))
  go_enter Tryd.func3, Tryd.ntmps3
  go_wp2_with (first
    | (go_at_call 7; refine (h1.out).mono ?_; rintro e w1 ⟨v1, rfl, own1, b1⟩; obtain ⟨A1, c1, rfl⟩ := own_form own1; have r1 := Rd.own own1)
    | (go_at_call 8; refine (H2.out _).mono ?_; rintro e w2 ⟨v2, rfl, own2, b2⟩; obtain ⟨A2, c2, rfl⟩ := own_form own2; have r2 := Rd.own own2; have r1' := r1.on b2; have bb2 := bt b1 b2)
    | (go_at_call 9; refine (h3.out _ bb2).mono ?_; rintro e w3 ⟨rfl, b3⟩; have bb3 := bt bb2 b3; have r13 := r1'.on b3; have r23 := r2.on b3)
    | (go_at_call 10; refine (h4.out _ bb3).mono ?_; rintro e w4 ⟨rfl, b4⟩; have bb4 := bt bb3 b4; have r14 := r13.on b4; have r24 := r23.on b4)
    | (go_at_call 11; refine (hsame.out A1 A2 c1 c2 _ (by rw [← nat_cells]; exact r14) (by rw [← nat_cells]; exact r24)).mono ?_; rw [sameZ_self]; rintro e w5 ⟨rfl, b5⟩; have bb5 := bt bb4 b5)
    | (go_at_call 6; refine (hal.out _ (hT.on bb5)).mono ?_; rintro e w6 ⟨rfl, b6⟩; have bb6 := bt bb5 b6))
  go_ret
  exact ⟨rfl, bb6⟩
set_option maxRecDepth 100000 in
theorem contract (H : Type) (enc : TypeId × Value → H) (W : World) (base : Nat) (args : Array Value) (ds gs : List (DataW H)) (before : List MemPlace)
    (hval0 : ∀ (j : Nat) t v, Tryd.f3.params[j]? = some t → args[j]? = some v → Value.okWide Tryd.prog W .any base t v)
    (hW : DataW.Whole enc Tryd.prog Tryd.f3.params.toList Rows.utfRunesSpec.vars false W args.toList ds gs before) (hL : laidMetH Tryd.prog Rows.utfRunesRow.laid W) :
    Calls Tryd.prog 3 args W fun e W' => ∃ v, e = .returned v ∧ Rows.utfRunesSpec.post enc Tryd.prog Tryd.f3 false true false false W args v W' := by
  have hk := Laid.tab hL
  have hval : ∀ (j : Nat) t v, Tryd.f3.params[j]? = some t → args[j]? = some v → Value.okWide Tryd.prog W .any base t v := hval0
  have hW' := hW
  obtain ⟨p, q, hA0, hV, rfl, hfz, hnd⟩ := hW
  have hA : DataW.TrodAll enc Tryd.prog W 0 (fun _ => true) true Tryd.f3.params.toList args.toList ds p := hA0
  rw [Tryd.params3] at hA hval
  obtain ⟨v0, vs0, d0, ds0, p0, q0, hargs, rfl, rfl, h0, r0⟩ := trodAll_cons hA
  obtain ⟨v1, vs1, d1, ds1, p1, q1, rfl, rfl, rfl, h1, r1⟩ := trodAll_cons r0
  obtain ⟨rfl, rfl, rfl⟩ := trodAll_nil r1
  obtain rfl : args = #[v0, v1] := by cases args; simp_all
  obtain ⟨rfl, rfl⟩ := trodVars_none hV
  have k0 := h0
  have lt0 := places_lt k0
  obtain ⟨s0, rfl, _, _, ws0⟩ := open_string Tryd.underlying9 (hval 0 9 v0 rfl rfl) h0
  obtain ⟨⟨t0⟩⟩ := s0
  have k1 := h1
  have lt1 := places_lt k1
  obtain ⟨a1, len1, cap1, rfl⟩ := okWide_slice Tryd.underlying22 (hval 1 22 v1 rfl rfl)
  obtain ⟨fuel1, hf1⟩ := h1
  obtain ⟨l1, rfl, rr1, rc1, rm1, rw1⟩ := runes_of rfl Tryd.underlying22 Tryd.underlying21 (by kernel_rfl) hf1
  clear hA0 hval0
  refine (walk t0 a1 l1 cap1 W rr1 rc1 rm1 rw1 hk).mono fun e W' ⟨he, bel⟩ => ?_
  subst he
  exact ⟨_, rfl, _, _, _, [], _, [], hW', trodAll_mk1 (shut_bool Tryd.underlying4 _), (trodAll_cons_mk (Below.trod laidOut (by kernel_rfl) (of_decide_eq_true (by kernel_rfl)) k0 bel lt0) (trodAll_cons_mk (Below.trod laidOut (by kernel_rfl) (of_decide_eq_true (by kernel_rfl)) k1 bel lt1) trodAll_mk0)), rfl, bel.frame _, fun h => by cases h⟩

theorem laid_met (os : Os) : laidMet Tryd.prog Rows.utfRunesRow.laid ((Laid.laidWorld os).forCall (fun _ _ => 0) ⟨#[], #[.string ⟨#[]⟩, .slice none 0 0], []⟩).memory :=
  laidMet_of_run' 8 (by kernel_rfl) (by kernel_rfl)
set_option maxRecDepth 100000 in
theorem lifted (os : Os) (started : os.Started) (H : Type) (enc : TypeId × Value → H) (F : Stop.Interp) :
    ReturnsInHanded {} Tryd.checked os 3 .any ((OpenSpec.ofChange Rows.utfRunesSpec).preRow enc Tryd.prog Tryd.f3 Rows.utfRunesRow.domain false Rows.utfRunesRow.laid) (((OpenSpec.ofChange Rows.utfRunesSpec).at F).post enc Tryd.prog Tryd.f3 false true false false) := by
  obtain ⟨x, hx⟩ := Option.isSome_iff_exists.1 (show (DataW.whole enc Tryd.prog ((Laid.laidWorld os).forCall (fun _ _ => 0) ⟨#[], #[.string ⟨#[]⟩, .slice none 0 0], []⟩).memory Tryd.f3.params.toList Rows.utfRunesSpec.vars false (#[.string ⟨#[]⟩, .slice none 0 0] : Array Value).toList 8).isSome = true by kernel_rfl)
  refine returnsInHanded_of_row (C := Tryd.checked) (s := OpenSpec.ofChange Rows.utfRunesSpec) own started (by kernel_rfl) Tryd.func3
    (witness_row_at (enc := enc) (C := Tryd.checked) false (Laid.laidWorld os) #[.string ⟨#[]⟩, .slice none 0 0] rfl (by kernel_rfl) (by kernel_rfl) (by kernel_rfl)
      (OpenSpec.preRow_of_cond 8 hx (by rfl) (fun k hk => by cases hk) (by kernel_rfl) (laid_met os))) ?_
  intro W base args ds gs before hval hW _ _ _ hL _ _
  exact contract H enc W base args ds gs before hval hW hL
theorem said : Rows.UtfRunesSaid :=
  OpenClaim.holds_of_cond 3 Tryd.f3 rfl rfl rfl rfl rfl rfl rfl ⟨rfl, rfl, rfl, rfl, rfl⟩ rfl rfl rfl rfl rfl (by kernel_rfl) Tryd.func3 (by kernel_rfl)
    (of_decide_eq_true (by kernel_rfl)) (by unfold Func.isWrapper; first | (rw [if_pos (by decide +kernel)]; kernel_rfl) | (rw [if_neg (by decide +kernel)]; exact ⟨rfl, rfl⟩))
    (fun os started H enc _ F => by rw [OpenClaim.pre_eq_preRow]; exact lifted os started H enc F)
theorem plain (f : FuncId) (fn : Func) (hf : Tryd.pinned.checked.prog.funcNamed "oubliette/oubliettelaw02.UtfRunes" = some f) (hfn : Tryd.pinned.checked.prog.funcs[f]? = some fn) :
    false = Tryd.pinned.checked.prog.looks [] ∧ ∀ (j : Nat) t, fn.params[j]? = some t → Tryd.pinned.checked.prog.wantsStandIn t = false := by
  obtain rfl : f = 3 := Option.some.inj ((show Tryd.prog.funcNamed "oubliette/oubliettelaw02.UtfRunes" = some 3 by kernel_rfl).symm.trans hf) |>.symm
  obtain rfl : fn = Tryd.f3 := (Option.some.inj (Tryd.func3.symm.trans hfn)).symm
  refine ⟨by kernel_rfl, fun j t ht => ?_⟩
  rw [Tryd.params3] at ht
  have hm : t ∈ ([9, 22] : List TypeId) := by have := Array.mem_of_getElem? ht; simp at this; first | (subst this; simp; done) | (rcases this with h | h <;> (simp [h]; done)) | (rcases this with h | h | h <;> (simp [h]; done)) | (rcases this with h | h | h | h <;> (simp [h]; done)) | (rcases this with h | h | h | h | h <;> (simp [h]; done))
  have hall : (([9, 22] : List TypeId).all fun u => !Tryd.prog.wantsStandIn u) = true := by kernel_rfl
  exact (show Tryd.prog.wantsStandIn t = false by simpa using List.all_eq_true.1 hall t hm)
theorem proved : Rows.UtfRunesCardSaid :=
  Claim7.holds_tied_plain_at .later [] _ _ _ _ said (fun _ h => by cases h) (by kernel_rfl) (fun _ h => by cases h) utfRunes_row_tie rfl ⟨rfl, rfl⟩ (by kernel_rfl) rfl plain (by kernel_rfl)
#print axioms proved
end Go.Proofs.YtcagglcmikgdfaaDoor.UtfRunes
