/- BoxBack: for every input the law returns true: what is sealed is opened as it was, and has the size that is told. No condition. -/
import Derived.Test.YteecbjpnnklbpaaDoorGJ
import Derived.Test.YteecbjpnnklbpaaDoorGA
import Derived.Test.YteecbjpnnklbpaaDoorGK
namespace Go.Proofs.YteecbjpnnklbpaaDoor.BoxBack
open Go.ChangeShapes Go.WideShapes Go.ChangeAt Go.RowKit Go.Joins
open Go.ChangeMaps (open_string shut_string)
open Go.Proofs.YteecbjpnnklbpaaDoor.Box
open Go.Proofs.YteecbjpnnklbpaaDoor.Ctr (RetF)
set_option linter.unusedVariables false

set_option maxRecDepth 100000 in
set_option maxHeartbeats 1000000 in
theorem walk (A : Option Addr) (l : List UInt8) (c : Nat) (B : Option Addr) (m : List UInt8) (d : Nat) (T : Option Addr) (x : List UInt8) (g : Nat) (w : World)
    (ha : Rd w w.heap.size A (l.map e8)) (hc : l.length ≤ c) (hcm : c ≤ maxLen) (hb : Rd w w.heap.size B (m.map e8)) (hd : m.length ≤ d) (hdm : d ≤ maxLen) (hx : Rd w w.heap.size T (x.map e8)) (hg : x.length ≤ g) (hgm : g ≤ maxLen) (hk : Sha.Tab w) :
    Calls Tryd.prog 8 #[.slice A l.length c, .slice B m.length d, .slice T x.length g] w fun e w' => e = .returned (.bool true) ∧ Below w.heap.size w w' := by
  by_cases h1 : l.length = 32
  · by_cases h2 : m.length = 16
    · have e1 : ((l.length : Int) != 32) = false := bne_no (by omega)
      have e2 : ((m.length : Int) != 16) = false := bne_no (by omega)
      by_cases h3 : 200 < x.length
      · go_enter Tryd.func8, Tryd.ntmps8
        go_wp2_with (go_at_call 25; refine (Box.alive_any _ hk).mono ?_; rintro e w' ⟨rfl, hw⟩)
        go_ret
        exact ⟨rfl, hw⟩
      · have ho := Lib.hid (seal_any A B T l m x c d g w hc hcm hd hdm ha hb hx (by omega) (by omega) (by omega) hk)
        have hsf := seal_f h1 h2 (text := x) (by omega)
        have hsl := seal_len h1 h2 (text := x) (by omega)
        obtain ⟨_, _, hob, hof⟩ := back_tag h1 h2 (text := x) (by omega)
        have hop := Lib.hid (fun (A1 : Option Addr) c1 W (hW : Below w.heap.size w W) (q1 : (sealB l m x).length ≤ c1) (m1 : c1 ≤ maxLen) (r1 : Rd W W.heap.size A1 ((sealB l m x).map e8)) => open_any A A1 l (sealB l m x) c c1 W hc hcm q1 m1 (ha.on hW) r1 (by omega) (by omega) (hk.on hW))
        rw [hob, hof] at hop
        rw [hsf] at ho
        obtain ⟨S, hS⟩ : ∃ S, S = sealB l m x := ⟨_, rfl⟩
        rw [← hS] at ho hop hsl
        have Hsl := Lib.hid hsl
        have hsz := Lib.hid (fun W => (show Calls Tryd.prog 31 #[.int .i64 (x.length : Int)] W fun e w' => e = .returned (.int .i64 ((x.length : Int) + 48)) ∧ W = w' by
          have := size_any (x.length : Int) W (by omega) (by omega)
          rwa [show max (x.length : Int) 0 = (x.length : Int) by omega] at this))
        clear hS hsl hsf hob hof h1 h2
        go_enter Tryd.func8, Tryd.ntmps8
        go_wp2_with fail
        refine ho.out.mono ?_
        rintro e w1 ⟨A1, c1, rfl, r1, q1, m1, b1⟩
        go_wp2_with fail
        refine (hop.out A1 c1 w1 b1 q1 m1 r1).mono ?_
        rintro e w2 ⟨A2, c2, rfl, r2, q2, m2, b2⟩
        have bt2 := bt b1 b2
        go_wp2_with fail
        refine (R1.same_any A2 T x x _ _ _ _ _ rfl rfl r2 (hx.on bt2) (by omega) (by omega)).mono ?_
        rintro e w3 ⟨rfl, b3⟩
        rw [R1.sameB_self]
        have bt3 := bt bt2 b3
        rw [Hsl.out]
        go_wp2_with (first | (go_at_call 31; refine (hsz.out _).mono ?_; rintro e w' ⟨rfl, rfl⟩) | (go_at_call 25; refine (Box.alive_any _ (hk.on bt3)).mono ?_; rintro e w' ⟨rfl, hw⟩))
        go_ret
        exact ⟨rfl, bt bt3 hw⟩
    · have e1 : ((l.length : Int) != 32) = false := bne_no (by omega)
      have e2 : ((m.length : Int) != 16) = true := bne_yes (by omega)
      go_enter Tryd.func8, Tryd.ntmps8
      go_wp2_with (go_at_call 25; refine (Box.alive_any _ hk).mono ?_; rintro e w' ⟨rfl, hw⟩)
      go_ret
      exact ⟨rfl, hw⟩
  · have e1 : ((l.length : Int) != 32) = true := bne_yes (by omega)
    go_enter Tryd.func8, Tryd.ntmps8
    go_wp2_with (go_at_call 25; refine (Box.alive_any _ hk).mono ?_; rintro e w' ⟨rfl, hw⟩)
    go_ret
    exact ⟨rfl, hw⟩

set_option maxRecDepth 100000 in
theorem contract (H : Type) (enc : TypeId × Value → H) (W : World) (base : Nat) (args : Array Value) (ds gs : List (DataW H)) (before : List MemPlace)
    (hval0 : ∀ (j : Nat) t v, Tryd.f8.params[j]? = some t → args[j]? = some v → Value.okWide Tryd.prog W .any base t v)
    (hW : DataW.Whole enc Tryd.prog Tryd.f8.params.toList Rows.boxBackSpec.vars false W args.toList ds gs before) (hL : laidMetH Tryd.prog Rows.boxBackRow.laid W) :
    Calls Tryd.prog 8 args W fun e W' => ∃ v, e = .returned v ∧ Rows.boxBackSpec.post enc Tryd.prog Tryd.f8 false true false false W args v W' := by
  have hk : Sha.Tab W := Laid.tab hL
  have hval : ∀ (j : Nat) t v, Tryd.f8.params[j]? = some t → args[j]? = some v → Value.okWide Tryd.prog W .any base t v := hval0
  have hW' := hW
  obtain ⟨p, q, hA0, hV, rfl, hfz, hnd⟩ := hW
  have hA : DataW.TrodAll enc Tryd.prog W 0 (fun _ => true) true Tryd.f8.params.toList args.toList ds p := hA0
  rw [Tryd.params8] at hA hval
  obtain ⟨v0, vs0, d0, ds0, p0, q0, hargs, rfl, rfl, h0, r0⟩ := trodAll_cons hA
  obtain ⟨v1, vs1, d1, ds1, p1, q1, rfl, rfl, rfl, h1, r1⟩ := trodAll_cons r0
  obtain ⟨v2, vs2, d2, ds2, p2, q2, rfl, rfl, rfl, h2, r2⟩ := trodAll_cons r1
  obtain ⟨rfl, rfl, rfl⟩ := trodAll_nil r2
  obtain rfl : args = #[v0, v1, v2] := by cases args; simp_all
  obtain ⟨rfl, rfl⟩ := trodVars_none hV
  have k0 := h0
  have lt0 := places_lt k0
  obtain ⟨a0, len0, cap0, rfl⟩ := okWide_slice Tryd.underlying37 (hval 0 37 v0 rfl rfl)
  obtain ⟨fuel0, hf0⟩ := h0
  obtain ⟨l0, rfl, rr0, rc0, rm0⟩ := bytes_of rfl Tryd.underlying37 Tryd.underlying5 (by kernel_rfl) hf0
  have k1 := h1
  have lt1 := places_lt k1
  obtain ⟨a1, len1, cap1, rfl⟩ := okWide_slice Tryd.underlying37 (hval 1 37 v1 rfl rfl)
  obtain ⟨fuel1, hf1⟩ := h1
  obtain ⟨l1, rfl, rr1, rc1, rm1⟩ := bytes_of rfl Tryd.underlying37 Tryd.underlying5 (by kernel_rfl) hf1
  have k2 := h2
  have lt2 := places_lt k2
  obtain ⟨a2, len2, cap2, rfl⟩ := okWide_slice Tryd.underlying37 (hval 2 37 v2 rfl rfl)
  obtain ⟨fuel2, hf2⟩ := h2
  obtain ⟨l2, rfl, rr2, rc2, rm2⟩ := bytes_of rfl Tryd.underlying37 Tryd.underlying5 (by kernel_rfl) hf2
  clear hA0 hval0
  refine (walk a0 l0 cap0 a1 l1 cap1 a2 l2 cap2 W rr0 rc0 rm0 rr1 rc1 rm1 rr2 rc2 rm2 hk).mono fun e W' ⟨he, bel⟩ => ?_
  subst he
  exact ⟨_, rfl, _, _, _, [], _, [], hW', trodAll_mk1 (shut_bool Tryd.underlying4 _), (trodAll_cons_mk (Below.trod laidOut (by kernel_rfl) (of_decide_eq_true (by kernel_rfl)) k0 bel lt0) (trodAll_cons_mk (Below.trod laidOut (by kernel_rfl) (of_decide_eq_true (by kernel_rfl)) k1 bel lt1) (trodAll_cons_mk (Below.trod laidOut (by kernel_rfl) (of_decide_eq_true (by kernel_rfl)) k2 bel lt2) trodAll_mk0))), rfl, bel.frame _, fun h => by cases h⟩

theorem laid_met (os : Os) : laidMet Tryd.prog Rows.boxBackRow.laid ((Laid.laidWorld os).forCall (fun _ _ => 0) ⟨#[], #[.slice none 0 0, .slice none 0 0, .slice none 0 0], []⟩).memory :=
  laidMet_of_run' 8 (by kernel_rfl) (by kernel_rfl)
set_option maxRecDepth 100000 in
theorem lifted (os : Os) (started : os.Started) (H : Type) (enc : TypeId × Value → H) (F : Stop.Interp) :
    ReturnsInHanded {} Tryd.checked os 8 .any ((OpenSpec.ofChange Rows.boxBackSpec).preRow enc Tryd.prog Tryd.f8 Rows.boxBackRow.domain false Rows.boxBackRow.laid) (((OpenSpec.ofChange Rows.boxBackSpec).at F).post enc Tryd.prog Tryd.f8 false true false false) := by
  obtain ⟨x, hx⟩ := Option.isSome_iff_exists.1 (show (DataW.whole enc Tryd.prog ((Laid.laidWorld os).forCall (fun _ _ => 0) ⟨#[], #[.slice none 0 0, .slice none 0 0, .slice none 0 0], []⟩).memory Tryd.f8.params.toList Rows.boxBackSpec.vars false (#[.slice none 0 0, .slice none 0 0, .slice none 0 0] : Array Value).toList 8).isSome = true by kernel_rfl)
  refine returnsInHanded_of_row (C := Tryd.checked) (s := OpenSpec.ofChange Rows.boxBackSpec) own started (by kernel_rfl) Tryd.func8
    (witness_row_at (enc := enc) (C := Tryd.checked) false (Laid.laidWorld os) #[.slice none 0 0, .slice none 0 0, .slice none 0 0] rfl (by kernel_rfl) (by kernel_rfl) (by kernel_rfl)
      (OpenSpec.preRow_of_cond 8 hx (by rfl) (fun k hk => by cases hk) (by kernel_rfl) (laid_met os))) ?_
  intro W base args ds gs before hval hW _ _ _ hL _ _
  exact contract H enc W base args ds gs before hval hW hL
theorem said : Rows.BoxBackSaid :=
  OpenClaim.holds_of_cond 8 Tryd.f8 rfl rfl rfl rfl rfl rfl rfl ⟨rfl, rfl, rfl, rfl, rfl⟩ rfl rfl rfl rfl rfl (by kernel_rfl) Tryd.func8 (by kernel_rfl)
    (of_decide_eq_true (by kernel_rfl)) (by unfold Func.isWrapper; first | (rw [if_pos (by decide +kernel)]; kernel_rfl) | (rw [if_neg (by decide +kernel)]; exact ⟨rfl, rfl⟩))
    (fun os started H enc _ F => by rw [OpenClaim.pre_eq_preRow]; exact lifted os started H enc F)
theorem plain (f : FuncId) (fn : Func) (hf : Tryd.pinned.checked.prog.funcNamed "oubliette/oubliettelaw13.BoxBack" = some f) (hfn : Tryd.pinned.checked.prog.funcs[f]? = some fn) :
    false = Tryd.pinned.checked.prog.looks [] ∧ ∀ (j : Nat) t, fn.params[j]? = some t → Tryd.pinned.checked.prog.wantsStandIn t = false := by
  obtain rfl : f = 8 := Option.some.inj ((show Tryd.prog.funcNamed "oubliette/oubliettelaw13.BoxBack" = some 8 by kernel_rfl).symm.trans hf) |>.symm
  obtain rfl : fn = Tryd.f8 := (Option.some.inj (Tryd.func8.symm.trans hfn)).symm
  refine ⟨by kernel_rfl, fun j t ht => ?_⟩
  rw [Tryd.params8] at ht
  have hm : t ∈ ([37] : List TypeId) := by have := Array.mem_of_getElem? ht; simp at this; first | (subst this; simp; done) | (rcases this with h | h <;> (simp [h]; done)) | (rcases this with h | h | h <;> (simp [h]; done)) | (rcases this with h | h | h | h <;> (simp [h]; done)) | (rcases this with h | h | h | h | h <;> (simp [h]; done))
  have hall : (([37] : List TypeId).all fun u => !Tryd.prog.wantsStandIn u) = true := by kernel_rfl
  exact (show Tryd.prog.wantsStandIn t = false by simpa using List.all_eq_true.1 hall t hm)
theorem proved : Rows.BoxBackCardSaid :=
  Claim7.holds_tied_plain_at .later [] _ _ _ _ said (fun _ h => by cases h) (by kernel_rfl) (fun _ h => by cases h) boxBack_row_tie rfl ⟨rfl, rfl⟩ (by kernel_rfl) rfl plain (by kernel_rfl)
#print axioms proved
end Go.Proofs.YteecbjpnnklbpaaDoor.BoxBack
