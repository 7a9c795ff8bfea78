/- ShaBlocks: for every input the law returns true: the padding of any number of bytes, the words of any block, and any words turned by it. No condition. -/
import Derived.Test.YtggldbadefbdaaaDoorShaR3
import Derived.Test.YtggldbadefbdaaaDoorShaA
import Derived.Test.YtggldbadefbdaaaDoorRef01
import Derived.Test.YtggldbadefbdaaaDoorOpen
import Derived.Test.YtggldbadefbdaaaDoorTab
import Derived.Test.YtggldbadefbdaaaDoorArrEq
import Derived.Deep.RegionHeld3
namespace Go.Proofs.YtggldbadefbdaaaDoor.ShaBlocks
open Go.ChangeShapes Go.WideShapes Go.ChangeAt Go.RowKit Go.Joins
open Go.ChangeMaps (open_string shut_string)
set_option linter.unusedVariables false
theorem list32 : ∀ zs : List Int, (∀ z ∈ zs, (Lit.int .u32 z).wf = true) → ∃ l : List UInt32, zs = l.map Sha.c32
  | [], _ => ⟨[], rfl⟩
  | z :: zs, h => by
    obtain ⟨x, hx⟩ := wf32 (h z (by simp))
    obtain ⟨l, hl⟩ := list32 zs (fun y hy => h y (by simp [hy]))
    exact ⟨x :: l, by rw [hl, hx]; rfl⟩
theorem h8_list (l : List UInt32) (h : l.length = 8) : ∃ s : Sha.H8, s.list = l := by
  match l, h with
  | [a, b, c, d, e, f, g, k], _ => exact ⟨⟨a, b, c, d, e, f, g, k⟩, rfl⟩
theorem arr8w_of {H : Type} {enc : TypeId × Value → H} {w : World} {r : Reach} {base : Nat} {v : Value} {d : DataW H} {p : List MemPlace} (hv : Value.okWide Tryd.prog w r base 23 v) (h : DataW.Trod enc Tryd.prog w 0 (fun _ => true) true 23 v d p) :
    ∃ s : Sha.H8, True ∧ v = Sha.h8V s := by
  obtain ⟨zs, hl, rfl, hw⟩ := arr_ints Tryd.underlying23 Tryd.underlying22 (by kernel_rfl) (by kernel_rfl) hv h
  obtain ⟨l, rfl⟩ := list32 zs hw
  obtain ⟨s, rfl⟩ := h8_list l (by simpa using hl)
  exact ⟨s, trivial, rfl⟩
theorem vw_ints (l : List UInt32) : arrV (Sha.vw l) = .agg ((l.map Sha.c32).map (Value.int .u32)).toArray := by simp [Sha.vw, Function.comp_def, arrV]
theorem size1 (w : World) : (sizeOf 22).run Tryd.prog w = .ok 1 w := by simp [sizeOf, go_sem]; rfl
theorem eq64 (l : List UInt32) (h : l.length = 64) (w : World) : (binOp .eql 28 (arrV (Sha.vw l)) (arrV (Sha.vw l))).run Tryd.prog w = .ok (.bool true) w := by
  rw [vw_ints]; exact run_eql_self w _ _ 64 .u32 Tryd.underlying28 Tryd.underlying22 size1 _ (by simpa using h)
theorem eq8 (s : Sha.H8) (w : World) : (binOp .eql 23 (Sha.h8V s) (Sha.h8V s)).run Tryd.prog w = .ok (.bool true) w := by
  rw [show Sha.h8V s = _ from vw_ints s.list]; exact run_eql_self w _ _ 8 .u32 Tryd.underlying23 Tryd.underlying22 size1 _ (by simp [Sha.H8.list_len])
/-- what Pad tells, of any number -/
def padZ (n : Int) : List UInt8 := if 0 ≤ n ∧ n ≤ 1099511627776 then Sha.padB n.toNat else []
theorem padZ_le (n : Int) : (padZ n).length ≤ 72 := by
  unfold padZ; split
  · exact Sha.padB_le _
  · simp
set_option maxHeartbeats 400000 in
theorem pad_int (n : Int) (w : World) (h0 : -9223372036854775808 ≤ n) (h1 : n ≤ 9223372036854775807) : Calls Tryd.prog 15 #[.int .i64 n] w fun e w' => RetB 5 w (padZ n) e w' := by
  by_cases h : 0 ≤ n ∧ n ≤ 1099511627776
  · rw [padZ, if_pos h]
    exact Sha.pad_any n.toNat n (by omega) (by omega) w
  · rw [padZ, if_neg h]
    by_cases hn : n < 0
    · go_enter Tryd.func15, Tryd.ntmps15
      go_wp2_with fail
      go_ret
      exact RetB.mk (own_nil _ _ _ _) rfl (Below.refl _ _)
    · have hg : 1099511627776 < n := by omega
      have hn' : 0 ≤ n := by omega
      go_enter Tryd.func15, Tryd.ntmps15
      go_wp2_with fail
      go_ret
      exact RetB.mk (own_nil _ _ _ _) rfl (Below.refl _ _)
set_option maxHeartbeats 400000 in
theorem rpad_int (n : Int) (w : World) (h0 : -9223372036854775808 ≤ n) (h1 : n ≤ 9223372036854775807) : Calls Tryd.prog 16 #[.int .i64 n] w fun e w' => RetB 5 w (padZ n) e w' := by
  by_cases h : 0 ≤ n ∧ n ≤ 1099511627776
  · rw [padZ, if_pos h]
    exact Sha.rpad_any n.toNat n (by omega) (by omega) w
  · rw [padZ, if_neg h]
    by_cases hn : n < 0
    · go_enter Tryd.func16, Tryd.ntmps16
      go_wp2_with fail
      go_ret
      exact RetB.mk (own_nil _ _ _ _) rfl (Below.refl _ _)
    · have hg : 1099511627776 < n := by omega
      have hn' : 0 ≤ n := by omega
      go_enter Tryd.func16, Tryd.ntmps16
      go_wp2_with fail
      go_ret
      exact RetB.mk (own_nil _ _ _ _) rfl (Below.refl _ _)

set_option maxRecDepth 100000 in
set_option maxHeartbeats 400000 in
theorem walk (s : Sha.H8) (A : Option Addr) (l : List UInt8) (c : Nat) (n : Int) (w : World) (_ : True)
    (ha : Rd w w.heap.size A (l.map e8)) (hc : l.length ≤ c) (hcm : c ≤ maxLen) (h0 : -9223372036854775808 ≤ n) (h1 : n ≤ 9223372036854775807) (hk : Sha.Tab w) :
    Calls Tryd.prog 3 #[Sha.h8V s, .slice A l.length c, .int .i64 n] w fun e w' => e = .returned (.bool true) ∧ Below w.heap.size w w' := by
  unfold maxLen at hcm
  by_cases hlen : 200 < l.length
  · go_enter Tryd.func3, Tryd.ntmps3
    go_wp2_with (first
      | (refine wpList_boxN rfl _ _ rfl s.vals rfl ?_; intro wb hb bwb hsb)
      | fail)
    refine (Sha.alive_any _ (hk.on bwb)).mono ?_
    rintro e w1 ⟨rfl, hw⟩
    go_wp2_with fail
    go_ret
    exact ⟨rfl, bt bwb hw⟩
  · have hl72 := padZ_le n
    have hE8 := eq8 (Sha.block s l)
    have hE64 := eq64 (Sha.words l) (Sha.words_len l)
    have hG8 : ∀ x y w, (eqGuard .eql 23 x y (Sha.h8V (Sha.block s l)) (Sha.h8V (Sha.block s l))).run Tryd.prog w = .ok () w := fun x y w => run_eqGuard_agg w _ _ x y _ _ (by kernel_rfl)
    have hG64 : ∀ x y w, (eqGuard .eql 28 x y (arrV (Sha.vw (Sha.words l))) (arrV (Sha.vw (Sha.words l)))).run Tryd.prog w = .ok () w := fun x y w => run_eqGuard_agg w _ _ x y _ _ (by kernel_rfl)
    have hwords : ∀ W, Below w.heap.size w W → Calls Tryd.prog 17 #[.slice A l.length c] W fun e w' => e = .returned (arrV (Sha.vw (Sha.words l))) ∧ Below W.heap.size W w' := fun W hW =>
      Sha.words_any A l _ c W rfl hc hcm (ha.on hW)
    have hrwords : ∀ W, Below w.heap.size w W → Calls Tryd.prog 18 #[.slice A l.length c] W fun e w' => e = .returned (arrV (Sha.vw (Sha.words l))) ∧ Below W.heap.size W w' := fun W hW =>
      Sha.rwords_any A l _ c W rfl hc hcm (ha.on hW)
    have hblock : ∀ W, Below w.heap.size w W → Calls Tryd.prog 19 #[Sha.h8V s, .slice A l.length c] W fun e w' => e = .returned (Sha.h8V (Sha.block s l)) ∧ Below W.heap.size W w' := fun W hW =>
      Sha.block_any s A l _ c W rfl hc hcm (ha.on hW) (hk.on hW)
    have hwith : ∀ W, Below w.heap.size w W → Calls Tryd.prog 20 #[arrV (Sha.vw Sha.kTab), Sha.h8V s, .slice A l.length c] W fun e w' => e = .returned (Sha.h8V (Sha.block s l)) ∧ Below W.heap.size W w' := fun W hW =>
      Sha.rwith_any s A l _ c W rfl hc hcm (ha.on hW)
    have htab : ∀ W, Calls Tryd.prog 21 #[] W fun e w' => e = .returned (arrV (Sha.vw Sha.kTab)) ∧ Below W.heap.size W w' := Sha.table_any
    obtain ⟨U, hU⟩ : ∃ U, U = Sha.h8V (Sha.block s l) := ⟨_, rfl⟩
    obtain ⟨V, hV⟩ : ∃ V, V = arrV (Sha.vw (Sha.words l)) := ⟨_, rfl⟩
    obtain ⟨KT, hKT⟩ : ∃ KT, KT = arrV (Sha.vw Sha.kTab) := ⟨_, rfl⟩
    obtain ⟨Z, hZ⟩ : ∃ Z, Z = padZ n := ⟨_, rfl⟩
    have hpad := fun W => pad_int n W h0 h1
    have hrpad := fun W => rpad_int n W h0 h1
    rw [← hZ] at hl72 hpad hrpad
    rw [← hU] at hE8 hG8 hblock hwith
    rw [← hV] at hE64 hG64 hwords hrwords
    rw [← hKT] at hwith htab
    have Hwords := Lib.hid hwords
    have Hrwords := Lib.hid hrwords
    have Hblock := Lib.hid hblock
    have Hwith := Lib.hid hwith
    have Htab := Lib.hid htab
    have Hpad := Lib.hid hpad
    have Hrpad := Lib.hid hrpad
    have Hk := Lib.hid hk
    have Hl72 := Lib.hid hl72
    clear hwords hrwords hblock hwith htab hU hV hKT hZ hpad hrpad hl72 hk
    go_enter Tryd.func3, Tryd.ntmps3
    go_wp2_with (first
      | (refine wpList_boxN rfl _ _ rfl s.vals rfl ?_; intro wb hb bwb hsb)
      | fail)
    have H8 : ∀ W, Below wb.heap.size wb W → _ := fun W hW => Sha.Blk.eight (hb.on hW)
    have Hs8 := Lib.hid H8
    clear H8
    have bb0 : Below wb.heap.size wb wb.drew := (Below.refl _ _).drew
    have bbr : Below wb.heap.size wb wb := (Below.refl _ _)
    go_region_held3 (fun w' => w'.cell? ⟨w.heap.size, 0, none⟩ = some (Sha.e32 s.a) ∧ w'.cell? ⟨w.heap.size, 1, none⟩ = some (Sha.e32 s.b) ∧ w'.cell? ⟨w.heap.size, 2, none⟩ = some (Sha.e32 s.c) ∧ w'.cell? ⟨w.heap.size, 3, none⟩ = some (Sha.e32 s.d) ∧ w'.cell? ⟨w.heap.size, 4, none⟩ = some (Sha.e32 s.e) ∧ w'.cell? ⟨w.heap.size, 5, none⟩ = some (Sha.e32 s.f) ∧ w'.cell? ⟨w.heap.size, 6, none⟩ = some (Sha.e32 s.g) ∧ w'.cell? ⟨w.heap.size, 7, none⟩ = some (Sha.e32 s.h)) (exact Hs8.out _ (by assumption))
      (first
      | (go_at_call 15; refine (Hpad.out _).mono ?_; rintro e w1 ⟨A1, c1, rfl, own1, b1⟩; have bb1 : Below wb.heap.size wb w1 := bt bb0 b1)
      | (go_at_call 16; refine (Hrpad.out _).mono ?_; rintro e w2 ⟨A2, c2, rfl, own2, b2⟩; have bb2 : Below wb.heap.size wb w2 := bt bb1 b2)
      | (go_at_call 14; refine (R1.same_any _ _ Z Z _ _ _ _ _ rfl rfl ((Rd.own own1).on b2) (Rd.own own2) (by have := Hl72.out; omega) (by have := Hl72.out; omega)).mono ?_; rintro e w3 ⟨rfl, b3⟩; rw [R1.sameB_self]; have bb3 : Below wb.heap.size wb w3 := bt bb2 b3)
      | (go_at_call 17; refine (Hwords.out _ (bt bwb bb3)).mono ?_; rintro e w4 ⟨rfl, b4⟩; have bb4 : Below wb.heap.size wb w4 := bt bb3 b4)
      | (go_at_call 18; refine (Hrwords.out _ (bt bwb bb4)).mono ?_; rintro e w5 ⟨rfl, b5⟩; have bb5 : Below wb.heap.size wb w5 := bt bb4 b5)
      | (go_at_call 19; refine (Hblock.out _ (bt bwb bb5)).mono ?_; rintro e w6 ⟨rfl, b6⟩; have bb6 : Below wb.heap.size wb w6 := bt bb5 b6)
      | (go_at_call 21; refine (Htab.out _).mono ?_; rintro e w7 ⟨rfl, b7⟩; have bb7 : Below wb.heap.size wb w7 := bt bb6 b7)
      | (go_at_call 20; refine (Hwith.out _ (bt bwb bb7)).mono ?_; rintro e w8 ⟨rfl, b8⟩; have bb8 : Below wb.heap.size wb w8 := bt bb7 b8)
      | (go_at_call 13; refine (Sha.alive_any _ (Hk.out.on (bt bwb bb8))).mono ?_; rintro e w9 ⟨rfl, b9⟩; have bb9 : Below wb.heap.size wb w9 := bt bb8 b9)
      | fail)
    all_goals
      go_wp2
      go_ret
      exact ⟨rfl, bt bwb bb9⟩

set_option maxRecDepth 100000 in
theorem contract (H : Type) (enc : TypeId × Value → H) (W : World) (base : Nat) (args : Array Value) (ds gs : List (DataW H)) (before : List MemPlace)
    (hval0 : ∀ (j : Nat) t v, Tryd.f3.params[j]? = some t → args[j]? = some v → Value.okWide Tryd.prog W .any base t v)
    (hW : DataW.Whole enc Tryd.prog Tryd.f3.params.toList Rows.shaBlocksSpec.vars false W args.toList ds gs before) (hL : laidMetH Tryd.prog Rows.shaBlocksRow.laid W) :
    Calls Tryd.prog 3 args W fun e W' => ∃ v, e = .returned v ∧ Rows.shaBlocksSpec.post enc Tryd.prog Tryd.f3 false true false false W args v W' := by
  have hk : Sha.Tab W := Laid.tab hL
  have hval : ∀ (j : Nat) t v, Tryd.f3.params[j]? = some t → args[j]? = some v → Value.okWide Tryd.prog W .any base t v := hval0
  have hW' := hW
  obtain ⟨p, q, hA0, hV, rfl, hfz, hnd⟩ := hW
  have hA : DataW.TrodAll enc Tryd.prog W 0 (fun _ => true) true Tryd.f3.params.toList args.toList ds p := hA0
  rw [Tryd.params3] at hA hval
  obtain ⟨v0, vs0, d0, ds0, p0, q0, hargs, rfl, rfl, h0, r0⟩ := trodAll_cons hA
  obtain ⟨v1, vs1, d1, ds1, p1, q1, rfl, rfl, rfl, h1, r1⟩ := trodAll_cons r0
  obtain ⟨v2, vs2, d2, ds2, p2, q2, rfl, rfl, rfl, h2, r2⟩ := trodAll_cons r1
  obtain ⟨rfl, rfl, rfl⟩ := trodAll_nil r2
  obtain rfl : args = #[v0, v1, v2] := by cases args; simp_all
  obtain ⟨rfl, rfl⟩ := trodVars_none hV
  have k0 := h0
  have lt0 := places_lt k0
  obtain ⟨x0, hx0, rfl⟩ := arr8w_of (hval 0 23 v0 rfl rfl) h0
  have k1 := h1
  have lt1 := places_lt k1
  obtain ⟨a1, len1, cap1, rfl⟩ := okWide_slice Tryd.underlying24 (hval 1 24 v1 rfl rfl)
  obtain ⟨fuel1, hf1⟩ := h1
  obtain ⟨l1, rfl, rr1, rc1, rm1⟩ := bytes_of rfl Tryd.underlying24 Tryd.underlying5 (by kernel_rfl) hf1
  have k2 := h2
  have lt2 := places_lt k2
  obtain ⟨n2, rfl, _, _, w2⟩ := open_int Tryd.underlying3 (hval 2 3 v2 rfl rfl) h2
  clear hA0 hval0
  refine (walk x0 a1 l1 cap1 n2 W hx0 rr1 rc1 rm1 (wfi w2).1 (wfi w2).2 hk).mono fun e W' ⟨he, bel⟩ => ?_
  subst he
  exact ⟨_, rfl, _, _, _, [], _, [], hW', trodAll_mk1 (shut_bool Tryd.underlying4 _), (trodAll_cons_mk (Below.trod laidOut (by kernel_rfl) (of_decide_eq_true (by kernel_rfl)) k0 bel lt0) (trodAll_cons_mk (Below.trod laidOut (by kernel_rfl) (of_decide_eq_true (by kernel_rfl)) k1 bel lt1) (trodAll_cons_mk (Below.trod laidOut (by kernel_rfl) (of_decide_eq_true (by kernel_rfl)) k2 bel lt2) trodAll_mk0))), rfl, bel.frame _, fun h => by cases h⟩

theorem laid_met (os : Os) : laidMet Tryd.prog Rows.shaBlocksRow.laid ((Laid.laidWorld os).forCall (fun _ _ => 0) ⟨#[], #[.agg #[.int .u32 0, .int .u32 0, .int .u32 0, .int .u32 0, .int .u32 0, .int .u32 0, .int .u32 0, .int .u32 0], .slice none 0 0, .int .i64 0], []⟩).memory :=
  laidMet_of_run' 8 (by kernel_rfl) (by kernel_rfl)
set_option maxRecDepth 100000 in
theorem lifted (os : Os) (started : os.Started) (H : Type) (enc : TypeId × Value → H) (F : Stop.Interp) :
    ReturnsInHanded {} Tryd.checked os 3 .any ((OpenSpec.ofChange Rows.shaBlocksSpec).preRow enc Tryd.prog Tryd.f3 Rows.shaBlocksRow.domain false Rows.shaBlocksRow.laid) (((OpenSpec.ofChange Rows.shaBlocksSpec).at F).post enc Tryd.prog Tryd.f3 false true false false) := by
  obtain ⟨x, hx⟩ := Option.isSome_iff_exists.1 (show (DataW.whole enc Tryd.prog ((Laid.laidWorld os).forCall (fun _ _ => 0) ⟨#[], #[.agg #[.int .u32 0, .int .u32 0, .int .u32 0, .int .u32 0, .int .u32 0, .int .u32 0, .int .u32 0, .int .u32 0], .slice none 0 0, .int .i64 0], []⟩).memory Tryd.f3.params.toList Rows.shaBlocksSpec.vars false (#[.agg #[.int .u32 0, .int .u32 0, .int .u32 0, .int .u32 0, .int .u32 0, .int .u32 0, .int .u32 0, .int .u32 0], .slice none 0 0, .int .i64 0] : Array Value).toList 8).isSome = true by kernel_rfl)
  refine returnsInHanded_of_row (C := Tryd.checked) (s := OpenSpec.ofChange Rows.shaBlocksSpec) own started (by kernel_rfl) Tryd.func3
    (witness_row_at (enc := enc) (C := Tryd.checked) false (Laid.laidWorld os) #[.agg #[.int .u32 0, .int .u32 0, .int .u32 0, .int .u32 0, .int .u32 0, .int .u32 0, .int .u32 0, .int .u32 0], .slice none 0 0, .int .i64 0] rfl (by kernel_rfl) (by kernel_rfl) (by kernel_rfl)
      (OpenSpec.preRow_of_cond 8 hx (by rfl) (fun k hk => by cases hk) (by kernel_rfl) (laid_met os))) ?_
  intro W base args ds gs before hval hW _ _ _ hL _ _
  exact contract H enc W base args ds gs before hval hW hL
theorem said : Rows.ShaBlocksSaid :=
  OpenClaim.holds_of_cond 3 Tryd.f3 rfl rfl rfl rfl rfl rfl rfl ⟨rfl, rfl, rfl, rfl, rfl⟩ rfl rfl rfl rfl rfl (by kernel_rfl) Tryd.func3 (by kernel_rfl)
    (of_decide_eq_true (by kernel_rfl)) (by unfold Func.isWrapper; first | (rw [if_pos (by decide +kernel)]; kernel_rfl) | (rw [if_neg (by decide +kernel)]; exact ⟨rfl, rfl⟩))
    (fun os started H enc _ F => by rw [OpenClaim.pre_eq_preRow]; exact lifted os started H enc F)
theorem plain (f : FuncId) (fn : Func) (hf : Tryd.pinned.checked.prog.funcNamed "oubliette/oubliettelaw07.ShaBlocks" = some f) (hfn : Tryd.pinned.checked.prog.funcs[f]? = some fn) :
    false = Tryd.pinned.checked.prog.looks [] ∧ ∀ (j : Nat) t, fn.params[j]? = some t → Tryd.pinned.checked.prog.wantsStandIn t = false := by
  obtain rfl : f = 3 := Option.some.inj ((show Tryd.prog.funcNamed "oubliette/oubliettelaw07.ShaBlocks" = some 3 by kernel_rfl).symm.trans hf) |>.symm
  obtain rfl : fn = Tryd.f3 := (Option.some.inj (Tryd.func3.symm.trans hfn)).symm
  refine ⟨by kernel_rfl, fun j t ht => ?_⟩
  rw [Tryd.params3] at ht
  have hm : t ∈ ([3, 23, 24] : List TypeId) := by have := Array.mem_of_getElem? ht; simp at this; first | (subst this; simp; done) | (rcases this with h | h <;> (simp [h]; done)) | (rcases this with h | h | h <;> (simp [h]; done)) | (rcases this with h | h | h | h <;> (simp [h]; done)) | (rcases this with h | h | h | h | h <;> (simp [h]; done))
  have hall : (([3, 23, 24] : List TypeId).all fun u => !Tryd.prog.wantsStandIn u) = true := by kernel_rfl
  exact (show Tryd.prog.wantsStandIn t = false by simpa using List.all_eq_true.1 hall t hm)
theorem proved : Rows.ShaBlocksCardSaid :=
  Claim7.holds_tied_plain_at .later [] _ _ _ _ said (fun _ h => by cases h) (by kernel_rfl) (fun _ h => by cases h) shaBlocks_row_tie rfl ⟨rfl, rfl⟩ (by kernel_rfl) rfl plain (by kernel_rfl)
#print axioms proved
end Go.Proofs.YtggldbadefbdaaaDoor.ShaBlocks
