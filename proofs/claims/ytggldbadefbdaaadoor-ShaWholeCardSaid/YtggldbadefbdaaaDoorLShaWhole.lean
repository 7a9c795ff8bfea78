/- ShaWhole: for every input the law returns true: with its padding each row is whole blocks, and turning these one by one comes to the sum. No condition. -/
import Derived.Test.YtggldbadefbdaaaDoorShaR3
import Derived.Test.YtggldbadefbdaaaDoorShaA
import Derived.Test.YtggldbadefbdaaaDoorRef01
import Derived.Test.YtggldbadefbdaaaDoorOpen
import Derived.Test.YtggldbadefbdaaaDoorTab
namespace Go.Proofs.YtggldbadefbdaaaDoor.ShaWhole
open Go.ChangeShapes Go.WideShapes Go.ChangeAt Go.RowKit Go.Joins
open Go.ChangeMaps (open_string shut_string)
open Go.Proofs.YtggldbadefbdaaaDoor.Sha
set_option linter.unusedVariables false

set_option maxRecDepth 100000 in
set_option maxHeartbeats 800000 in
theorem walk (A : Option Addr) (l : List UInt8) (c : Nat) (w : World)
    (hr : Rd w w.heap.size A (l.map e8)) (hc : l.length ≤ c) (hcm : c ≤ maxLen) (hk : Sha.Tab w) :
    Calls Tryd.prog 5 #[.slice A l.length c] w fun e w' => e = .returned (.bool true) ∧ Below w.heap.size w w' := by
  unfold maxLen at hcm
  by_cases hlen : 300 < l.length
  · go_enter Tryd.func5, Tryd.ntmps5
    go_wp2_with (go_at_call 13; refine (Sha.alive_any _ hk).mono ?_; rintro e w' ⟨rfl, hw⟩)
    go_ret
    exact ⟨rfl, hw⟩
  · obtain ⟨i0, hi0, hz0, hz1, hz2⟩ := info_parts Num.info8
    go_enter Tryd.func5, Tryd.ntmps5
    go_wp2_with fail
    refine (pad_any l.length _ rfl (by omega) w).mono ?_
    rintro e w6 ⟨A6, c6, rfl, own6, bt6⟩
    have hpl := padB_le l.length
    go_wp2_with fail
    refine (R1.join_any A A6 l (padB l.length) _ _ _ _ w6 rfl rfl (hr.on bt6) (Rd.own own6) (by omega)).mono ?_
    rintro e w7 ⟨A7, c7, rfl, own7, bw7⟩
    have bt7 := bt bt6 bw7
    have hpl2 := padB_len l.length
    have hwl : (whole l).length ≤ 372 := by rw [whole, List.length_append]; omega
    have hwlo : l.length + 9 ≤ (whole l).length := by rw [whole, List.length_append]; omega
    have hwhi : (whole l).length ≤ l.length + 72 := by rw [whole, List.length_append]; omega
    rw [show l ++ padB l.length = whole l from rfl] at own7 ⊢
    obtain ⟨m, hm⟩ : ∃ m, (whole l).length = 64 * m := ⟨(whole l).length / 64, by have := whole_mod l; omega⟩
    have hres : sum l = out8 (turned (whole l) m) := by rw [sum, hm, Nat.mul_div_cancel_left _ (by omega)]
    have Hres := Lib.hid hres
    have hm0 : 0 < m := by
      rcases Nat.eq_zero_or_pos m with h | h
      · subst h; simp [whole, padB] at hm
      · exact h
    obtain ⟨g7, rfl, hg7, hcap, hrd⟩ : ∃ g, A7 = some ⟨g, 0, none⟩ ∧ w6.heap.size ≤ g ∧ (64 * m ≤ c7 ∧ c7 ≤ maxLen) ∧ Rd w7 w7.heap.size (some ⟨g, 0, none⟩) ((whole l).map e8) := by
      have hcap := own_cap own7
      have hrd := Rd.own own7
      rcases own7.2 with ⟨hv, hn⟩ | ⟨g, cap, cur, hv, hg, _⟩
      · omega
      · injection hv with hA _ _
        subst hA
        exact ⟨g, rfl, hg, by rw [← hm]; exact hcap, hrd⟩
    rw [hm] at hwl hwlo hwhi ⊢
    obtain ⟨all, hall⟩ : ∃ all, all = whole l := ⟨_, rfl⟩
    rw [← hall] at hrd hm Hres
    have Hm := Lib.hid hm
    have hg7s : g7 < w7.heap.size := by
      obtain ⟨b, off, hb, hlt, _⟩ := hrd (by intro e; have h0 := congrArg List.length e; rw [List.length_map, hm] at h0; simp at h0; omega)
      cases hb; exact hlt
    obtain ⟨M, hM⟩ : ∃ M, M = 64 * m := ⟨_, rfl⟩
    have t64 : ((M : Int)).tmod 64 = 0 := by rw [Int.tmod_eq_emod_of_nonneg (by omega)]; omega
    rw [← hM] at hcap hwl hwlo hwhi ⊢
    have HM := Lib.hid hM
    have hk7 := hk.on bt7
    clear hM hm hall hres own6 own7 bt6 bw7 hpl hpl2
    unfold maxLen at hcap
    obtain ⟨hc1, hc2⟩ := hcap
    go_wp2_with fail
    refine (first_any w7).mono ?_
    rintro e w3 ⟨rfl, bw3⟩
    have bt3 := bt bt7 bw3
    go_wp2_with (first
      | ((with_reducible show wpList _ _ _ (⟨some 4, _, _, _, _, _⟩ :: _) _ _); refine wpList_allocN rfl _ rfl (vw (List.replicate 8 0)) zero23 ?_; intro w4 hb4 bw4 hs4; have bt4 := bt bt3 bw4)
      | ((with_reducible show wpList _ _ _ (⟨none, .store 23 _ _, _, _, _, _⟩ :: _) _ _); refine wpList_storeN rfl 23 _ _ rfl rfl (ys := first.vals) rfl hb4 rfl (vw_one _) size23 ?_; intro w5 hb5 hg5)
      | fail)
    have bt5 := below_row bt4 hg5 bt3.size bt4.size
    have hrd5 := Sha.rd_row ((hrd.on bw3).on bw4) hg5 (by have := bw3.size; omega)
    obtain ⟨Bh, e2⟩ : ∃ B, B = w3.heap.size := ⟨_, rfl⟩
    have l27 : g7 ≠ Bh := by have := bw3.size; omega
    have lBh : w.heap.size ≤ Bh := by have := bt3.size; omega
    rw [← e2] at hb5 ⊢
    clear e2 hb4 hg5 bw3 bw4 bt3 bt4 hs4 hrd hg7 hg7s
    go_wp2_with fail
    go_loopw [5] (fun i wr => ∃ k j : Nat, k ≤ m ∧ Hid (j = 64 * k) ∧ i = .int .i64 (j : Int) ∧ Blk wr Bh (turned all k).vals ∧ Below w.heap.size w wr ∧ Rd wr wr.heap.size (some ⟨g7, 0, none⟩) (all.map e8)) (fun i _ => M + 1 - (intOf i).toNat)
    case atStart => exact ⟨0, 0, by omega, Lib.hid rfl, rfl, hb5, bt5, hrd5⟩
    case round =>
      obtain ⟨k, j, hkm, hj, rfl, d4, bt0, hrr⟩ := hrel
      have hj' := hj.out
      have hm' := HM.out
      have hkr := hk.on bt0
      by_cases hlt : k < m
      · have hjM : j + 64 ≤ M := by omega
        have hjM' : (j : Int) + 64 ≤ (M : Int) := by omega
        clear hj' hm'
        have hM1 := Hm.out
        have hlx : (blk all k).length = 64 := by rw [blk, List.length_take, List.length_drop]; omega
        have hrd2 : Rd wr wr.heap.size (some ⟨g7, j, none⟩) ((blk all k).map e8) := by
          have h1 := hrr.drop j
          simp only [Option.map_some, Addr.add_lit, Nat.zero_add] at h1
          rw [blk, List.map_take, List.map_drop, ← hj.out]
          exact h1.take 64
        obtain ⟨R, hR⟩ : ∃ R, R = turned all k := ⟨_, rfl⟩
        rw [← hR] at d4
        obtain ⟨bl, hbl⟩ : ∃ bl, bl = blk all k := ⟨_, rfl⟩
        rw [← hbl] at hrd2 hlx
        have HR := Lib.hid (show turned all (k + 1) = block R bl by rw [turned, hR, hbl])
        clear hM1 hR hbl
        have Hlx := Lib.hid hlx
        clear hlx
        have q64 : IntKind.i64.wrap ((j : Int) + 64) = (j : Int) + 64 := wrap_small (by omega) (by omega)
        have t64 : ((j : Int) + 64).toNat = j + 64 := by omega
        have d64 : (0 : Int) ≤ (j : Int) + 64 := by omega
        have c64 : (j : Int) + 64 ≤ (c7 : Int) := by omega
        have e64 : (j : Int) ≤ (j : Int) + 64 := by omega
        have ne64 : ¬ c7 = j := by omega
        go_wp2
        refine region_inb_tail 7 (by kernel_rfl) (by kernel_rfl) ?_
        simp only [List.take_succ_cons, List.take_zero, List.drop_succ_cons, List.drop_zero]
        have inbNe := InB.some
        have inbW := @wrap_small
        have inbU := IntKind.wrap_u8'
        repeat (first | (with_reducible refine wpQuiet_nil ?_; fail) | ((with_reducible show wpQuiet _ _ _ _ (⟨some 45, _, _, _, _, _⟩ :: _) _); refine wpQuiet_loadA rfl 23 _ rfl rfl (fun w' hw' => d4.on hw'.below) Tryd.underlying23 size23 ?_) | (refine wpQuiet_step (fun K hK => ?_); go_simp; first | (refine hK _ ?_; clear hK K) | (apply Exists.intro; refine ⟨?_, hK _ ?_⟩; (· (intro w' hw'; first | (go_at_call 19; refine (block_any R (some ⟨g7, j, none⟩) bl 64 _ _ Hlx.out.symm (by omega) (by unfold maxLen; omega) (hrd2.on hw'.below) (hkr.on hw'.below)).mono ?_; rintro e w1 ⟨rfl, b1⟩; exact ⟨rfl, hw'.on b1⟩) | (have hcw := hw'.cell; go_simp; exact rfl))); clear hK K)))
        refine wpQuiet_nil ?_
        intro wq hq
        clear inbNe inbW inbU
        have m4 := d4.on hq.below
        have mr := hrr.on hq.below
        have btm := bt0.trans (hq.below.mono bt0.size)
        clear hq
        obtain ⟨S, hS⟩ : ∃ S, S = block R bl := ⟨_, rfl⟩
        rw [← hS] at HR ⊢
        clear hS
        refine wpList_storeN rfl 23 _ _ rfl rfl (ys := S.vals) rfl m4 rfl (vw_one _) size23 ?_
        intro w9 hb9 hg9
        have mr9 := Sha.rd_row mr hg9 l27
        have bt9 := below_row btm hg9 (by omega) btm.size
        go_wp2
        go_roundw
        case rel => exact ⟨k + 1, j + 64, by omega, Lib.hid (by rw [hj.out]; omega), by go_num, by rw [HR.out]; exact hb9, bt9, mr9⟩
        case measure => simp [intOf]; omega
      · obtain rfl : k = m := by omega
        obtain rfl : j = M := by omega
        have hjM : ¬ ((j : Int) + 64 ≤ (j : Int)) := by omega
        clear hj' hm'
        obtain ⟨S, hS⟩ : ∃ S, S = turned all k := ⟨_, rfl⟩
        obtain ⟨W0, rfl⟩ : ∃ x, x = wr := ⟨_, rfl⟩
        rw [← hS] at d4 Hres
        clear hS
        go_wp2
        go_loopw [6, 7] (fun v i wx => ∃ k : Nat, k ≤ 8 ∧ i = .int .i64 k ∧ wx.ownsRow W0.heap.size 5 1 v (4 * k) ((outK S k).map e8) ∧ Below W0.heap.size W0 wx) (fun _ i _ => 8 - (intOf i).toNat)
        case atStart => exact ⟨0, by omega, rfl, own_nil _ _ _ _, Below.refl _ _⟩
        case round =>
          obtain ⟨k, hk8, rfl, hown, bel⟩ := hrel
          by_cases hlt : k < 8
          · have hbx := d4.on bel
            have hix := Blk.word hbx (k := k) (by rw [H8.list_len]; exact hlt)
            have Hs := Lib.hid (outK_succ S k hlt)
            obtain ⟨y, hy⟩ : ∃ y, y = S.list.getD k 0 := ⟨_, rfl⟩
            rw [← hy] at hix Hs
            clear hy
            have hu := UInt64.toNat_ofNat' (n := y.toNat)
            have hy32 := y.toNat_lt
            have hu' : (UInt64.ofNat y.toNat).toNat = y.toNat := by omega
            have hcv : c32 y = ((UInt64.ofNat y.toNat).toNat : Int) := by unfold c32; omega
            have y0 := c32_lo y
            have y1 := c32_hi y
            have hpt := Num.rput_any (UInt64.ofNat y.toNat) (c32 y) hcv 4 4 rfl (by omega) (by omega) wr
            rw [hu'] at hpt
            clear hu hu' hcv
            have hl4 := Num.putL_len y.toNat 4
            obtain ⟨p, hp⟩ : ∃ p, p = Num.putL y.toNat 4 := ⟨_, rfl⟩
            rw [← hp] at hpt hl4 Hs
            clear hp
            go_wp2_with fail
            refine hpt.mono ?_
            clear hpt
            rintro e w8 ⟨A8, c8, rfl, own8, bw8⟩
            rw [hl4] at own8 ⊢
            have Hl4 := Lib.hid hl4
            clear hl4
            have hown8 := own_on hown bw8
            have bel8 := Go.Proofs.YtggldbadefbdaaaDoor.bt bel bw8
            go_wp2_with (at_builtin; refine wpList_append_rd _ rfl _ _ _ rfl W0.heap.size 5 i0 _ 1 1 Tryd.underlying24 hi0 hz0 hz1 hz2 rfl (by omega) _ (4 * k) _ rfl hown8 _ A8 4 c8 (p.map e8) rfl (by simp [Hl4.out]) (Rd.own own8) (e8_one _) (by simp only [maxLen]; omega) (by omega) bel8.size ?_; intro v9 w9 hown9 hg9 hat9)
            go_roundw
            case rel => exact ⟨k + 1, by omega, by go_num, by rw [Hs.out, List.map_append]; exact hown9, bel8.grown hg9 bel8.size (fun g hg => own_block hown8 hg)⟩
            case measure => simp [intOf]; omega
          · obtain rfl : k = 8 := by omega
            rw [outK_all] at hown
            have hbw := bt0.trans (bel.mono bt0.size)
            obtain ⟨A9, c9, rfl⟩ := own_form hown
            have ho8 := out8_len S
            obtain ⟨O, hO⟩ : ∃ O, O = out8 S := ⟨_, rfl⟩
            rw [← hO] at ho8 hown Hres
            have Ho8 := Lib.hid ho8
            clear hO ho8
            go_wp2_with fail
            refine (sum_any A l _ c _ rfl (hr.on hbw) (by omega) (hk.on hbw)).mono ?_
            rintro e w10 ⟨A10, c10, rfl, own10, b10⟩
            rw [Hres.out] at own10 ⊢
            go_wp2_with fail
            refine (R1.same_any _ _ O O _ _ _ _ _ rfl Ho8.out.symm (Rd.own own10) ((Rd.own hown).on b10) (by rw [Ho8.out]; omega) (by rw [Ho8.out]; omega)).mono ?_
            rintro e w11 ⟨rfl, b11⟩
            rw [R1.sameB_self]
            have bt11 := bt (bt hbw b10) b11
            go_wp2_with (go_at_call 13; refine (Sha.alive_any _ (hk.on bt11)).mono ?_; rintro e w' ⟨rfl, hw⟩)
            go_ret
            exact ⟨rfl, bt bt11 hw⟩

set_option maxRecDepth 100000 in
theorem contract (H : Type) (enc : TypeId × Value → H) (W : World) (base : Nat) (args : Array Value) (ds gs : List (DataW H)) (before : List MemPlace)
    (hval0 : ∀ (j : Nat) t v, Tryd.f5.params[j]? = some t → args[j]? = some v → Value.okWide Tryd.prog W .any base t v)
    (hW : DataW.Whole enc Tryd.prog Tryd.f5.params.toList Rows.shaWholeSpec.vars false W args.toList ds gs before) (hL : laidMetH Tryd.prog Rows.shaWholeRow.laid W) :
    Calls Tryd.prog 5 args W fun e W' => ∃ v, e = .returned v ∧ Rows.shaWholeSpec.post enc Tryd.prog Tryd.f5 false true false false W args v W' := by
  have hk : Sha.Tab W := Laid.tab hL
  have hval : ∀ (j : Nat) t v, Tryd.f5.params[j]? = some t → args[j]? = some v → Value.okWide Tryd.prog W .any base t v := hval0
  have hW' := hW
  obtain ⟨p, q, hA0, hV, rfl, hfz, hnd⟩ := hW
  have hA : DataW.TrodAll enc Tryd.prog W 0 (fun _ => true) true Tryd.f5.params.toList args.toList ds p := hA0
  rw [Tryd.params5] at hA hval
  obtain ⟨v0, vs0, d0, ds0, p0, q0, hargs, rfl, rfl, h0, r0⟩ := trodAll_cons hA
  obtain ⟨rfl, rfl, rfl⟩ := trodAll_nil r0
  obtain rfl : args = #[v0] := by cases args; simp_all
  obtain ⟨rfl, rfl⟩ := trodVars_none hV
  have k0 := h0
  have lt0 := places_lt k0
  obtain ⟨a0, len0, cap0, rfl⟩ := okWide_slice Tryd.underlying24 (hval 0 24 v0 rfl rfl)
  obtain ⟨fuel0, hf0⟩ := h0
  obtain ⟨l0, rfl, rr0, rc0, rm0⟩ := bytes_of rfl Tryd.underlying24 Tryd.underlying5 (by kernel_rfl) hf0
  clear hA0 hval0
  refine (walk a0 l0 cap0 W rr0 rc0 rm0 hk).mono fun e W' ⟨he, bel⟩ => ?_
  subst he
  exact ⟨_, rfl, _, _, _, [], _, [], hW', trodAll_mk1 (shut_bool Tryd.underlying4 _), (trodAll_cons_mk (Below.trod laidOut (by kernel_rfl) (of_decide_eq_true (by kernel_rfl)) k0 bel lt0) trodAll_mk0), rfl, bel.frame _, fun h => by cases h⟩

theorem laid_met (os : Os) : laidMet Tryd.prog Rows.shaWholeRow.laid ((Laid.laidWorld os).forCall (fun _ _ => 0) ⟨#[], #[.slice none 0 0], []⟩).memory :=
  laidMet_of_run' 8 (by kernel_rfl) (by kernel_rfl)
set_option maxRecDepth 100000 in
theorem lifted (os : Os) (started : os.Started) (H : Type) (enc : TypeId × Value → H) (F : Stop.Interp) :
    ReturnsInHanded {} Tryd.checked os 5 .any ((OpenSpec.ofChange Rows.shaWholeSpec).preRow enc Tryd.prog Tryd.f5 Rows.shaWholeRow.domain false Rows.shaWholeRow.laid) (((OpenSpec.ofChange Rows.shaWholeSpec).at F).post enc Tryd.prog Tryd.f5 false true false false) := by
  obtain ⟨x, hx⟩ := Option.isSome_iff_exists.1 (show (DataW.whole enc Tryd.prog ((Laid.laidWorld os).forCall (fun _ _ => 0) ⟨#[], #[.slice none 0 0], []⟩).memory Tryd.f5.params.toList Rows.shaWholeSpec.vars false (#[.slice none 0 0] : Array Value).toList 8).isSome = true by kernel_rfl)
  refine returnsInHanded_of_row (C := Tryd.checked) (s := OpenSpec.ofChange Rows.shaWholeSpec) own started (by kernel_rfl) Tryd.func5
    (witness_row_at (enc := enc) (C := Tryd.checked) false (Laid.laidWorld os) #[.slice none 0 0] rfl (by kernel_rfl) (by kernel_rfl) (by kernel_rfl)
      (OpenSpec.preRow_of_cond 8 hx (by rfl) (fun k hk => by cases hk) (by kernel_rfl) (laid_met os))) ?_
  intro W base args ds gs before hval hW _ _ _ hL _ _
  exact contract H enc W base args ds gs before hval hW hL
theorem said : Rows.ShaWholeSaid :=
  OpenClaim.holds_of_cond 5 Tryd.f5 rfl rfl rfl rfl rfl rfl rfl ⟨rfl, rfl, rfl, rfl, rfl⟩ rfl rfl rfl rfl rfl (by kernel_rfl) Tryd.func5 (by kernel_rfl)
    (of_decide_eq_true (by kernel_rfl)) (by unfold Func.isWrapper; first | (rw [if_pos (by decide +kernel)]; kernel_rfl) | (rw [if_neg (by decide +kernel)]; exact ⟨rfl, rfl⟩))
    (fun os started H enc _ F => by rw [OpenClaim.pre_eq_preRow]; exact lifted os started H enc F)
theorem plain (f : FuncId) (fn : Func) (hf : Tryd.pinned.checked.prog.funcNamed "oubliette/oubliettelaw07.ShaWhole" = some f) (hfn : Tryd.pinned.checked.prog.funcs[f]? = some fn) :
    false = Tryd.pinned.checked.prog.looks [] ∧ ∀ (j : Nat) t, fn.params[j]? = some t → Tryd.pinned.checked.prog.wantsStandIn t = false := by
  obtain rfl : f = 5 := Option.some.inj ((show Tryd.prog.funcNamed "oubliette/oubliettelaw07.ShaWhole" = some 5 by kernel_rfl).symm.trans hf) |>.symm
  obtain rfl : fn = Tryd.f5 := (Option.some.inj (Tryd.func5.symm.trans hfn)).symm
  refine ⟨by kernel_rfl, fun j t ht => ?_⟩
  rw [Tryd.params5] at ht
  have hm : t ∈ ([24] : List TypeId) := by have := Array.mem_of_getElem? ht; simp at this; first | (subst this; simp; done) | (rcases this with h | h <;> (simp [h]; done)) | (rcases this with h | h | h <;> (simp [h]; done)) | (rcases this with h | h | h | h <;> (simp [h]; done)) | (rcases this with h | h | h | h | h <;> (simp [h]; done))
  have hall : (([24] : List TypeId).all fun u => !Tryd.prog.wantsStandIn u) = true := by kernel_rfl
  exact (show Tryd.prog.wantsStandIn t = false by simpa using List.all_eq_true.1 hall t hm)
theorem proved : Rows.ShaWholeCardSaid :=
  Claim7.holds_tied_plain_at .later [] _ _ _ _ said (fun _ h => by cases h) (by kernel_rfl) (fun _ h => by cases h) shaWhole_row_tie rfl ⟨rfl, rfl⟩ (by kernel_rfl) rfl plain (by kernel_rfl)
#print axioms proved
end Go.Proofs.YtggldbadefbdaaaDoor.ShaWhole
