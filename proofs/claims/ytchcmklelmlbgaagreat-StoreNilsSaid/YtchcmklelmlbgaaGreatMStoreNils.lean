/- StoreNils: for every input the law returns true: what nil stores say, and what is told of a disk that was never formatted. No condition. -/
import Derived.Test.YtchcmklelmlbgaaGreatStoreNilsI
namespace Go.Proofs.YtchcmklelmlbgaaGreat.StoreNils
open Go.ChangeShapes Go.WideShapes Go.ChangeAt Go.RowKit Go.Joins
open Go.ChangeMaps (open_string shut_string)
open Go.Proofs.YtchcmklelmlbgaaGreat.Sto
open Go.Proofs.YtchcmklelmlbgaaGreat.Sup (Gb gv gcell gthree srightF UpN up_new srightF_new newN_any atR best)
open Go.Proofs.YtchcmklelmlbgaaGreat.Sec (symbolic_any)
open Go.Proofs.YtchcmklelmlbgaaGreat.Geom (lo hi pagesOf right)
open Go.Proofs.YtchcmklelmlbgaaGreat.Disk (St DAt new)
set_option linter.unusedVariables false
set_option maxRecDepth 100000
set_option maxHeartbeats 4000000 in
theorem walk (ga gd gl : Int) (k : Int) (w : World) (ha0 : -9223372036854775808 ≤ ga) (ha1 : ga ≤ 9223372036854775807) (hd0 : -9223372036854775808 ≤ gd) (hd1 : gd ≤ 9223372036854775807) (hg0 : -9223372036854775808 ≤ gl) (hg1 : gl ≤ 9223372036854775807) (hk0 : -9223372036854775808 ≤ k) (hk1 : k ≤ 9223372036854775807) :
    Calls Tryz.prog 6 #[gv ga gd gl, .int .i64 k] w fun e w' => e = .returned (.bool true) ∧ Below w.heap.size w w' := by
  have hG : Gb ga gd gl := ⟨ha0, ha1, hd0, hd1, hg0, hg1⟩
  obtain ⟨wA, hwA⟩ : ∃ q, q = w.alloc (.cells #[.int .i64 ga, .int .i64 gd, .int .i64 gl] 23) := ⟨_, rfl⟩
  have F := Lib.hid (show Blk wA w.heap.size (gcell ga gd gl) from by rw [hwA]; exact Blk.new w (gcell ga gd gl) 23)
  have hltF := F.out.lt
  have b0 : Below w.heap.size w wA := by rw [hwA]; exact b1alloc w _
  have HWA := Lib.hid hwA
  obtain ⟨m0, m1, m2⟩ := gthree F.out
  have HR := Lib.hid (fun W => Geom.rright_any ga gd gl W hG.a0 hG.a1 hG.d0 hG.d1 hG.g0 hG.g1)
  have HS := Lib.hid (fun W => Geom.rsize_any ga gd gl W hG.a0 hG.a1 hG.d0 hG.d1 hG.g0 hG.g1)
  have hal := Lib.hid (fun W => alive_any W)
  cases hr : right ga gd gl with
  | false =>
    rw [hr] at HR
    clear hr hwA ha0 ha1 hd0 hd1 hg0 hg1 hk0 hk1 hG HS
    go_enter Tryz.func6, Tryz.ntmps6
    go_upto_region 1 with (fail)
    rw [← HWA.out]
    go_wp2_with (first
      | (go_at_call 9; refine (HR.out _).mono ?_; rintro e w1 ⟨rfl, b1⟩)
      | (go_at_call 10; refine (hal.out _).mono ?_; rintro e w2 ⟨rfl, b2⟩))
    go_ret
    exact ⟨rfl, bt (bt b0 b1) b2⟩
  | true =>
    rw [hr] at HR
    have hsz := Sup.size_ge hr
    have hszb := Geom.size_bd ga gd gl
    obtain ⟨n, hn⟩ : ∃ n : Nat, (n : Int) = Geom.sizeOf ga gd gl := ⟨(Geom.sizeOf ga gd gl).toNat, by omega⟩
    rw [← hn] at HS hsz hszb
    have hno : best (best none (atR [] (new n) ga gd gl 2)) (atR [] (new n) ga gd gl 3) = none := by
      rw [(up_new n).at_zero (by omega) (by omega) rfl, (up_new n).at_zero (by omega) (by omega) rfl]; rfl
    have HO := Lib.hid (fun W g fp gS bS (h : Both W g fp (new n) gS bS []) => open_corrupt g fp (new n) gS bS [] ga gd gl W hG h (by simp) (by simp [new, Disk.St.sz]) (srightF_new hr rfl hn) rfl hno)
    have Hn := Lib.hid (show 1 ≤ n ∧ n ≤ 1024 by omega)
    clear hr hwA ha0 ha1 hd0 hd1 hg0 hg1 hk0 hk1 hG hn hno hsz hszb
    go_enter Tryz.func6, Tryz.ntmps6
    go_upto_region 1 with (fail)
    rw [← HWA.out]
    go_upto_region 5 with (first
      | (go_at_call 9; refine (HR.out _).mono ?_; rintro e w1 ⟨rfl, b1⟩; have b01 := bt b0 b1; clear m0 m1 m2; obtain ⟨m0, m1, m2⟩ := gthree (F.out.on b1))
      | (go_at_call 12; refine (HS.out _).mono ?_; rintro e w2 ⟨rfl, b2⟩; have c2 := bt b1 b2)
      | (go_at_call 11; refine (newN_any n _ rfl Hn.out.1 Hn.out.2 _).mono ?_; rintro e w3 ⟨g, fp, rfl, hD, hfp, b3⟩; have c3 := bt c2 b3))
    have cz : Below w3.heap.size w3 w3.drew := (Below.refl _ _).drew
    have Hc3 := Lib.hid c3
    have HS3 := Lib.hid (fun W (bW : Below w3.heap.size w3 W) => gthree (F.out.on (bt Hc3.out bW)))
    clear m0 m1 m2
    go_region_held3 (fun W => W.cell? ⟨w.heap.size, 0, none⟩ = some (.int .i64 ga) ∧ W.cell? ⟨w.heap.size, 1, none⟩ = some (.int .i64 gd) ∧ W.cell? ⟨w.heap.size, 2, none⟩ = some (.int .i64 gl)) (first | exact HS3.out _ (Below.refl _ _) | exact HS3.out _ cz | exact HS3.out _ c4 | exact HS3.out _ c5)
      ((first
        | (go_at_call 13; refine (symbolic_any _).mono ?_; rintro e w4 ⟨gS, bS, rfl, hS, hgS, hbS, b4⟩; have c4 := bt cz b4; have H4 := Here.start hD hfp b3 hS hgS hbS c4)
        | (go_at_call 17; refine (HO.out _ g fp gS bS H4.both).mono ?_; rintro e w5 ⟨rfl, b5⟩; have c5 := bt c4 b5)))
    go_wp2_with (first
      | (go_at_call 16; refine (renew_nil _).mono ?_; rintro e w6 ⟨rfl, rfl⟩)
      | (go_at_call 15; refine (commit_nil none 0 0 1 _).mono ?_; rintro e w7 ⟨rfl, b7⟩)
      | (go_at_call 27; refine (page_nil _ _).mono ?_; rintro e w8 ⟨rfl, rfl⟩)
      | (go_at_call 19; refine (pages_nil _).mono ?_; rintro e w8 ⟨rfl, rfl⟩)
      | (go_at_call 28; refine (room_nil _).mono ?_; rintro e w8 ⟨rfl, rfl⟩)
      | (go_at_call 20; refine (gen_nil _).mono ?_; rintro e w8 ⟨rfl, rfl⟩)
      | (go_at_call 21; refine (life_nil _).mono ?_; rintro e w8 ⟨rfl, rfl⟩)
      | (go_at_call 29; refine (dead_nil _).mono ?_; rintro e w8 ⟨rfl, rfl⟩)
      | (go_at_call 10; refine (hal.out _).mono ?_; rintro e w9 ⟨rfl, b9⟩))
    go_ret
    exact ⟨rfl, bt (bt (bt b0 Hc3.out) (bt c5 b7)) b9⟩
set_option maxRecDepth 100000 in
theorem lifted (os : Os) (started : os.Started) (H : Type) (enc : TypeId × Value → H) :
    ReturnsInHanded {} Tryz.checked os 6 .any (Rows.storeNilsSpec.pre6 enc Tryz.prog Tryz.f6 Rows.storeNilsRow.domain false) (Rows.storeNilsSpec.post enc Tryz.prog Tryz.f6 false true false false) := by
  refine returnsInHanded_of_change (C := Tryz.checked) own started (by kernel_rfl) Tryz.func6
    (ChangeSpec.witness6 (enc := enc) (C := Tryz.checked) false ⟨#[], #[.agg #[.int .i64 0, .int .i64 0, .int .i64 0], .int .i64 0], []⟩ 8 (by kernel_rfl) (by kernel_rfl) (by kernel_rfl) (by kernel_rfl)) ?_
  intro W base args ds gs before hval0 hW hcnd _
  have hval : ∀ (j : Nat) t v, Tryz.f6.params[j]? = some t → args[j]? = some v → Value.okWide Tryz.prog W .any base t v := hval0
  have hW' := hW
  obtain ⟨p, q, hA0, hV, rfl, hfz, hnd⟩ := hW
  have hA : DataW.TrodAll enc Tryz.prog W 0 (fun _ => true) true Tryz.f6.params.toList args.toList ds p := hA0
  rw [Tryz.params6] at hA hval
  obtain ⟨v0, vs0, d0, ds0, p0, q0, hargs, rfl, rfl, h0, r0⟩ := trodAll_cons hA
  obtain ⟨v1, vs1, d1, ds1, p1, q1, rfl, rfl, rfl, h1, r1⟩ := trodAll_cons r0
  obtain ⟨rfl, rfl, rfl⟩ := trodAll_nil r1
  obtain rfl : args = #[v0, v1] := by cases args; simp_all
  obtain ⟨rfl, rfl⟩ := trodVars_none hV
  have k0 := h0
  have lt0 := places_lt k0
  obtain ⟨c0a, c0b, c0c, y0a, y0b, y0c, m0, rfl, _, _, hy0a, hy0b, hy0c⟩ := open_agg3 Tryz.underlying23 (by kernel_rfl) (by kernel_rfl) (hval 0 23 v0 rfl rfl) h0
  obtain ⟨n0a, e0a, _, w0a⟩ := DataW.trod_int Tryz.underlying3 hy0a
  simp only [List.cons.injEq, and_true] at e0a
  subst e0a
  obtain ⟨n0b, e0b, _, w0b⟩ := DataW.trod_int Tryz.underlying3 hy0b
  simp only [List.cons.injEq, and_true] at e0b
  subst e0b
  obtain ⟨n0c, e0c, _, w0c⟩ := DataW.trod_int Tryz.underlying3 hy0c
  simp only [List.cons.injEq, and_true] at e0c
  subst e0c
  have k1 := h1
  have lt1 := places_lt k1
  obtain ⟨n1, rfl, _, _, w1⟩ := open_int Tryz.underlying3 (hval 1 3 v1 rfl rfl) h1
  clear hA0 hval0
  refine (walk n0a n0b n0c n1 W (wfi w0a).1 (wfi w0a).2 (wfi w0b).1 (wfi w0b).2 (wfi w0c).1 (wfi w0c).2 (wfi w1).1 (wfi w1).2).mono fun e W' ⟨he, bel⟩ => ?_
  subst he
  exact ⟨_, rfl, _, _, _, [], _, [], hW', trodAll_mk1 (shut_bool Tryz.underlying4 _), (trodAll_cons_mk (Below.trod laidOut (by kernel_rfl) (of_decide_eq_true (by kernel_rfl)) k0 bel lt0) (trodAll_cons_mk (Below.trod laidOut (by kernel_rfl) (of_decide_eq_true (by kernel_rfl)) k1 bel lt1) trodAll_mk0)), rfl, bel.frame _, fun h => by cases h⟩

theorem proved : Rows.StoreNilsSaid :=
  OpenClaim.holds_of_wide 6 Tryz.f6 rfl rfl rfl rfl rfl rfl rfl ⟨rfl, rfl, rfl, rfl, rfl⟩ rfl rfl rfl rfl rfl (by kernel_rfl) Tryz.func6 (by kernel_rfl)
    (of_decide_eq_true (by kernel_rfl)) (by unfold Func.isWrapper; first | (rw [if_pos (by decide +kernel)]; kernel_rfl) | (rw [if_neg (by decide +kernel)]; exact ⟨rfl, rfl⟩))
    (fun os started H enc _ => lifted os started H enc)
#print axioms proved
end Go.Proofs.YtchcmklelmlbgaaGreat.StoreNils
