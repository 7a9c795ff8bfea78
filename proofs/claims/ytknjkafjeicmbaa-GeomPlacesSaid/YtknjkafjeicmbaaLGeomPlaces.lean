/- GeomPlaces: for every input the law returns true: where anything stands, and what stands at any place. No condition. -/
import Derived.Test.YtknjkafjeicmbaaGeom4
import Derived.Test.YtknjkafjeicmbaaOpen
namespace Go.Proofs.Ytknjkafjeicmbaa.GeomPlaces
open Go.ChangeShapes Go.WideShapes Go.ChangeAt Go.RowKit Go.Joins
open Go.ChangeMaps (open_string shut_string)
open Go.Proofs.Ytknjkafjeicmbaa.Geom (lo hi)
set_option linter.unusedVariables false

set_option maxHeartbeats 2000000 in
theorem walk (a d g : Int) (n : UInt64) (i p : Int) (w : World) (ha0 : lo ≤ a) (ha1 : a ≤ hi) (hd0 : lo ≤ d) (hd1 : d ≤ hi) (hg0 : lo ≤ g) (hg1 : g ≤ hi) (hi0 : lo ≤ i) (hi1 : i ≤ hi) (hp0 : lo ≤ p) (hp1 : p ≤ hi) :
    Calls Try.prog 13 #[.agg #[.int .i64 a, .int .i64 d, .int .i64 g], .int .u64 (n.toNat : Int), .int .i64 i, .int .i64 p] w fun e w' => e = .returned (.bool true) ∧ Below w.heap.size w w' := by
  have n0 : (0 : Int) ≤ (n.toNat : Int) := by omega
  have n1 : (n.toNat : Int) ≤ 18446744073709551615 := by have := n.toNat_lt; omega
  have ht : (n.toNat : Int).tmod 2 = (n.toNat : Int) % 2 := Int.tmod_eq_emod_of_nonneg n0
  have hw1 : IntKind.i64.wrap ((n.toNat : Int) % 2) = (n.toNat : Int) % 2 := IntWalk.i64_in _ (by omega)
  have hw2 : IntKind.i64.wrap (2 + (n.toNat : Int) % 2) = 2 + (n.toNat : Int) % 2 := IntWalk.i64_in _ (by omega)
  have bb := b1alloc w (.cells #[.int .i64 a, .int .i64 d, .int .i64 g] 35)
  have c0 : (w.alloc (.cells #[.int .i64 a, .int .i64 d, .int .i64 g] 35)).cell? ⟨w.heap.size, 0, none⟩ = some (.int .i64 a) := by simp
  have c1 : (w.alloc (.cells #[.int .i64 a, .int .i64 d, .int .i64 g] 35)).cell? ⟨w.heap.size, 1, none⟩ = some (.int .i64 d) := by simp
  have c2 : (w.alloc (.cells #[.int .i64 a, .int .i64 d, .int .i64 g] 35)).cell? ⟨w.heap.size, 2, none⟩ = some (.int .i64 g) := by simp
  have hs : w.heap.size < (w.alloc (.cells #[.int .i64 a, .int .i64 d, .int .i64 g] 35)).heap.size := by simp
  go_enter Try.func13, Try.ntmps13
  go_wp2_with fail
  refine (Geom.where_any _ _ _ _ _ ha0 ha1 hd0 hd1 hg0 hg1 hp0 hp1).mono ?_
  rintro e w1 ⟨rfl, b1⟩
  have bb := bt bb b1
  obtain ⟨c0, c1, c2, hs⟩ := Geom.keep3 c0 c1 c2 hs b1
  go_wp2_with fail
  refine (Geom.rwhere_any _ _ _ _ _ ha0 ha1 hd0 hd1 hg0 hg1 hp0 hp1).mono ?_
  rintro e w2 ⟨rfl, b2⟩
  have bb := bt bb b2
  obtain ⟨c0, c1, c2, hs⟩ := Geom.keep3 c0 c1 c2 hs b2
  go_wp2_with fail
  refine region_inb (by kernel_rfl) (by kernel_rfl) ?_
  have inbNe := InB.some
  repeat (refine wpQuiet_step (fun K hK => ?_); go_simp; first | (refine hK _ ?_; clear hK K) | (apply Exists.intro; refine ⟨?_, hK _ ?_⟩; (· (intro w' hw'; first | (go_at_call 50; refine (Geom.root_any n _ rfl _).mono ?_; rintro e w1 ⟨rfl, rfl⟩; exact ⟨rfl, hw'⟩) | (go_at_call 51; refine (Geom.super_any n _ rfl _).mono ?_; rintro e w1 ⟨rfl, rfl⟩; exact ⟨rfl, hw'⟩) | (go_at_call 52; refine (Geom.log_any _ _ _ _ _ ha0 ha1 hd0 hd1 hg0 hg1 hi0 hi1).mono ?_; rintro e w1 ⟨rfl, b1⟩; exact ⟨rfl, hw'.on b1⟩) | (go_at_call 64; refine (Geom.rlog_any _ _ _ _ _ ha0 ha1 hd0 hd1 hg0 hg1 hi0 hi1).mono ?_; rintro e w1 ⟨rfl, b1⟩; exact ⟨rfl, hw'.on b1⟩) | (go_at_call 53; refine (Geom.area_any _ _ _ n _ rfl _ _ ha0 ha1 hd0 hd1 hg0 hg1 hi0 hi1).mono ?_; rintro e w1 ⟨rfl, b1⟩; exact ⟨rfl, hw'.on b1⟩) | (go_at_call 65; refine (Geom.rarea_any _ _ _ n _ rfl _ _ ha0 ha1 hd0 hd1 hg0 hg1 hi0 hi1).mono ?_; rintro e w1 ⟨rfl, b1⟩; exact ⟨rfl, hw'.on b1⟩) | (go_at_call 38; refine (Geom.alive_any _).mono ?_; rintro e w1 ⟨rfl, b1⟩; exact ⟨rfl, hw'.on b1⟩) | (have hcw := hw'.cell; go_simp; exact rfl))); clear hK K))
  refine wpQuiet_nil ?_
  intro wq hq
  clear inbNe
  go_wp2
  go_ret
  exact ⟨rfl, bt bb hq⟩

set_option maxRecDepth 100000 in
theorem lifted (os : Os) (started : os.Started) (H : Type) (enc : TypeId × Value → H) :
    ReturnsInHanded {} Try.checked os 13 .any (Rows.geomPlacesSpec.pre6 enc Try.prog Try.f13 Rows.geomPlacesRow.domain false) (Rows.geomPlacesSpec.post enc Try.prog Try.f13 false true false false) := by
  refine returnsInHanded_of_change (C := Try.checked) own started (by kernel_rfl) Try.func13
    (ChangeSpec.witness6 (enc := enc) (C := Try.checked) false ⟨#[], #[.agg #[.int .i64 0, .int .i64 0, .int .i64 0], .int .u64 0, .int .i64 0, .int .i64 0], []⟩ 8 (by kernel_rfl) (by kernel_rfl) (by kernel_rfl) (by kernel_rfl)) ?_
  intro W base args ds gs before hval0 hW hcnd _
  have hval : ∀ (j : Nat) t v, Try.f13.params[j]? = some t → args[j]? = some v → Value.okWide Try.prog W .any base t v := hval0
  have hW' := hW
  obtain ⟨p, q, hA0, hV, rfl, hfz, hnd⟩ := hW
  have hA : DataW.TrodAll enc Try.prog W 0 (fun _ => true) true Try.f13.params.toList args.toList ds p := hA0
  rw [Try.params13] at hA hval
  obtain ⟨v0, vs0, d0, ds0, p0, q0, hargs, rfl, rfl, h0, r0⟩ := trodAll_cons hA
  obtain ⟨v1, vs1, d1, ds1, p1, q1, rfl, rfl, rfl, h1, r1⟩ := trodAll_cons r0
  obtain ⟨v2, vs2, d2, ds2, p2, q2, rfl, rfl, rfl, h2, r2⟩ := trodAll_cons r1
  obtain ⟨v3, vs3, d3, ds3, p3, q3, rfl, rfl, rfl, h3, r3⟩ := trodAll_cons r2
  obtain ⟨rfl, rfl, rfl⟩ := trodAll_nil r3
  obtain rfl : args = #[v0, v1, v2, v3] := by cases args; simp_all
  obtain ⟨rfl, rfl⟩ := trodVars_none hV
  have k0 := h0
  have lt0 := places_lt k0
  obtain ⟨c0a, c0b, c0c, y0a, y0b, y0c, m0, rfl, _, _, hy0a, hy0b, hy0c⟩ := open_agg3 Try.underlying35 (by kernel_rfl) (by kernel_rfl) (hval 0 35 v0 rfl rfl) h0
  obtain ⟨n0a, e0a, _, w0a⟩ := DataW.trod_int Try.underlying3 hy0a
  simp only [List.cons.injEq, and_true] at e0a
  subst e0a
  obtain ⟨n0b, e0b, _, w0b⟩ := DataW.trod_int Try.underlying3 hy0b
  simp only [List.cons.injEq, and_true] at e0b
  subst e0b
  obtain ⟨n0c, e0c, _, w0c⟩ := DataW.trod_int Try.underlying3 hy0c
  simp only [List.cons.injEq, and_true] at e0c
  subst e0c
  have k1 := h1
  have lt1 := places_lt k1
  obtain ⟨n1, rfl, _, _, w1⟩ := open_int Try.underlying47 (hval 1 47 v1 rfl rfl) h1
  obtain ⟨x1, rfl⟩ := wf64 w1
  have k2 := h2
  have lt2 := places_lt k2
  obtain ⟨n2, rfl, _, _, w2⟩ := open_int Try.underlying3 (hval 2 3 v2 rfl rfl) h2
  have k3 := h3
  have lt3 := places_lt k3
  obtain ⟨n3, rfl, _, _, w3⟩ := open_int Try.underlying3 (hval 3 3 v3 rfl rfl) h3
  clear hA0 hval0
  refine (walk n0a n0b n0c x1 n2 n3 W (wfi w0a).1 (wfi w0a).2 (wfi w0b).1 (wfi w0b).2 (wfi w0c).1 (wfi w0c).2 (wfi w2).1 (wfi w2).2 (wfi w3).1 (wfi w3).2).mono fun e W' ⟨he, bel⟩ => ?_
  subst he
  exact ⟨_, rfl, _, _, _, [], _, [], hW', trodAll_mk1 (shut_bool Try.underlying4 _), (trodAll_cons_mk (Below.trod laidOut (by kernel_rfl) (of_decide_eq_true (by kernel_rfl)) k0 bel lt0) (trodAll_cons_mk (Below.trod laidOut (by kernel_rfl) (of_decide_eq_true (by kernel_rfl)) k1 bel lt1) (trodAll_cons_mk (Below.trod laidOut (by kernel_rfl) (of_decide_eq_true (by kernel_rfl)) k2 bel lt2) (trodAll_cons_mk (Below.trod laidOut (by kernel_rfl) (of_decide_eq_true (by kernel_rfl)) k3 bel lt3) trodAll_mk0)))), rfl, bel.frame _, fun h => by cases h⟩

theorem proved : Rows.GeomPlacesSaid :=
  OpenClaim.holds_of_wide 13 Try.f13 rfl rfl rfl rfl rfl rfl rfl ⟨rfl, rfl, rfl, rfl, rfl⟩ rfl rfl rfl rfl rfl (by kernel_rfl) Try.func13 (by kernel_rfl)
    (of_decide_eq_true (by kernel_rfl)) (by unfold Func.isWrapper; first | (rw [if_pos (by decide +kernel)]; kernel_rfl) | (rw [if_neg (by decide +kernel)]; exact ⟨rfl, rfl⟩))
    (fun os started H enc _ => lifted os started H enc)
#print axioms proved
end Go.Proofs.Ytknjkafjeicmbaa.GeomPlaces
