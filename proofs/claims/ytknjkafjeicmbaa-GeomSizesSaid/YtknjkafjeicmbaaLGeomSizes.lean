/- GeomSizes: for every input the law returns true: which geometries may be, and how much of each thing they have. No condition. -/
import Derived.Test.YtknjkafjeicmbaaGeom4
import Derived.Test.YtknjkafjeicmbaaOpen
namespace Go.Proofs.Ytknjkafjeicmbaa.GeomSizes
open Go.ChangeShapes Go.WideShapes Go.ChangeAt Go.RowKit Go.Joins
open Go.ChangeMaps (open_string shut_string)
open Go.Proofs.Ytknjkafjeicmbaa.Geom (lo hi)
set_option linter.unusedVariables false

set_option maxHeartbeats 1000000 in
theorem walk (a d g : Int) (w : World) (ha0 : lo ≤ a) (ha1 : a ≤ hi) (hd0 : lo ≤ d) (hd1 : d ≤ hi) (hg0 : lo ≤ g) (hg1 : g ≤ hi) :
    Calls Try.prog 6 #[.agg #[.int .i64 a, .int .i64 d, .int .i64 g]] w fun e w' => e = .returned (.bool true) ∧ Below w.heap.size w w' := by
  go_enter Try.func6, Try.ntmps6
  go_wp2
  refine region_inb (by kernel_rfl) (by kernel_rfl) ?_
  have inbNe := InB.some
  repeat (refine wpQuiet_step (fun K hK => ?_); go_simp; first | (refine hK _ ?_; clear hK K) | (apply Exists.intro; refine ⟨?_, hK _ ?_⟩; (· (intro w' hw'; first | (go_at_call 26; refine (Geom.right_any _ _ _ _ ha0 ha1 hd0 hd1 hg0 hg1).mono ?_; rintro e w1 ⟨rfl, b1⟩; exact ⟨rfl, hw'.on b1⟩) | (go_at_call 27; refine (Geom.rright_any _ _ _ _ ha0 ha1 hd0 hd1 hg0 hg1).mono ?_; rintro e w1 ⟨rfl, b1⟩; exact ⟨rfl, hw'.on b1⟩) | (go_at_call 30; refine (Geom.nodes_any _ _ _ _ ha0 ha1 hd0 hd1 hg0 hg1).mono ?_; rintro e w1 ⟨rfl, b1⟩; exact ⟨rfl, hw'.on b1⟩) | (go_at_call 31; refine (Geom.rnodes_any _ _ _ _ ha0 ha1 hd0 hd1 hg0 hg1).mono ?_; rintro e w1 ⟨rfl, b1⟩; exact ⟨rfl, hw'.on b1⟩) | (go_at_call 32; refine (Geom.leaves_any _ _ _ _ ha0 ha1 hd0 hd1 hg0 hg1).mono ?_; rintro e w1 ⟨rfl, b1⟩; exact ⟨rfl, hw'.on b1⟩) | (go_at_call 33; refine (Geom.rleaves_any _ _ _ _ ha0 ha1 hd0 hd1 hg0 hg1).mono ?_; rintro e w1 ⟨rfl, b1⟩; exact ⟨rfl, hw'.on b1⟩) | (go_at_call 34; refine (Geom.pages_any _ _ _ _ ha0 ha1 hd0 hd1 hg0 hg1).mono ?_; rintro e w1 ⟨rfl, b1⟩; exact ⟨rfl, hw'.on b1⟩) | (go_at_call 35; refine (Geom.rpages_any _ _ _ _ ha0 ha1 hd0 hd1 hg0 hg1).mono ?_; rintro e w1 ⟨rfl, b1⟩; exact ⟨rfl, hw'.on b1⟩) | (go_at_call 36; refine (Geom.size_any _ _ _ _ ha0 ha1 hd0 hd1 hg0 hg1).mono ?_; rintro e w1 ⟨rfl, b1⟩; exact ⟨rfl, hw'.on b1⟩) | (go_at_call 37; refine (Geom.rsize_any _ _ _ _ ha0 ha1 hd0 hd1 hg0 hg1).mono ?_; rintro e w1 ⟨rfl, b1⟩; exact ⟨rfl, hw'.on b1⟩) | (go_at_call 28; refine (Geom.least_any _ _ _ _ ha0 ha1 hd0 hd1).mono ?_; rintro e w1 ⟨rfl, b1⟩; exact ⟨rfl, hw'.on b1⟩) | (go_at_call 29; refine (Geom.rleast_any _ _ _ _ ha0 ha1 hd0 hd1).mono ?_; rintro e w1 ⟨rfl, b1⟩; exact ⟨rfl, hw'.on b1⟩) | (go_at_call 38; refine (Geom.alive_any _).mono ?_; rintro e w1 ⟨rfl, b1⟩; exact ⟨rfl, hw'.on b1⟩) | (have hcw := hw'.cell; go_simp; exact rfl))); clear hK K))
  refine wpQuiet_nil ?_
  intro wq hq
  clear inbNe
  go_wp2
  go_ret
  exact ⟨rfl, bt (b1alloc _ _) hq⟩

set_option maxRecDepth 100000 in
theorem lifted (os : Os) (started : os.Started) (H : Type) (enc : TypeId × Value → H) :
    ReturnsInHanded {} Try.checked os 6 .any (Rows.geomSizesSpec.pre6 enc Try.prog Try.f6 Rows.geomSizesRow.domain false) (Rows.geomSizesSpec.post enc Try.prog Try.f6 false true false false) := by
  refine returnsInHanded_of_change (C := Try.checked) own started (by kernel_rfl) Try.func6
    (ChangeSpec.witness6 (enc := enc) (C := Try.checked) false ⟨#[], #[.agg #[.int .i64 0, .int .i64 0, .int .i64 0]], []⟩ 8 (by kernel_rfl) (by kernel_rfl) (by kernel_rfl) (by kernel_rfl)) ?_
  intro W base args ds gs before hval0 hW hcnd _
  have hval : ∀ (j : Nat) t v, Try.f6.params[j]? = some t → args[j]? = some v → Value.okWide Try.prog W .any base t v := hval0
  have hW' := hW
  obtain ⟨p, q, hA0, hV, rfl, hfz, hnd⟩ := hW
  have hA : DataW.TrodAll enc Try.prog W 0 (fun _ => true) true Try.f6.params.toList args.toList ds p := hA0
  rw [Try.params6] at hA hval
  obtain ⟨v0, vs0, d0, ds0, p0, q0, hargs, rfl, rfl, h0, r0⟩ := trodAll_cons hA
  obtain ⟨rfl, rfl, rfl⟩ := trodAll_nil r0
  obtain rfl : args = #[v0] := by cases args; simp_all
  obtain ⟨rfl, rfl⟩ := trodVars_none hV
  have k0 := h0
  have lt0 := places_lt k0
  obtain ⟨c0a, c0b, c0c, y0a, y0b, y0c, m0, rfl, _, _, hy0a, hy0b, hy0c⟩ := open_agg3 Try.underlying35 (by kernel_rfl) (by kernel_rfl) (hval 0 35 v0 rfl rfl) h0
  obtain ⟨n0a, e0a, _, w0a⟩ := DataW.trod_int Try.underlying3 hy0a
  simp only [List.cons.injEq, and_true] at e0a
  subst e0a
  obtain ⟨n0b, e0b, _, w0b⟩ := DataW.trod_int Try.underlying3 hy0b
  simp only [List.cons.injEq, and_true] at e0b
  subst e0b
  obtain ⟨n0c, e0c, _, w0c⟩ := DataW.trod_int Try.underlying3 hy0c
  simp only [List.cons.injEq, and_true] at e0c
  subst e0c
  clear hA0 hval0
  refine (walk n0a n0b n0c W (wfi w0a).1 (wfi w0a).2 (wfi w0b).1 (wfi w0b).2 (wfi w0c).1 (wfi w0c).2).mono fun e W' ⟨he, bel⟩ => ?_
  subst he
  exact ⟨_, rfl, _, _, _, [], _, [], hW', trodAll_mk1 (shut_bool Try.underlying4 _), (trodAll_cons_mk (Below.trod laidOut (by kernel_rfl) (of_decide_eq_true (by kernel_rfl)) k0 bel lt0) trodAll_mk0), rfl, bel.frame _, fun h => by cases h⟩

theorem proved : Rows.GeomSizesSaid :=
  OpenClaim.holds_of_wide 6 Try.f6 rfl rfl rfl rfl rfl rfl rfl ⟨rfl, rfl, rfl, rfl, rfl⟩ rfl rfl rfl rfl rfl (by kernel_rfl) Try.func6 (by kernel_rfl)
    (of_decide_eq_true (by kernel_rfl)) (by unfold Func.isWrapper; first | (rw [if_pos (by decide +kernel)]; kernel_rfl) | (rw [if_neg (by decide +kernel)]; exact ⟨rfl, rfl⟩))
    (fun os started H enc _ => lifted os started H enc)
#print axioms proved
end Go.Proofs.Ytknjkafjeicmbaa.GeomSizes
