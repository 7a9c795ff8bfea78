/- The walks of geom.Where and of the reference's sizes and places. -/
import Derived.Test.YtknjkafjeicmbaaGeom3
import Derived.WalkMore
namespace Go.Proofs.Ytknjkafjeicmbaa.Geom
open Go.RowKit
set_option linter.unusedVariables false

set_option maxHeartbeats 400000 in
theorem rsize_any (a d g : Int) (w : World) (ha0 : lo ≤ a) (ha1 : a ≤ hi) (hd0 : lo ≤ d) (hd1 : d ≤ hi) (hg0 : lo ≤ g) (hg1 : g ≤ hi) :
    Calls Try.prog 37 #[.agg #[.int .i64 a, .int .i64 d, .int .i64 g]] w fun e w' => e = .returned (.int .i64 (sizeOf a d g)) ∧ Below w.heap.size w w' := by
  by_cases hr : right a d g = true
  · obtain ⟨h1, h2, h3, h4, h5, h6⟩ := right_yes hr
    have hsz := Lib.hid (show sizeOf a d g = 4 + g + 2 * pagesOf a d g by simp [sizeOf, hr])
    have hp := pagesOf_bd a d g
    have Hr := Lib.hid hr
    clear hr
    have hwr : IntKind.i64.wrap (2 * pagesOf a d g) = 2 * pagesOf a d g := IntWalk.i64_in _ (by omega)
    have hwr2 : IntKind.i64.wrap (4 + g) = 4 + g := IntWalk.i64_in _ (by omega)
    have hwr3 : IntKind.i64.wrap (4 + g + 2 * pagesOf a d g) = 4 + g + 2 * pagesOf a d g := IntWalk.i64_in _ (by omega)
    go_enter Try.func37, Try.ntmps37
    go_wp2_with fail
    refine (rright_any _ _ _ _ ha0 ha1 hd0 hd1 hg0 hg1).mono ?_
    rintro e w1 ⟨rfl, b1⟩
    rw [Hr.out]
    have hc := b1.cell (p := ⟨w.heap.size, 0, none⟩) (by simp)
    have hc' := b1.cell (p := ⟨w.heap.size, 1, none⟩) (by simp)
    have hc'' := b1.cell (p := ⟨w.heap.size, 2, none⟩) (by simp)
    have hs : w.heap.size < w1.heap.size := by have := b1.size; simp at this; omega
    simp at hc hc' hc''
    have bw := bt (below_lit w _) b1
    go_wp2
    refine region_inb (by kernel_rfl) (by kernel_rfl) ?_
    have inbNe := InB.some
    repeat (refine wpQuiet_step (fun K hK => ?_); go_simp; first | (refine hK _ ?_; clear hK K) | (apply Exists.intro; refine ⟨?_, hK _ ?_⟩; (· (intro w' hw'; first | (go_at_call 35; refine (rpages_any _ _ _ _ ha0 ha1 hd0 hd1 hg0 hg1).mono ?_; rintro e w1 ⟨rfl, b1⟩; exact ⟨rfl, hw'.on b1⟩) | (have hcw := hw'.cell; go_simp; exact rfl))); clear hK K))
    refine wpQuiet_nil ?_
    intro wq hq
    clear inbNe
    go_wp2
    go_ret
    exact ⟨ret_int hsz.out.symm, bt bw hq⟩
  · have hr' : right a d g = false := by simpa using hr
    have hsz := Lib.hid (show sizeOf a d g = 0 by simp [sizeOf, hr'])
    have Hr := Lib.hid hr'
    clear hr hr'
    go_enter Try.func37, Try.ntmps37
    go_wp2_with fail
    refine (rright_any _ _ _ _ ha0 ha1 hd0 hd1 hg0 hg1).mono ?_
    rintro e w1 ⟨rfl, b1⟩
    rw [Hr.out]
    go_wp2
    go_ret
    exact ⟨ret_int hsz.out.symm, bt (below_lit w _) b1⟩

set_option maxHeartbeats 800000 in
theorem rarea_any (a d g : Int) (n : UInt64) (m : Int) (hm : m = (n.toNat : Int)) (i : Int) (w : World) (ha0 : lo ≤ a) (ha1 : a ≤ hi) (hd0 : lo ≤ d) (hd1 : d ≤ hi) (hg0 : lo ≤ g) (hg1 : g ≤ hi) (hi0 : lo ≤ i) (hi1 : i ≤ hi) :
    Calls Try.prog 65 #[.agg #[.int .i64 a, .int .i64 d, .int .i64 g], .int .u64 m, .int .i64 i] w fun e w' => e = .returned (.int .i64 (areaAt a d g n.toNat i)) ∧ Below w.heap.size w w' := by
  subst hm
  have h0 : (0 : Int) ≤ (n.toNat : Int) := by omega
  have h1 : (n.toNat : Int) ≤ 18446744073709551615 := by have := n.toNat_lt; omega
  have hp := pagesOf_bd a d g
  by_cases hr : right a d g = true
  · obtain ⟨r1, r2, r3, r4, r5, r6⟩ := right_yes hr
    have Hr := Lib.hid hr
    clear hr
    by_cases hi : 0 ≤ i
    · by_cases hj : i < pagesOf a d g
      · have hl := Lib.hid (show areaAt a d g n.toNat i = 4 + g + n.toNat % 2 * pagesOf a d g + i from if_pos ⟨hi, hj⟩)
        have hm2 : (0 : Int) ≤ (n.toNat : Int) % 2 * pagesOf a d g ∧ (n.toNat : Int) % 2 * pagesOf a d g ≤ 85 := by
          rcases (by omega : (n.toNat : Int) % 2 = 0 ∨ (n.toNat : Int) % 2 = 1) with e | e <;> rw [e] <;> omega
        have ht : (n.toNat : Int).tmod 2 = (n.toNat : Int) % 2 := Int.tmod_eq_emod_of_nonneg h0
        have hw1 : IntKind.i64.wrap (4 + g) = 4 + g := IntWalk.i64_in _ (by omega)
        have hw2 : IntKind.i64.wrap ((n.toNat : Int) % 2 * pagesOf a d g) = (n.toNat : Int) % 2 * pagesOf a d g := IntWalk.i64_in _ (by omega)
        have hw3 : IntKind.i64.wrap (4 + g + (n.toNat : Int) % 2 * pagesOf a d g) = 4 + g + (n.toNat : Int) % 2 * pagesOf a d g := IntWalk.i64_in _ (by omega)
        have hw4 : IntKind.i64.wrap (4 + g + (n.toNat : Int) % 2 * pagesOf a d g + i) = 4 + g + (n.toNat : Int) % 2 * pagesOf a d g + i := IntWalk.i64_in _ (by omega)
        have hw5 : IntKind.i64.wrap ((n.toNat : Int) % 2) = (n.toNat : Int) % 2 := IntWalk.i64_in _ (by omega)
        go_enter Try.func65, Try.ntmps65
        go_wp2_with fail
        refine (rright_any _ _ _ _ ha0 ha1 hd0 hd1 hg0 hg1).mono ?_
        rintro e w1 ⟨rfl, b1⟩
        rw [Hr.out]
        have hc := b1.cell (p := ⟨w.heap.size, 0, none⟩) (by simp)
        have hc' := b1.cell (p := ⟨w.heap.size, 1, none⟩) (by simp)
        have hc'' := b1.cell (p := ⟨w.heap.size, 2, none⟩) (by simp)
        have hs := b1.size
        simp at hc hc' hc'' hs
        have bw := bt (below_lit w _) b1
        go_wp2_with fail
        refine (rpages_any _ _ _ _ ha0 ha1 hd0 hd1 hg0 hg1).mono ?_
        rintro e w2 ⟨rfl, b2⟩
        have kc := b2.cell (p := ⟨w.heap.size, 0, none⟩) (by exact hs)
        have kc' := b2.cell (p := ⟨w.heap.size, 1, none⟩) (by exact hs)
        have kc'' := b2.cell (p := ⟨w.heap.size, 2, none⟩) (by exact hs)
        rw [hc] at kc
        rw [hc'] at kc'
        rw [hc''] at kc''
        have hs2 : w.heap.size < w2.heap.size := by have := b2.size; omega
        have bw2 := bt bw b2
        clear hc hc' hc''
        go_wp2
        refine region_inb (by kernel_rfl) (by kernel_rfl) ?_
        have inbNe := InB.some
        repeat (refine wpQuiet_step (fun K hK => ?_); go_simp; first | (refine hK _ ?_; clear hK K) | (apply Exists.intro; refine ⟨?_, hK _ ?_⟩; (· (intro w' hw'; first | (go_at_call 35; refine (rpages_any _ _ _ _ ha0 ha1 hd0 hd1 hg0 hg1).mono ?_; rintro e w1 ⟨rfl, b1⟩; exact ⟨rfl, hw'.on b1⟩) | (have hcw := hw'.cell; go_simp; exact rfl))); clear hK K))
        refine wpQuiet_nil ?_
        intro wq hq
        clear inbNe
        go_wp2
        go_ret
        exact ⟨ret_int hl.out.symm, bt bw2 hq⟩
      · have hl := Lib.hid (show areaAt a d g n.toNat i = -1 from if_neg (by omega))
        go_enter Try.func65, Try.ntmps65
        go_wp2_with fail
        refine (rright_any _ _ _ _ ha0 ha1 hd0 hd1 hg0 hg1).mono ?_
        rintro e w1 ⟨rfl, b1⟩
        rw [Hr.out]
        have hc := b1.cell (p := ⟨w.heap.size, 0, none⟩) (by simp)
        have hc' := b1.cell (p := ⟨w.heap.size, 1, none⟩) (by simp)
        have hc'' := b1.cell (p := ⟨w.heap.size, 2, none⟩) (by simp)
        simp at hc hc' hc''
        have bw := bt (below_lit w _) b1
        go_wp2_with fail
        refine (rpages_any _ _ _ _ ha0 ha1 hd0 hd1 hg0 hg1).mono ?_
        rintro e w2 ⟨rfl, b2⟩
        go_wp2
        go_ret
        exact ⟨ret_int hl.out.symm, bt bw b2⟩
    · have hl := Lib.hid (show areaAt a d g n.toNat i = -1 from if_neg (by omega))
      go_enter Try.func65, Try.ntmps65
      go_wp2_with fail
      refine (rright_any _ _ _ _ ha0 ha1 hd0 hd1 hg0 hg1).mono ?_
      rintro e w1 ⟨rfl, b1⟩
      rw [Hr.out]
      go_wp2
      go_ret
      exact ⟨ret_int hl.out.symm, bt (below_lit w _) b1⟩
  · have hr' : right a d g = false := by simpa using hr
    have hl := Lib.hid (show areaAt a d g n.toNat i = -1 from if_neg (fun h => hr (pages_right h.1 h.2)))
    have Hr := Lib.hid hr'
    clear hr hr'
    go_enter Try.func65, Try.ntmps65
    go_wp2_with fail
    refine (rright_any _ _ _ _ ha0 ha1 hd0 hd1 hg0 hg1).mono ?_
    rintro e w1 ⟨rfl, b1⟩
    rw [Hr.out]
    go_wp2
    go_ret
    exact ⟨ret_int hl.out.symm, bt (below_lit w _) b1⟩

set_option maxHeartbeats 400000 in
theorem rlog_any (a d g i : Int) (w : World) (ha0 : lo ≤ a) (ha1 : a ≤ hi) (hd0 : lo ≤ d) (hd1 : d ≤ hi) (hg0 : lo ≤ g) (hg1 : g ≤ hi) (hi0 : lo ≤ i) (hi1 : i ≤ hi) :
    Calls Try.prog 64 #[.agg #[.int .i64 a, .int .i64 d, .int .i64 g], .int .i64 i] w fun e w' => e = .returned (.int .i64 (logAt a d g i)) ∧ Below w.heap.size w w' := by
  by_cases hr : right a d g = true
  · obtain ⟨h1, h2, h3, h4, h5, h6⟩ := right_yes hr
    by_cases hi : 0 ≤ i
    · have hl := Lib.hid (show logAt a d g i = 4 + i % g from if_pos ⟨hr, hi⟩)
      have Hr := Lib.hid hr
      clear hr
      have hb0 := Int.emod_nonneg i (by omega : g ≠ 0)
      have hb1 := Int.emod_lt_of_pos i (by omega : 0 < g)
      go_enter Try.func64, Try.ntmps64
      go_wp2_with fail
      refine (rright_any _ _ _ _ ha0 ha1 hd0 hd1 hg0 hg1).mono ?_
      rintro e w1 ⟨rfl, b1⟩
      rw [Hr.out]
      obtain ⟨hc1, hf1, hs1⟩ := bcell b1
      simp at hs1
      go_wp2
      go_ret
      exact ⟨ret_int hl.out.symm, bt (below_lit w _) b1⟩
    · have hl := Lib.hid (show logAt a d g i = -1 from if_neg (by omega))
      have Hr := Lib.hid hr
      clear hr
      go_enter Try.func64, Try.ntmps64
      go_wp2_with fail
      refine (rright_any _ _ _ _ ha0 ha1 hd0 hd1 hg0 hg1).mono ?_
      rintro e w1 ⟨rfl, b1⟩
      rw [Hr.out]
      go_wp2
      go_ret
      exact ⟨ret_int hl.out.symm, bt (below_lit w _) b1⟩
  · have hr' : right a d g = false := by simpa using hr
    have hl := Lib.hid (show logAt a d g i = -1 from if_neg (by simp [hr']))
    have Hr := Lib.hid hr'
    clear hr hr'
    go_enter Try.func64, Try.ntmps64
    go_wp2_with fail
    refine (rright_any _ _ _ _ ha0 ha1 hd0 hd1 hg0 hg1).mono ?_
    rintro e w1 ⟨rfl, b1⟩
    rw [Hr.out]
    go_wp2
    go_ret
    exact ⟨ret_int hl.out.symm, bt (below_lit w _) b1⟩


theorem size_bd (a d g : Int) : 0 ≤ sizeOf a d g ∧ sizeOf a d g ≤ 238 := by
  unfold sizeOf
  by_cases h : right a d g = true
  · rw [if_pos h]
    obtain ⟨h1, h2, h3, h4, h5, h6⟩ := right_yes h
    have := pagesOf_bd a d g
    omega
  · rw [if_neg h]; omega
theorem size_right {a d g p : Int} (h0 : 0 ≤ p) (h : p < sizeOf a d g) : right a d g = true ∧ p < 4 + g + 2 * pagesOf a d g := by
  by_cases hr : right a d g = true
  · exact ⟨hr, by simpa [sizeOf, hr] using h⟩
  · simp [sizeOf, hr] at h; omega
/-- what stands at a place -/
def whereW (a d g p : Int) : ByteArray := if p < 0 ∨ sizeOf a d g ≤ p then ⟨#[]⟩ else if p < 2 then ⟨#[114, 111, 111, 116]⟩ else if p < 4 then ⟨#[115, 117, 112, 101, 114]⟩ else if p < 4 + g then ⟨#[108, 111, 103]⟩ else ⟨#[97, 114, 101, 97]⟩
def whereK (a d g p : Int) : Int := if p < 0 ∨ sizeOf a d g ≤ p then 0 else if p < 2 then p else if p < 4 then p - 2 else if p < 4 + g then p - 4 else p - 4 - g

set_option maxHeartbeats 800000 in
theorem rwhere_any (a d g p : Int) (w : World) (ha0 : lo ≤ a) (ha1 : a ≤ hi) (hd0 : lo ≤ d) (hd1 : d ≤ hi) (hg0 : lo ≤ g) (hg1 : g ≤ hi) (hp0 : lo ≤ p) (hp1 : p ≤ hi) :
    Calls Try.prog 63 #[.agg #[.int .i64 a, .int .i64 d, .int .i64 g], .int .i64 p] w fun e w' => e = .returned (.tuple #[.string (whereW a d g p), .int .i64 (whereK a d g p)]) ∧ Below w.heap.size w w' := by
  by_cases h0 : p < 0
  · have hw := Lib.hid (show whereW a d g p = ⟨#[]⟩ from if_pos (.inl h0))
    have hk := Lib.hid (show whereK a d g p = 0 from if_pos (.inl h0))
    go_enter Try.func63, Try.ntmps63
    go_wp2
    go_ret2
    exact ⟨by rw [hw.out, hk.out]; rfl, below_lit w _⟩
  by_cases h1 : sizeOf a d g ≤ p
  · have hw := Lib.hid (show whereW a d g p = ⟨#[]⟩ from if_pos (.inr h1))
    have hk := Lib.hid (show whereK a d g p = 0 from if_pos (.inr h1))
    go_enter Try.func63, Try.ntmps63
    go_wp2_with fail
    refine (rsize_any _ _ _ _ ha0 ha1 hd0 hd1 hg0 hg1).mono ?_
    rintro e w1 ⟨rfl, b1⟩
    go_wp2
    go_ret2
    exact ⟨by rw [hw.out, hk.out]; rfl, bt (below_lit w _) b1⟩
  obtain ⟨hr, hlt⟩ := size_right (a := a) (d := d) (g := g) (p := p) (by omega) (by omega)
  obtain ⟨r1, r2, r3, r4, r5, r6⟩ := right_yes hr
  clear hr
  have hn : ¬ (p < 0 ∨ sizeOf a d g ≤ p) := by omega
  have hpg := pagesOf_bd a d g
  by_cases h2 : p < 2
  · have hw := Lib.hid (show whereW a d g p = ⟨#[114, 111, 111, 116]⟩ by unfold whereW; rw [if_neg hn, if_pos h2])
    have hk := Lib.hid (show whereK a d g p = p by unfold whereK; rw [if_neg hn, if_pos h2])
    go_enter Try.func63, Try.ntmps63
    go_wp2_with fail
    refine (rsize_any _ _ _ _ ha0 ha1 hd0 hd1 hg0 hg1).mono ?_
    rintro e w1 ⟨rfl, b1⟩
    go_wp2
    go_ret2
    exact ⟨by rw [hw.out, hk.out]; rfl, bt (below_lit w _) b1⟩
  by_cases h3 : p < 4
  · have hw := Lib.hid (show whereW a d g p = ⟨#[115, 117, 112, 101, 114]⟩ by unfold whereW; rw [if_neg hn, if_neg h2, if_pos h3])
    have hk := Lib.hid (show whereK a d g p = p - 2 by unfold whereK; rw [if_neg hn, if_neg h2, if_pos h3])
    go_enter Try.func63, Try.ntmps63
    go_wp2_with fail
    refine (rsize_any _ _ _ _ ha0 ha1 hd0 hd1 hg0 hg1).mono ?_
    rintro e w1 ⟨rfl, b1⟩
    go_wp2
    go_ret2
    exact ⟨by rw [hw.out, hk.out]; rfl, bt (below_lit w _) b1⟩
  by_cases h4 : p < 4 + g
  · have hw := Lib.hid (show whereW a d g p = ⟨#[108, 111, 103]⟩ by unfold whereW; rw [if_neg hn, if_neg h2, if_neg h3, if_pos h4])
    have hk := Lib.hid (show whereK a d g p = p - 4 by unfold whereK; rw [if_neg hn, if_neg h2, if_neg h3, if_pos h4])
    go_enter Try.func63, Try.ntmps63
    go_wp2_with fail
    refine (rsize_any _ _ _ _ ha0 ha1 hd0 hd1 hg0 hg1).mono ?_
    rintro e w1 ⟨rfl, b1⟩
    have hc'' := b1.cell (p := ⟨w.heap.size, 2, none⟩) (by simp)
    simp at hc''
    go_wp2
    go_ret2
    exact ⟨by rw [hw.out, hk.out]; rfl, bt (below_lit w _) b1⟩
  · have hw := Lib.hid (show whereW a d g p = ⟨#[97, 114, 101, 97]⟩ by unfold whereW; rw [if_neg hn, if_neg h2, if_neg h3, if_neg h4])
    have hk := Lib.hid (show whereK a d g p = p - 4 - g by unfold whereK; rw [if_neg hn, if_neg h2, if_neg h3, if_neg h4])
    have e1 : IntKind.i64.wrap (p - 4) = p - 4 := IntWalk.i64_in _ (by omega)
    have e2 : IntKind.i64.wrap (p - 4 - g) = p - 4 - g := IntWalk.i64_in _ (by omega)
    go_enter Try.func63, Try.ntmps63
    go_wp2_with fail
    refine (rsize_any _ _ _ _ ha0 ha1 hd0 hd1 hg0 hg1).mono ?_
    rintro e w1 ⟨rfl, b1⟩
    have hc'' := b1.cell (p := ⟨w.heap.size, 2, none⟩) (by simp)
    have hs : w.heap.size < w1.heap.size := by have := b1.size; simp at this; omega
    simp at hc''
    go_wp2
    refine region_inb (by kernel_rfl) (by kernel_rfl) ?_
    have inbNe := InB.some
    repeat (refine wpQuiet_step (fun K hK => ?_); go_simp; first | (refine hK _ ?_; clear hK K) | (apply Exists.intro; refine ⟨?_, hK _ ?_⟩; (· (intro w' hw'; first | (have hcw := hw'.cell; go_simp; exact rfl))); clear hK K))
    refine wpQuiet_nil ?_
    intro wq hq
    clear inbNe
    go_wp2
    go_ret2
    exact ⟨by rw [hw.out, hk.out]; rfl, bt (bt (below_lit w _) b1) hq⟩
set_option maxHeartbeats 1600000 in
theorem where_in (a d g q : Int) (w : World) (ha0 : lo ≤ a) (ha1 : a ≤ hi) (hd0 : lo ≤ d) (hd1 : d ≤ hi) (hg0 : lo ≤ g) (hg1 : g ≤ hi) (hq0 : 0 ≤ q) (hq1 : q < sizeOf a d g) :
    Calls Try.prog 62 #[.agg #[.int .i64 a, .int .i64 d, .int .i64 g], .int .i64 q] w fun e w' => e = .returned (.tuple #[.string (whereW a d g q), .int .i64 (whereK a d g q)]) ∧ Below w.heap.size w w' := by
  obtain ⟨hr, hlt⟩ := size_right hq0 hq1
  obtain ⟨r1, r2, r3, r4, r5, r6⟩ := right_yes hr
  have hn : ¬ (q < 0 ∨ sizeOf a d g ≤ q) := by omega
  have hp := pagesOf_bd a d g
  have hsb := size_bd a d g
  clear hr
  obtain ⟨p, hpe⟩ : ∃ p, p = 2 * pagesOf a d g := ⟨_, rfl⟩
  have hp1 : 0 ≤ p := by omega
  have hp2 : p ≤ 170 := by omega
  have hlt' : q < 4 + g + p := by omega
  have Hn := Lib.hid hn
  clear hn
  have i0 : ∀ w, (Instr.index 70 (.agg #[.string ⟨#[114, 111, 111, 116]⟩, .int .i64 2, .string ⟨#[115, 117, 112, 101, 114]⟩, .int .i64 2, .string ⟨#[108, 111, 103]⟩, .int .i64 g, .string ⟨#[97, 114, 101, 97]⟩, .int .i64 p]) (.int .i64 0)).run Try.prog w = .ok (.agg #[.string ⟨#[114, 111, 111, 116]⟩, .int .i64 2]) w := fun _ => by kernel_rfl
  have i1 : ∀ w, (Instr.index 70 (.agg #[.string ⟨#[114, 111, 111, 116]⟩, .int .i64 2, .string ⟨#[115, 117, 112, 101, 114]⟩, .int .i64 2, .string ⟨#[108, 111, 103]⟩, .int .i64 g, .string ⟨#[97, 114, 101, 97]⟩, .int .i64 p]) (.int .i64 1)).run Try.prog w = .ok (.agg #[.string ⟨#[115, 117, 112, 101, 114]⟩, .int .i64 2]) w := fun _ => by kernel_rfl
  have i2 : ∀ w, (Instr.index 70 (.agg #[.string ⟨#[114, 111, 111, 116]⟩, .int .i64 2, .string ⟨#[115, 117, 112, 101, 114]⟩, .int .i64 2, .string ⟨#[108, 111, 103]⟩, .int .i64 g, .string ⟨#[97, 114, 101, 97]⟩, .int .i64 p]) (.int .i64 2)).run Try.prog w = .ok (.agg #[.string ⟨#[108, 111, 103]⟩, .int .i64 g]) w := fun _ => by kernel_rfl
  have i3 : ∀ w, (Instr.index 70 (.agg #[.string ⟨#[114, 111, 111, 116]⟩, .int .i64 2, .string ⟨#[115, 117, 112, 101, 114]⟩, .int .i64 2, .string ⟨#[108, 111, 103]⟩, .int .i64 g, .string ⟨#[97, 114, 101, 97]⟩, .int .i64 p]) (.int .i64 3)).run Try.prog w = .ok (.agg #[.string ⟨#[97, 114, 101, 97]⟩, .int .i64 p]) w := fun _ => by kernel_rfl
  go_enter Try.func62, Try.ntmps62
  go_wp2_with fail
  go_step3
  go_wp2_with fail
  refine (size_any _ _ _ _ ha0 ha1 hd0 hd1 hg0 hg1).mono ?_
  rintro e w1 ⟨rfl, b1⟩
  obtain ⟨hc1, hf1, hs1⟩ := bcell b1
  simp at hs1
  have bw := bt (below_lit w _) b1
  go_wp2_with fail
  go_step3
  go_wp2_with fail
  refine (parts_any _ _ _ _ ha0 ha1 hd0 hd1 hg0 hg1).mono ?_
  rintro e w2 ⟨rfl, b2⟩
  unfold partsV
  rw [← hpe]
  clear hpe hc1 hf1 hlt hq1 hsb
  have bw2 := bt bw b2
  go_wp2_with fail
  go_loopw [1, 7, 18] (fun x _ i wr => ∃ k : Nat, k ≤ 3 ∧ i = .int .i64 k ∧ x = .int .i64 (q - psum g p k) ∧ psum g p k ≤ q ∧ Below w.heap.size w wr) (fun _ _ i _ => (4 - intOf i).toNat)
  case atStart => exact ⟨0, by omega, rfl, by simp [psum], by simpa [psum] using hq0, bw2⟩
  case round =>
    obtain ⟨k, hk, rfl, rfl, hps, hbel⟩ := hrel
    have hbs := hbel.size
    obtain rfl | rfl | rfl | rfl : k = 0 ∨ k = 1 ∨ k = 2 ∨ k = 3 := by omega
    · simp only [psum, Int.cast_ofNat_Int, Int.sub_zero] at hps ⊢
      by_cases h2 : q < 2
      · have hd := h2
        have hw := Lib.hid (show whereW a d g q = ⟨#[114, 111, 111, 116]⟩ by unfold whereW; rw [if_neg Hn.out, if_pos (by omega)])
        have hk := Lib.hid (show whereK a d g q = q by unfold whereK; rw [if_neg Hn.out, if_pos (by omega)])
        go_wp2
        rw [Exit.noGoto_ret]
        go_ret2
        exact ⟨by rw [hw.out, hk.out]; rfl, hbel.alloc hbs _⟩
      · go_wp2
        go_roundw
        case rel => exact ⟨1, by omega, rfl, by simp [psum]; try omega, by simp [psum]; omega, hbel.alloc hbs _⟩
        case measure => simp [intOf]
    · simp only [psum, Int.cast_ofNat_Int] at hps ⊢
      by_cases h2 : q < 4
      · have hd := h2
        have hw := Lib.hid (show whereW a d g q = ⟨#[115, 117, 112, 101, 114]⟩ by unfold whereW; rw [if_neg Hn.out, if_neg (by omega), if_pos (by omega)])
        have hk := Lib.hid (show whereK a d g q = q - 2 by unfold whereK; rw [if_neg Hn.out, if_neg (by omega), if_pos (by omega)])
        go_wp2
        rw [Exit.noGoto_ret]
        go_ret2
        exact ⟨by rw [hw.out, hk.out]; rfl, hbel.alloc hbs _⟩
      · go_wp2
        go_roundw
        case rel => exact ⟨2, by omega, rfl, by simp [psum]; try omega, by simp [psum]; omega, hbel.alloc hbs _⟩
        case measure => simp [intOf]
    · simp only [psum, Int.cast_ofNat_Int] at hps ⊢
      by_cases h2 : q < 4 + g
      · have hd := h2
        have hw := Lib.hid (show whereW a d g q = ⟨#[108, 111, 103]⟩ by unfold whereW; rw [if_neg Hn.out, if_neg (by omega), if_neg (by omega), if_pos (by omega)])
        have hk := Lib.hid (show whereK a d g q = q - 4 by unfold whereK; rw [if_neg Hn.out, if_neg (by omega), if_neg (by omega), if_pos (by omega)])
        go_wp2
        rw [Exit.noGoto_ret]
        go_ret2
        exact ⟨by rw [hw.out, hk.out]; rfl, hbel.alloc hbs _⟩
      · go_wp2
        go_roundw
        case rel => exact ⟨3, by omega, rfl, by simp [psum]; try omega, by simp [psum]; omega, hbel.alloc hbs _⟩
        case measure => simp [intOf]
    · simp only [psum, Int.cast_ofNat_Int] at hps ⊢
      have hw := Lib.hid (show whereW a d g q = ⟨#[97, 114, 101, 97]⟩ by unfold whereW; rw [if_neg Hn.out, if_neg (by omega), if_neg (by omega), if_neg (by omega)])
      have hk := Lib.hid (show whereK a d g q = q - (4 + g) by unfold whereK; rw [if_neg Hn.out, if_neg (by omega), if_neg (by omega), if_neg (by omega)]; omega)
      go_wp2
      rw [Exit.noGoto_ret]
      go_ret2
      exact ⟨by rw [hw.out, hk.out]; rfl, hbel.alloc hbs _⟩

set_option maxHeartbeats 400000 in
theorem where_any (a d g q : Int) (w : World) (ha0 : lo ≤ a) (ha1 : a ≤ hi) (hd0 : lo ≤ d) (hd1 : d ≤ hi) (hg0 : lo ≤ g) (hg1 : g ≤ hi) (hq0 : lo ≤ q) (hq1 : q ≤ hi) :
    Calls Try.prog 62 #[.agg #[.int .i64 a, .int .i64 d, .int .i64 g], .int .i64 q] w fun e w' => e = .returned (.tuple #[.string (whereW a d g q), .int .i64 (whereK a d g q)]) ∧ Below w.heap.size w w' := by
  by_cases h0 : q < 0
  · have hw := Lib.hid (show whereW a d g q = ⟨#[]⟩ from if_pos (.inl h0))
    have hk := Lib.hid (show whereK a d g q = 0 from if_pos (.inl h0))
    go_enter Try.func62, Try.ntmps62
    go_wp2_with fail
    go_step3
    go_wp2_with fail
    rw [Exit.noGoto_ret]
    go_ret2
    exact ⟨by rw [hw.out, hk.out]; rfl, below_lit w _⟩
  by_cases h1 : sizeOf a d g ≤ q
  · have hw := Lib.hid (show whereW a d g q = ⟨#[]⟩ from if_pos (.inr h1))
    have hk := Lib.hid (show whereK a d g q = 0 from if_pos (.inr h1))
    go_enter Try.func62, Try.ntmps62
    go_wp2_with fail
    go_step3
    go_wp2_with fail
    refine (size_any _ _ _ _ ha0 ha1 hd0 hd1 hg0 hg1).mono ?_
    rintro e w1 ⟨rfl, b1⟩
    go_wp2_with fail
    rw [Exit.noGoto_ret]
    go_ret2
    exact ⟨by rw [hw.out, hk.out]; rfl, bt (below_lit w _) b1⟩
  · exact where_in a d g q w ha0 ha1 hd0 hd1 hg0 hg1 (by omega) (by omega)

theorem keep3 {w wa w1 : World} {x y z : Value} (h0 : wa.cell? ⟨w.heap.size, 0, none⟩ = some x) (h1 : wa.cell? ⟨w.heap.size, 1, none⟩ = some y) (h2 : wa.cell? ⟨w.heap.size, 2, none⟩ = some z) (hs : w.heap.size < wa.heap.size) (b : Below wa.heap.size wa w1) :
    w1.cell? ⟨w.heap.size, 0, none⟩ = some x ∧ w1.cell? ⟨w.heap.size, 1, none⟩ = some y ∧ w1.cell? ⟨w.heap.size, 2, none⟩ = some z ∧ w.heap.size < w1.heap.size :=
  ⟨(b.cell (p := ⟨w.heap.size, 0, none⟩) hs).trans h0, (b.cell (p := ⟨w.heap.size, 1, none⟩) hs).trans h1, (b.cell (p := ⟨w.heap.size, 2, none⟩) hs).trans h2, Nat.lt_of_lt_of_le hs b.size⟩
set_option maxHeartbeats 400000 in
theorem alive_any (w : World) : Calls Try.prog 38 #[] w fun e w' => e = .returned (.bool true) ∧ Below w.heap.size w w' := by
  have e1 := Lib.hid (show right 2 1 3 = true by decide)
  have e2 := Lib.hid (show nodesOf 2 1 3 = 1 by decide)
  have e3 := Lib.hid (show leavesOf 2 1 3 = 2 by decide)
  have e4 := Lib.hid (show Geom.sizeOf 2 1 3 = 13 by decide)
  go_enter Try.func38, Try.ntmps38
  have c0 : (w.alloc (.cells #[.int .i64 2, .int .i64 1, .int .i64 3] 35)).cell? ⟨w.heap.size, 0, none⟩ = some (.int .i64 2) := by simp
  have c1 : (w.alloc (.cells #[.int .i64 2, .int .i64 1, .int .i64 3] 35)).cell? ⟨w.heap.size, 1, none⟩ = some (.int .i64 1) := by simp
  have c2 : (w.alloc (.cells #[.int .i64 2, .int .i64 1, .int .i64 3] 35)).cell? ⟨w.heap.size, 2, none⟩ = some (.int .i64 3) := by simp
  have hs : w.heap.size < (w.alloc (.cells #[.int .i64 2, .int .i64 1, .int .i64 3] 35)).heap.size := by simp
  have bb := b1alloc w (.cells #[.int .i64 2, .int .i64 1, .int .i64 3] 35)
  go_wp2_with fail
  refine (right_any _ _ _ _ (by decide) (by decide) (by decide) (by decide) (by decide) (by decide)).mono ?_
  rintro e w1 ⟨rfl, b1⟩
  rw [e1.out]
  have bb := bt bb b1
  obtain ⟨c0, c1, c2, hs⟩ := keep3 c0 c1 c2 hs b1
  go_wp2_with fail
  refine (nodes_any _ _ _ _ (by decide) (by decide) (by decide) (by decide) (by decide) (by decide)).mono ?_
  rintro e w1 ⟨rfl, b1⟩
  rw [e2.out]
  have bb := bt bb b1
  obtain ⟨c0, c1, c2, hs⟩ := keep3 c0 c1 c2 hs b1
  go_wp2_with fail
  refine (leaves_any _ _ _ _ (by decide) (by decide) (by decide) (by decide) (by decide) (by decide)).mono ?_
  rintro e w1 ⟨rfl, b1⟩
  rw [e3.out]
  have bb := bt bb b1
  obtain ⟨c0, c1, c2, hs⟩ := keep3 c0 c1 c2 hs b1
  go_wp2_with fail
  refine (size_any _ _ _ _ (by decide) (by decide) (by decide) (by decide) (by decide) (by decide)).mono ?_
  rintro e w1 ⟨rfl, b1⟩
  rw [e4.out]
  have bb := bt bb b1
  obtain ⟨c0, c1, c2, hs⟩ := keep3 c0 c1 c2 hs b1
  go_wp2
  go_ret
  exact ⟨rfl, bb⟩
end Go.Proofs.Ytknjkafjeicmbaa.Geom
