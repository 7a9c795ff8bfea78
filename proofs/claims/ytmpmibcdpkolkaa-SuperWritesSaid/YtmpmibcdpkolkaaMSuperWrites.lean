/- SuperWrites: for every input the law returns true: what stands behind any super that is written, or why it is not, and that both places are blank when they were cleared. No condition. -/
import Derived.Test.YtmpmibcdpkolkaaSuperWritesE
import Derived.Lib.MinMax
namespace Go.Proofs.Ytmpmibcdpkolkaa.SuperWrites
open Go.ChangeShapes Go.WideShapes Go.ChangeAt Go.RowKit Go.Joins
open Go.ChangeMaps (open_string shut_string)
open Go.Proofs.Ytmpmibcdpkolkaa.Sup
open Go.Proofs.Ytmpmibcdpkolkaa.Geom (lo hi)
open Go.Proofs.Ytmpmibcdpkolkaa.Sec (symbolic_any RetX five5x X)
set_option linter.unusedVariables false
set_option maxRecDepth 100000
set_option maxHeartbeats 4000000 in
theorem walk (ga gd gl : Int) (life : UInt64) (b0 : Int) (g0 : UInt64) (w : World) (ha0 : -9223372036854775808 ≤ ga) (ha1 : ga ≤ 9223372036854775807) (hd0 : -9223372036854775808 ≤ gd) (hd1 : gd ≤ 9223372036854775807) (hg0 : -9223372036854775808 ≤ gl) (hg1 : gl ≤ 9223372036854775807)
    (hb0 : -9223372036854775808 ≤ b0) (hb1 : b0 ≤ 9223372036854775807) :
    Calls Try.prog 3 #[gv ga gd gl, sv life b0 g0] w fun e w' => e = .returned (.bool true) ∧ Below w.heap.size w w' := by
  have hG : Gb ga gd gl := ⟨ha0, ha1, hd0, hd1, hg0, hg1⟩
  have FG : Blk ((w.alloc (.cells (gcell ga gd gl).toArray 23)).alloc (.cells (scell life b0 g0).toArray 26)) w.heap.size (gcell ga gd gl) := (Blk.new w (gcell ga gd gl) 23).alloc _
  have FX : Blk ((w.alloc (.cells (gcell ga gd gl).toArray 23)).alloc (.cells (scell life b0 g0).toArray 26)) (w.heap.size + 1) (scell life b0 g0) := by simpa using Blk.new (w.alloc (.cells (gcell ga gd gl).toArray 23)) (scell life b0 g0) 26
  have bw := b2alloc w (.cells (gcell ga gd gl).toArray 23) (.cells (scell life b0 g0).toArray 26)
  obtain ⟨z0, z1, z2⟩ := gthree FG
  obtain ⟨y0, y1, y2⟩ := gthree FX
  have HA := Lib.hid FG
  have HX := Lib.hid FX
  have hlA : w.heap.size < ((w.alloc (.cells (gcell ga gd gl).toArray 23)).alloc (.cells (scell life b0 g0).toArray 26)).heap.size := FG.lt
  have hlX : w.heap.size + 1 < ((w.alloc (.cells (gcell ga gd gl).toArray 23)).alloc (.cells (scell life b0 g0).toArray 26)).heap.size := FX.lt
  have HR := Lib.hid (fun W => Geom.rright_any ga gd gl W hG.a0 hG.a1 hG.d0 hG.d1 hG.g0 hG.g1)
  have HS := Lib.hid (fun W => Geom.rsize_any ga gd gl W hG.a0 hG.a1 hG.d0 hG.d1 hG.g0 hG.g1)
  have hM := fun W => mark_any ga gd gl W hG
  have hRM := fun W => rmark_any ga gd gl W hG
  have hml := mk_len ga gd gl
  have hSm := fun A B c d W h3 h4 => R1.same_any A B (mk ga gd gl) (mk ga gd gl) _ _ c d W rfl rfl h3 h4 (by omega) (by omega)
  rw [R1.sameB_self] at hSm
  clear FG FX
  have HM := Lib.hid hM
  have HRM := Lib.hid hRM
  have HSm := Lib.hid hSm
  have tD : True := trivial
  have tW : True := trivial
  by_cases hq : Geom.right ga gd gl = true
  rotate_left
  · have hz : Geom.sizeOf ga gd gl = 0 := by unfold Geom.sizeOf; rw [if_neg hq]
    have hqf : Geom.right ga gd gl = false := by simpa using hq
    rw [hz] at HS
    have HN := Lib.hid (fun W => newN_any 1 1 (by rfl) (by omega) (by omega) W)
    have hw := fun g fp gS W h => write_wrong g fp (Disk.new 1) gS ga gd gl life b0 g0 W hG h (by rw [srightF_no hq]; decide)
    rw [srightF_no hq] at hw
    have HW := Lib.hid hw
    clear hM hRM hSm hw hz
    go_enter Try.func3, Try.ntmps3
    go_wp2_with (first
      | (go_at_call 13; refine (HS.out _).mono ?_; rintro e w2 ⟨rfl, b2⟩)
      | (go_at_call 12; refine (HN.out _).mono ?_; rintro e w3 ⟨g, fp, rfl, hD, hfp, b3⟩; have bs := bt b2 b3; have hfp' := fun j hj => Nat.le_trans b2.size (hfp j hj))
      | (go_at_call 14; refine (symbolic_any _).mono ?_; rintro e w4 ⟨gS, bS, rfl, hS, hgS, hbS, b4⟩; have H4 := Here.start hD hfp' bs hS hgS hbS b4; clear z0 z1 z2 y0 y1 y2; obtain ⟨z0, z1, z2⟩ := gthree (HA.out.below H4.bel hlA); obtain ⟨y0, y1, y2⟩ := gthree (HX.out.below H4.bel hlX))
      | (go_at_call 15; refine (HW.out _ _ _ _ H4.both.disk).mono ?_; rintro e w5 ⟨rfl, b5⟩; have H5 := H4.on b5; clear z0 z1 z2 y0 y1 y2; obtain ⟨z0, z1, z2⟩ := gthree (HA.out.below H5.bel hlA); obtain ⟨y0, y1, y2⟩ := gthree (HX.out.below H5.bel hlX)))
    have FG5 := HA.out.below H5.bel hlA
    have FX5 := HX.out.below H5.bel hlX
    have cz : Below w5.heap.size w5 w5.drew := (Below.refl _ _).drew
    go_region_held3 (fun w' => (w'.cell? ⟨w.heap.size, 0, none⟩ = some (.int .i64 ga) ∧ w'.cell? ⟨w.heap.size, 1, none⟩ = some (.int .i64 gd) ∧ w'.cell? ⟨w.heap.size, 2, none⟩ = some (.int .i64 gl)) ∧ (w'.cell? ⟨w.heap.size + 1, 0, none⟩ = some (.int .u64 (life.toNat : Int)) ∧ w'.cell? ⟨w.heap.size + 1, 1, none⟩ = some (.int .i64 b0) ∧ w'.cell? ⟨w.heap.size + 1, 2, none⟩ = some (.int .u64 (g0.toNat : Int)))) (first | exact ⟨gthree (FG5.on cz), gthree (FX5.on cz)⟩ | exact ⟨gthree (FG5.on c1), gthree (FX5.on c1)⟩ | exact ⟨gthree (FG5.on c2), gthree (FX5.on c2)⟩ | exact ⟨gthree (FG5.on c3), gthree (FX5.on c3)⟩ | exact ⟨gthree (FG5.on c4), gthree (FX5.on c4)⟩ | exact ⟨gthree (FG5.on c5), gthree (FX5.on c5)⟩) (first
      | (go_at_call 17; refine (HM.out _).mono ?_; rintro e x1 ⟨A1, d1, rfl, o1, t1⟩; have c1 := bt cz t1)
      | (go_at_call 18; refine (HRM.out _).mono ?_; rintro e x2 ⟨A2, d2, rfl, o2, t2⟩; have c2 := bt c1 t2; have rd1 := (Rd.own o1).on t2)
      | (go_at_call 16; refine (HSm.out A1 A2 d1 d2 _ rd1 (Rd.own o2)).mono ?_; rintro e x3 ⟨rfl, t3⟩; have c3 := bt c2 t3)
      | (go_at_call 15; have _t := tD; refine (writeD_nil _ _ _ _ _ _ _ _).mono ?_; rintro e x4 ⟨rfl, t4⟩; have c4 := bt c3 t4; clear tD)
      | (go_at_call 15; refine (writeS_nil _ _ _ _ _ _ _ _).mono ?_; rintro e x5 ⟨rfl, t5⟩; have c5 := bt c4 t5))
    have H6 := H5.on c5
    clear c1 c2 c3 c4 cz t1 t2 t3 t4 t5 rd1 o1 o2
    obtain ⟨z0, z1, z2⟩ := gthree (HA.out.below H6.bel hlA)
    obtain ⟨y0, y1, y2⟩ := gthree (HX.out.below H6.bel hlX)
    go_wp2_with (first
      | (go_at_call 19; refine (HR.out _).mono ?_; rintro e w7 ⟨rfl, b7⟩; rw [hqf]; have H7 := H6.on b7)
      | (go_at_call 20; refine (alive_any _).mono ?_; rintro e w8 ⟨rfl, b8⟩))
    go_ret
    exact ⟨rfl, bt bw (bt H7.bel b8)⟩
  have hsb := Geom.size_bd ga gd gl
  have hsg := size_ge hq
  obtain ⟨n, hn⟩ : ∃ n : Nat, (n : Int) = Geom.sizeOf ga gd gl := ⟨(Geom.sizeOf ga gd gl).toNat, by omega⟩
  have hn7 : 7 ≤ n ∧ n ≤ 238 := by omega
  rw [← hn] at HS
  have hmx : max (n : Int) 1 = (n : Int) := by omega
  have r0 : srightF (Disk.new n) ga gd gl = 0 := srightF_new hq rfl hn
  have HN := Lib.hid (fun W => newN_any n (n : Int) rfl (by omega) (by omega) W)
  by_cases hb : b0 < 0 ∨ 1073741824 < b0
  · have hw := fun g fp gS W h => write_base g fp (Disk.new n) gS ga gd gl life b0 g0 W hG h r0 hb
    have HW := Lib.hid hw
    clear hM hRM hSm hw hn hsb hsg
    go_enter Try.func3, Try.ntmps3
    go_wp2_with (first
      | (go_at_call 13; refine (HS.out _).mono ?_; rintro e w2 ⟨rfl, b2⟩)
      | (go_at_call 12; refine (HN.out _).mono ?_; rintro e w3 ⟨g, fp, rfl, hD, hfp, b3⟩; have bs := bt b2 b3; have hfp' := fun j hj => Nat.le_trans b2.size (hfp j hj))
      | (go_at_call 14; refine (symbolic_any _).mono ?_; rintro e w4 ⟨gS, bS, rfl, hS, hgS, hbS, b4⟩; have H4 := Here.start hD hfp' bs hS hgS hbS b4; clear z0 z1 z2 y0 y1 y2; obtain ⟨z0, z1, z2⟩ := gthree (HA.out.below H4.bel hlA); obtain ⟨y0, y1, y2⟩ := gthree (HX.out.below H4.bel hlX))
      | (go_at_call 15; refine (HW.out _ _ _ _ H4.both.disk).mono ?_; rintro e w5 ⟨rfl, b5⟩; have H5 := H4.on b5; clear z0 z1 z2 y0 y1 y2; obtain ⟨z0, z1, z2⟩ := gthree (HA.out.below H5.bel hlA); obtain ⟨y0, y1, y2⟩ := gthree (HX.out.below H5.bel hlX)))
    have FG5 := HA.out.below H5.bel hlA
    have FX5 := HX.out.below H5.bel hlX
    have cz : Below w5.heap.size w5 w5.drew := (Below.refl _ _).drew
    go_region_held3 (fun w' => (w'.cell? ⟨w.heap.size, 0, none⟩ = some (.int .i64 ga) ∧ w'.cell? ⟨w.heap.size, 1, none⟩ = some (.int .i64 gd) ∧ w'.cell? ⟨w.heap.size, 2, none⟩ = some (.int .i64 gl)) ∧ (w'.cell? ⟨w.heap.size + 1, 0, none⟩ = some (.int .u64 (life.toNat : Int)) ∧ w'.cell? ⟨w.heap.size + 1, 1, none⟩ = some (.int .i64 b0) ∧ w'.cell? ⟨w.heap.size + 1, 2, none⟩ = some (.int .u64 (g0.toNat : Int)))) (first | exact ⟨gthree (FG5.on cz), gthree (FX5.on cz)⟩ | exact ⟨gthree (FG5.on c1), gthree (FX5.on c1)⟩ | exact ⟨gthree (FG5.on c2), gthree (FX5.on c2)⟩ | exact ⟨gthree (FG5.on c3), gthree (FX5.on c3)⟩ | exact ⟨gthree (FG5.on c4), gthree (FX5.on c4)⟩ | exact ⟨gthree (FG5.on c5), gthree (FX5.on c5)⟩) (first
      | (go_at_call 17; refine (HM.out _).mono ?_; rintro e x1 ⟨A1, d1, rfl, o1, t1⟩; have c1 := bt cz t1)
      | (go_at_call 18; refine (HRM.out _).mono ?_; rintro e x2 ⟨A2, d2, rfl, o2, t2⟩; have c2 := bt c1 t2; have rd1 := (Rd.own o1).on t2)
      | (go_at_call 16; refine (HSm.out A1 A2 d1 d2 _ rd1 (Rd.own o2)).mono ?_; rintro e x3 ⟨rfl, t3⟩; have c3 := bt c2 t3)
      | (go_at_call 15; have _t := tD; refine (writeD_nil _ _ _ _ _ _ _ _).mono ?_; rintro e x4 ⟨rfl, t4⟩; have c4 := bt c3 t4; clear tD)
      | (go_at_call 15; refine (writeS_nil _ _ _ _ _ _ _ _).mono ?_; rintro e x5 ⟨rfl, t5⟩; have c5 := bt c4 t5))
    have H6 := H5.on c5
    clear c1 c2 c3 c4 cz t1 t2 t3 t4 t5 rd1 o1 o2
    obtain ⟨z0, z1, z2⟩ := gthree (HA.out.below H6.bel hlA)
    obtain ⟨y0, y1, y2⟩ := gthree (HX.out.below H6.bel hlX)
    rcases (show b0 < 0 ∨ (¬ b0 < 0 ∧ 1073741824 < b0) by omega) with hb1 | ⟨hb1, hb2⟩
    · go_wp2_with (first
        | (go_at_call 19; refine (HR.out _).mono ?_; rintro e w7 ⟨rfl, b7⟩; rw [hq]; have H7 := H6.on b7; clear z0 z1 z2 y0 y1 y2; obtain ⟨z0, z1, z2⟩ := gthree (HA.out.below H7.bel hlA); obtain ⟨y0, y1, y2⟩ := gthree (HX.out.below H7.bel hlX))
        | (go_at_call 20; refine (alive_any _).mono ?_; rintro e w8 ⟨rfl, b8⟩))
      go_ret
      exact ⟨rfl, bt bw (bt H7.bel b8)⟩
    · go_wp2_with (first
        | (go_at_call 19; refine (HR.out _).mono ?_; rintro e w7 ⟨rfl, b7⟩; rw [hq]; have H7 := H6.on b7; clear z0 z1 z2 y0 y1 y2; obtain ⟨z0, z1, z2⟩ := gthree (HA.out.below H7.bel hlA); obtain ⟨y0, y1, y2⟩ := gthree (HX.out.below H7.bel hlX))
        | (go_at_call 20; refine (alive_any _).mono ?_; rintro e w8 ⟨rfl, b8⟩))
      go_ret
      exact ⟨rfl, bt bw (bt H7.bel b8)⟩
  have p1 := splace_ok life
  obtain ⟨v1, v2, v3⟩ := (up_new n).wf (p := splace life) (by omega) (by omega) (sB_len [] ga gd gl life b0 g0)
  have q1 := wf_sz (Disk.new n) (splace life) (sB [] ga gd gl life b0 g0)
  have q0 : (Disk.new n).sz = 0 := rfl
  have l1 := sL_len [] ga gd gl life b0 g0
  simp only [List.length_nil] at l1
  have hgd : Sup.Good (sL [] ga gd gl life b0 g0) (splace life) (sx ga gd gl life b0 g0) (sB [] ga gd gl life b0 g0) := sB_good [] (by omega) (by omega)
  have hw := fun g fp gS bS W h => write_any g fp (Disk.new n) gS bS [] ga gd gl life b0 g0 W hG h (by simp) (by omega) r0 (by omega) (by omega)
  obtain ⟨V, eV⟩ : ∃ V, V = wf (Disk.new n) (splace life) (sB [] ga gd gl life b0 g0) := ⟨_, rfl⟩
  obtain ⟨L, eL⟩ : ∃ V, V = sL [] ga gd gl life b0 g0 := ⟨_, rfl⟩
  rw [← eV] at v1 v2 v3 q1 hw
  rw [← eL] at l1 hw hgd
  rw [v1] at hw
  have rV : srightF V.1 ga gd gl = 0 := srightF_new hq v2.size hn
  have hst : Disk.kept V.1.all (splace life).toNat = sB [] ga gd gl life b0 g0 := by rw [v3]; exact kept_after _ _ _
  have at1 := v2.at_own (l := L) (ga := ga) (gd := gd) (gl := gl) (life := life) (base := b0) (gen := g0) (by omega) (by rw [hst]; exact hgd)
  have at2 : atR L V.1 ga gd gl (5 - splace life) = none := v2.at_zero (by omega) (by omega) (by rw [v3, kept_beside _ _ (by omega)]; rfl)
  have hbest := best_first (f := atR L V.1 ga gd gl) p1 rfl at1 at2
  have hK := fun g fp W h => Disk.kept_any g fp V.1 (splace life) W h
  rw [v2.keptAt (by omega) (by omega), hst] at hK
  have hDe := fun gS bS A c W hS hr hc hcm => Sec.decode_sym (splace life) gS bS L A (sB [] ga gd gl life b0 g0) _ c W hS (by omega) (by omega) (by omega) rfl hr (by rw [sB_len]; omega) hc hcm
  rw [hgd.dec] at hDe
  have hRd := fun g fp gS bS W h => readSup_any g fp V.1 gS bS L ga gd gl W hG h (by omega) (by omega) rV v2.down
  rw [hbest] at hRd
  have hRd' : ∀ g fp gS bS W, Both W g fp V.1 gS bS L → Calls Try.prog 24 #[.pointer (some ⟨g, 0, none⟩), .pointer (some ⟨gS, 0, none⟩), gv ga gd gl] W fun e w' => e = .returned (.tuple #[.agg #[.int .u64 (life.toNat : Int), .int .i64 b0, .int .u64 (g0.toNat : Int)], .int .i64 0]) ∧ Below W.heap.size W w' := hRd
  obtain ⟨k1, k2, k3, k4⟩ := v2.clr (by omega)
  have hCl := fun g fp W h => clear_any g fp V.1 ga gd gl W hG h (by omega) rV
  obtain ⟨C, eC⟩ : ∃ C, C = clr V.1 := ⟨_, rfl⟩
  rw [← eC] at k1 k2 k3 k4 hCl
  have hK2 := fun g fp W h => Disk.kept_any g fp C.1 2 W h
  have hK3 := fun g fp W h => Disk.kept_any g fp C.1 3 W h
  rw [k2.keptAt (by omega) (by omega), show Disk.kept C.1.all (2 : Int).toNat = Disk.zero512 by rw [k3, show V.1.all ++ [(2, Disk.zero512), (3, Disk.zero512)] = (V.1.all ++ [(2, Disk.zero512)]) ++ [(3, Disk.zero512)] by simp, kept_beside _ _ (by decide)]; exact kept_after _ _ _] at hK2
  rw [k2.keptAt (by omega) (by omega), show Disk.kept C.1.all (3 : Int).toNat = Disk.zero512 by rw [k3, show V.1.all ++ [(2, Disk.zero512), (3, Disk.zero512)] = (V.1.all ++ [(2, Disk.zero512)]) ++ [(3, Disk.zero512)] by simp]; exact kept_after _ _ _] at hK3
  have hRb := fun A c W hr => Sec.rblank_any A Disk.zero512 _ c W rfl hr (by rw [Disk.zero512_len]; omega)
  rw [show Sec.blankB Disk.zero512 = true from decide_eq_true rfl] at hRb
  have hSame : ∀ (x : X), x = sx ga gd gl life b0 g0 → ∀ A B c d W, Rd W W.heap.size A (x.body.map e8) → Rd W W.heap.size B ((mk ga gd gl).map e8) → Calls Try.prog 26 #[.agg #[.int .i64 x.kind, .int .u64 (x.life.toNat : Int), .int .i64 x.seq, .int .u64 (x.gen.toNat : Int), .slice A x.body.length c], .agg #[.int .i64 2, .int .u64 (life.toNat : Int), .int .i64 b0, .int .u64 (g0.toNat : Int), .slice B (mk ga gd gl).length d]] W fun e w' => e = .returned (.bool true) ∧ Below W.heap.size W w' := by
    intro x hx A B c d W h3 h4
    subst hx
    have := Sec.rsame_any (sx ga gd gl life b0 g0) (sx ga gd gl life b0 g0) A B c d W h3 h4 (by show (mk ga gd gl).length ≤ _; omega) (by show (mk ga gd gl).length ≤ _; omega)
    rw [show Sec.same (sx ga gd gl life b0 g0) (sx ga gd gl life b0 g0) = true by simp [Sec.same]] at this
    exact this
  have HSec := Lib.hid (fun W => rsector_any ga gd gl life b0 g0 W hG)
  obtain ⟨x, hx⟩ : ∃ x, x = sx ga gd gl life b0 g0 := ⟨_, rfl⟩
  have hSame := hSame x hx
  rw [← hx] at hDe
  obtain ⟨bb, hbb⟩ : ∃ b, b = sB [] ga gd gl life b0 g0 := ⟨_, rfl⟩
  rw [← hbb] at hK hDe
  obtain ⟨z, hz⟩ : ∃ z, z = Disk.zero512 := ⟨_, rfl⟩
  rw [← hz] at hK2 hK3 hRb
  obtain ⟨pl, hpl⟩ : ∃ p, p = splace life := ⟨_, rfl⟩
  have HPl := Lib.hid (fun W => rplace_any life _ (by rfl) W)
  rw [← hpl] at hK hDe HPl
  have HW := Lib.hid hw
  have HK := Lib.hid hK
  have HDe := Lib.hid hDe
  have HRd := Lib.hid hRd'
  have HCl := Lib.hid hCl
  have HK2 := Lib.hid hK2
  have HK3 := Lib.hid hK3
  have HRb := Lib.hid hRb
  have HSame := Lib.hid hSame
  have K1 := Lib.hid k1
  have tK : True := trivial
  have tK2 : True := trivial
  clear hM hRM hSm hw hn hsb hsg v1 v2 v3 q1 l1 hgd rV hst at1 at2 hbest hK hDe hRd hRd' k1 k2 k3 k4 hCl eC hK2 hK3 hRb hSame hx hbb hz hpl eV eL p1
  go_enter Try.func3, Try.ntmps3
  go_wp2_with (first
      | (go_at_call 13; refine (HS.out _).mono ?_; rintro e w2 ⟨rfl, b2⟩)
      | (go_at_call 12; refine (HN.out _).mono ?_; rintro e w3 ⟨g, fp, rfl, hD, hfp, b3⟩; have bs := bt b2 b3; have hfp' := fun j hj => Nat.le_trans b2.size (hfp j hj))
      | (go_at_call 14; refine (symbolic_any _).mono ?_; rintro e w4 ⟨gS, bS, rfl, hS, hgS, hbS, b4⟩; have H4 := Here.start hD hfp' bs hS hgS hbS b4; clear z0 z1 z2 y0 y1 y2; obtain ⟨z0, z1, z2⟩ := gthree (HA.out.below H4.bel hlA); obtain ⟨y0, y1, y2⟩ := gthree (HX.out.below H4.bel hlX))
      | (go_at_call 15; have _t := tW; refine (HW.out _ _ _ _ _ H4.both).mono ?_; rintro e w5 ⟨rfl, T5⟩; obtain ⟨fp5, H5, _, _⟩ := H4.turn T5; clear z0 z1 z2 y0 y1 y2; obtain ⟨z0, z1, z2⟩ := gthree (HA.out.below H5.bel hlA); obtain ⟨y0, y1, y2⟩ := gthree (HX.out.below H5.bel hlX); clear tW))
  have FG5 := HA.out.below H5.bel hlA
  have FX5 := HX.out.below H5.bel hlX
  have cz : Below w5.heap.size w5 w5.drew := (Below.refl _ _).drew
  go_region_held3 (fun w' => (w'.cell? ⟨w.heap.size, 0, none⟩ = some (.int .i64 ga) ∧ w'.cell? ⟨w.heap.size, 1, none⟩ = some (.int .i64 gd) ∧ w'.cell? ⟨w.heap.size, 2, none⟩ = some (.int .i64 gl)) ∧ (w'.cell? ⟨w.heap.size + 1, 0, none⟩ = some (.int .u64 (life.toNat : Int)) ∧ w'.cell? ⟨w.heap.size + 1, 1, none⟩ = some (.int .i64 b0) ∧ w'.cell? ⟨w.heap.size + 1, 2, none⟩ = some (.int .u64 (g0.toNat : Int)))) (first | exact ⟨gthree (FG5.on cz), gthree (FX5.on cz)⟩ | exact ⟨gthree (FG5.on c1), gthree (FX5.on c1)⟩ | exact ⟨gthree (FG5.on c2), gthree (FX5.on c2)⟩ | exact ⟨gthree (FG5.on c3), gthree (FX5.on c3)⟩ | exact ⟨gthree (FG5.on c4), gthree (FX5.on c4)⟩ | exact ⟨gthree (FG5.on c5), gthree (FX5.on c5)⟩) (first
      | (go_at_call 17; refine (HM.out _).mono ?_; rintro e x1 ⟨A1, d1, rfl, o1, t1⟩; have c1 := bt cz t1)
      | (go_at_call 18; refine (HRM.out _).mono ?_; rintro e x2 ⟨A2, d2, rfl, o2, t2⟩; have c2 := bt c1 t2; have rd1 := (Rd.own o1).on t2)
      | (go_at_call 16; refine (HSm.out A1 A2 d1 d2 _ rd1 (Rd.own o2)).mono ?_; rintro e x3 ⟨rfl, t3⟩; have c3 := bt c2 t3)
      | (go_at_call 15; have _t := tD; refine (writeD_nil _ _ _ _ _ _ _ _).mono ?_; rintro e x4 ⟨rfl, t4⟩; have c4 := bt c3 t4; clear tD)
      | (go_at_call 15; refine (writeS_nil _ _ _ _ _ _ _ _).mono ?_; rintro e x5 ⟨rfl, t5⟩; have c5 := bt c4 t5))
  have H6 := H5.on c5
  clear c1 c2 c3 c4 cz t1 t2 t3 t4 t5 rd1 o1 o2
  obtain ⟨z0, z1, z2⟩ := gthree (HA.out.below H6.bel hlA)
  obtain ⟨y0, y1, y2⟩ := gthree (HX.out.below H6.bel hlX)
  go_wp2_with (first
      | (go_at_call 19; refine (HR.out _).mono ?_; rintro e w7 ⟨rfl, b7⟩; rw [hq]; have H7 := H6.on b7; clear z0 z1 z2 y0 y1 y2; obtain ⟨z0, z1, z2⟩ := gthree (HA.out.below H7.bel hlA); obtain ⟨y0, y1, y2⟩ := gthree (HX.out.below H7.bel hlX))
      | (go_at_call 21; refine (HPl.out _).mono ?_; rintro e w8 ⟨rfl, rfl⟩)
      | (go_at_call 23; have _t := tK; refine (HK.out _ _ _ H7.both.disk).mono ?_; rintro e w8 ⟨v, rfl, nk, b8⟩; obtain ⟨A7, c7, rfl, hc7, hm7, rd7⟩ := nk.rdN (fp := []) (by simp); have H8 := H7.on b8; clear tK)
      | (go_at_call 22; refine (HDe.out _ _ _ _ _ H8.both.sym rd7.rd hc7 hm7).mono ?_; rintro e w9 ⟨⟨A8, d8, rfl, own8⟩, b9⟩; unfold Sec.xv; have B9 := Blk.new w9 [.int .i64 x.kind, .int .u64 (x.life.toNat : Int), .int .i64 x.seq, .int .u64 (x.gen.toNat : Int), .slice A8 x.body.length d8] 43; have ba := b1alloc w9 (.cells ([.int .i64 x.kind, .int .u64 (x.life.toNat : Int), .int .i64 x.seq, .int .u64 (x.gen.toNat : Int), .slice A8 x.body.length d8] : List Value).toArray 43); have H9 := H8.on (bt b9 ba); have rd9 := (Rd.own own8).on ba; clear z0 z1 z2 y0 y1 y2; obtain ⟨z0, z1, z2⟩ := gthree (HA.out.below H9.bel hlA); obtain ⟨y0, y1, y2⟩ := gthree (HX.out.below H9.bel hlX))
      | (go_at_call 24; refine (HRd.out _ _ _ _ _ H9.both).mono ?_; rintro e w10 ⟨rfl, b10⟩; have bb10 := bt b10 (b1alloc w10 (.cells #[.int .u64 (life.toNat : Int), .int .i64 b0, .int .u64 (g0.toNat : Int)] 35)); have H10 := H9.on bb10; have B10 := B9.on bb10; have rd10 := rd9.on bb10; have V10 := Blk.new w10 [.int .u64 (life.toNat : Int), .int .i64 b0, .int .u64 (g0.toNat : Int)] 35; clear z0 z1 z2 y0 y1 y2; obtain ⟨z0, z1, z2⟩ := gthree (HA.out.below H10.bel hlA); obtain ⟨y0, y1, y2⟩ := gthree (HX.out.below H10.bel hlX))
      | (go_at_call 25; refine (HSec.out _).mono ?_; rintro e w11 ⟨A10, d10, rfl, rw11, b11⟩; have ba11 := b1alloc w11 (.cells ([.int .i64 2, .int .u64 (life.toNat : Int), .int .i64 b0, .int .u64 (g0.toNat : Int), .slice A10 (mk ga gd gl).length d10] : List Value).toArray 49); have bb11 := bt b11 ba11; have H11 := H10.on bb11; have B11 := B10.on bb11; have rd11 := rd10.on bb11; have V11 := V10.on bb11; have W11 := Blk.new w11 [.int .i64 2, .int .u64 (life.toNat : Int), .int .i64 b0, .int .u64 (g0.toNat : Int), .slice A10 (mk ga gd gl).length d10] 49; have rw12 := rw11.on ba11; clear z0 z1 z2 y0 y1 y2; obtain ⟨z0, z1, z2⟩ := gthree (HA.out.below H11.bel hlA); obtain ⟨y0, y1, y2⟩ := gthree (HX.out.below H11.bel hlX); obtain ⟨i0, i1, i2, i3, i4⟩ := five5x B11; obtain ⟨j0, j1, j2, j3, j4⟩ := five5x W11; obtain ⟨k0, k1, k2⟩ := gthree V11)
      | (go_at_call 26; refine (HSame.out A8 A10 d8 d10 _ rd11 rw12).mono ?_; rintro e w13 ⟨rfl, b13⟩; have H13 := H11.on b13; clear i0 i1 i2 i3 i4 j0 j1 j2 j3 j4 k0 k1 k2; clear z0 z1 z2 y0 y1 y2; obtain ⟨z0, z1, z2⟩ := gthree (HA.out.below H13.bel hlA); obtain ⟨y0, y1, y2⟩ := gthree (HX.out.below H13.bel hlX); obtain ⟨k0, k1, k2⟩ := gthree (V11.on b13))
      | (go_at_call 27; refine (HCl.out _ _ _ H13.both.disk).mono ?_; rintro e w14 d14; obtain ⟨rfl, fp14, H14, _, _⟩ := H13.did d14; rw [K1.out])
      | (go_at_call 23; have _t := tK2; refine (HK2.out _ _ _ H14.both.disk).mono ?_; rintro e w15 ⟨v15, rfl, nk15, b15⟩; obtain ⟨A15, c15, rfl, _, _, rd15⟩ := nk15.rdN (fp := []) (by simp); have H15 := H14.on b15)
      | (go_at_call 28; have _t := tK2; refine (HRb.out _ _ _ rd15.rd).mono ?_; rintro e w16 ⟨rfl, rfl⟩; clear tK2)
      | (go_at_call 23; refine (HK3.out _ _ _ H15.both.disk).mono ?_; rintro e w17 ⟨v17, rfl, nk17, b17⟩; obtain ⟨A17, c17, rfl, _, _, rd17⟩ := nk17.rdN (fp := []) (by simp); have H17 := H15.on b17)
      | (go_at_call 28; refine (HRb.out _ _ _ rd17.rd).mono ?_; rintro e w18 ⟨rfl, rfl⟩)
      | (go_at_call 20; refine (alive_any _).mono ?_; rintro e w19 ⟨rfl, b19⟩))
  go_ret
  exact ⟨rfl, bt bw (bt H17.bel b19)⟩
set_option maxRecDepth 100000 in
theorem lifted (os : Os) (started : os.Started) (H : Type) (enc : TypeId × Value → H) :
    ReturnsInHanded {} Try.checked os 3 .any (Rows.superWritesSpec.pre6 enc Try.prog Try.f3 Rows.superWritesRow.domain false) (Rows.superWritesSpec.post enc Try.prog Try.f3 false true false false) := by
  refine returnsInHanded_of_change (C := Try.checked) own started (by kernel_rfl) Try.func3
    (ChangeSpec.witness6 (enc := enc) (C := Try.checked) false ⟨#[], #[.agg #[.int .i64 0, .int .i64 0, .int .i64 0], .agg #[.int .u64 0, .int .i64 0, .int .u64 0]], []⟩ 8 (by kernel_rfl) (by kernel_rfl) (by kernel_rfl) (by kernel_rfl)) ?_
  intro W base args ds gs before hval0 hW hcnd _
  have hval : ∀ (j : Nat) t v, Try.f3.params[j]? = some t → args[j]? = some v → Value.okWide Try.prog W .any base t v := hval0
  have hW' := hW
  obtain ⟨p, q, hA0, hV, rfl, hfz, hnd⟩ := hW
  have hA : DataW.TrodAll enc Try.prog W 0 (fun _ => true) true Try.f3.params.toList args.toList ds p := hA0
  rw [Try.params3] at hA hval
  obtain ⟨v0, vs0, d0, ds0, p0, q0, hargs, rfl, rfl, h0, r0⟩ := trodAll_cons hA
  obtain ⟨v1, vs1, d1, ds1, p1, q1, rfl, rfl, rfl, h1, r1⟩ := trodAll_cons r0
  obtain ⟨rfl, rfl, rfl⟩ := trodAll_nil r1
  obtain rfl : args = #[v0, v1] := by cases args; simp_all
  obtain ⟨rfl, rfl⟩ := trodVars_none hV
  have k0 := h0
  have lt0 := places_lt k0
  obtain ⟨c0a, c0b, c0c, y0a, y0b, y0c, m0, rfl, _, _, hy0a, hy0b, hy0c⟩ := open_agg3 Try.underlying23 (by kernel_rfl) (by kernel_rfl) (hval 0 23 v0 rfl rfl) h0
  obtain ⟨n0a, e0a, _, w0a⟩ := DataW.trod_int Try.underlying3 hy0a
  simp only [List.cons.injEq, and_true] at e0a
  subst e0a
  obtain ⟨n0b, e0b, _, w0b⟩ := DataW.trod_int Try.underlying3 hy0b
  simp only [List.cons.injEq, and_true] at e0b
  subst e0b
  obtain ⟨n0c, e0c, _, w0c⟩ := DataW.trod_int Try.underlying3 hy0c
  simp only [List.cons.injEq, and_true] at e0c
  subst e0c
  have k1 := h1
  have lt1 := places_lt k1
  obtain ⟨x1a, x1b, x1c, rfl, rr1⟩ := super_of (hval 1 26 v1 rfl rfl) h1
  clear hA0 hval0
  refine (walk n0a n0b n0c x1a x1b x1c W (wfi w0a).1 (wfi w0a).2 (wfi w0b).1 (wfi w0b).2 (wfi w0c).1 (wfi w0c).2 rr1.1 rr1.2).mono fun e W' ⟨he, bel⟩ => ?_
  subst he
  exact ⟨_, rfl, _, _, _, [], _, [], hW', trodAll_mk1 (shut_bool Try.underlying4 _), (trodAll_cons_mk (Below.trod laidOut (by kernel_rfl) (of_decide_eq_true (by kernel_rfl)) k0 bel lt0) (trodAll_cons_mk (Below.trod laidOut (by kernel_rfl) (of_decide_eq_true (by kernel_rfl)) k1 bel lt1) trodAll_mk0)), rfl, bel.frame _, fun h => by cases h⟩

theorem proved : Rows.SuperWritesSaid :=
  OpenClaim.holds_of_wide 3 Try.f3 rfl rfl rfl rfl rfl rfl rfl ⟨rfl, rfl, rfl, rfl, rfl⟩ rfl rfl rfl rfl rfl (by kernel_rfl) Try.func3 (by kernel_rfl)
    (of_decide_eq_true (by kernel_rfl)) (by unfold Func.isWrapper; first | (rw [if_pos (by decide +kernel)]; kernel_rfl) | (rw [if_neg (by decide +kernel)]; exact ⟨rfl, rfl⟩))
    (fun os started H enc _ => lifted os started H enc)
#print axioms proved
end Go.Proofs.Ytmpmibcdpkolkaa.SuperWrites
