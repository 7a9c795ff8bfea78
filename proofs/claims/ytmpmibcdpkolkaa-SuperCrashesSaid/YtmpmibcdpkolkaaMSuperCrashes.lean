/- SuperCrashes: for every input the law returns true: whatever the power does while one of the next life is written, the one ahead of it is read, or it. No condition. -/
import Derived.Test.YtmpmibcdpkolkaaSuperCrashesE
namespace Go.Proofs.Ytmpmibcdpkolkaa.SuperCrashes
open Go.ChangeShapes Go.WideShapes Go.ChangeAt Go.RowKit Go.Joins
open Go.ChangeMaps (open_string shut_string)
open Go.Proofs.Ytmpmibcdpkolkaa.Sup
open Go.Proofs.Ytmpmibcdpkolkaa.Geom (lo hi)
open Go.Proofs.Ytmpmibcdpkolkaa.Sec (symbolic_any RetX five5x)
set_option linter.unusedVariables false
set_option maxRecDepth 100000
set_option maxHeartbeats 4000000 in
theorem walk (ga gd gl : Int) (life : UInt64) (b0 : Int) (g0 : UInt64) (base : Int) (gen : UInt64) (fuse a : Int) (w : World) (ha0 : -9223372036854775808 ≤ ga) (ha1 : ga ≤ 9223372036854775807) (hd0 : -9223372036854775808 ≤ gd) (hd1 : gd ≤ 9223372036854775807) (hg0 : -9223372036854775808 ≤ gl) (hg1 : gl ≤ 9223372036854775807)
    (hb0 : -9223372036854775808 ≤ b0) (hb1 : b0 ≤ 9223372036854775807) (hc0 : -9223372036854775808 ≤ base) (hc1 : base ≤ 9223372036854775807) (hf0 : -9223372036854775808 ≤ fuse) (hf1 : fuse ≤ 9223372036854775807) (ht0 : -9223372036854775808 ≤ a) (ht1 : a ≤ 9223372036854775807) :
    Calls Try.prog 8 #[gv ga gd gl, sv life b0 g0, .int .i64 base, .int .u64 (gen.toNat : Int), .int .i64 fuse, .int .i64 a] w fun e w' => e = .returned (.bool true) ∧ Below w.heap.size w w' := by
  have hG : Gb ga gd gl := ⟨ha0, ha1, hd0, hd1, hg0, hg1⟩
  have FG : Blk ((w.alloc (.cells (gcell ga gd gl).toArray 23)).alloc (.cells (scell life b0 g0).toArray 26)) w.heap.size (gcell ga gd gl) := (Blk.new w (gcell ga gd gl) 23).alloc _
  have FX : Blk ((w.alloc (.cells (gcell ga gd gl).toArray 23)).alloc (.cells (scell life b0 g0).toArray 26)) (w.heap.size + 1) (scell life b0 g0) := by simpa using Blk.new (w.alloc (.cells (gcell ga gd gl).toArray 23)) (scell life b0 g0) 26
  have bw := b2alloc w (.cells (gcell ga gd gl).toArray 23) (.cells (scell life b0 g0).toArray 26)
  obtain ⟨z0, z1, z2⟩ := gthree FG
  obtain ⟨y0, y1, y2⟩ := gthree FX
  have HA := Lib.hid FG
  have HX := Lib.hid FX
  have HR := Lib.hid (fun W => Geom.rright_any ga gd gl W hG.a0 hG.a1 hG.d0 hG.d1 hG.g0 hG.g1)
  have HS := Lib.hid (fun W => Geom.rsize_any ga gd gl W hG.a0 hG.a1 hG.d0 hG.d1 hG.g0 hG.g1)
  clear FG FX
  by_cases hq : Geom.right ga gd gl = true
  rotate_left
  · have hq : Geom.right ga gd gl = false := by simpa using hq
    go_enter Try.func8, Try.ntmps8
    go_wp2_with (first
      | (go_at_call 19; refine (HR.out _).mono ?_; rintro e w1 ⟨rfl, b1⟩; rw [hq]; clear z0 z1 z2 y0 y1 y2; obtain ⟨z0, z1, z2⟩ := gthree (HA.out.on b1); obtain ⟨y0, y1, y2⟩ := gthree (HX.out.on b1))
      | (go_at_call 20; refine (alive_any _).mono ?_; rintro e w2 ⟨rfl, b2⟩))
    go_ret
    exact ⟨rfl, bt bw (bt b1 b2)⟩
  by_cases h0 : b0 < 0
  · go_enter Try.func8, Try.ntmps8
    go_wp2_with (first
      | (go_at_call 19; refine (HR.out _).mono ?_; rintro e w1 ⟨rfl, b1⟩; rw [hq]; clear z0 z1 z2 y0 y1 y2; obtain ⟨z0, z1, z2⟩ := gthree (HA.out.on b1); obtain ⟨y0, y1, y2⟩ := gthree (HX.out.on b1))
      | (go_at_call 20; refine (alive_any _).mono ?_; rintro e w2 ⟨rfl, b2⟩))
    go_ret
    exact ⟨rfl, bt bw (bt b1 b2)⟩
  by_cases h1 : 1073741824 < b0
  · go_enter Try.func8, Try.ntmps8
    go_wp2_with (first
      | (go_at_call 19; refine (HR.out _).mono ?_; rintro e w1 ⟨rfl, b1⟩; rw [hq]; clear z0 z1 z2 y0 y1 y2; obtain ⟨z0, z1, z2⟩ := gthree (HA.out.on b1); obtain ⟨y0, y1, y2⟩ := gthree (HX.out.on b1))
      | (go_at_call 20; refine (alive_any _).mono ?_; rintro e w2 ⟨rfl, b2⟩))
    go_ret
    exact ⟨rfl, bt bw (bt b1 b2)⟩
  by_cases h2 : base < 0
  · go_enter Try.func8, Try.ntmps8
    go_wp2_with (first
      | (go_at_call 19; refine (HR.out _).mono ?_; rintro e w1 ⟨rfl, b1⟩; rw [hq]; clear z0 z1 z2 y0 y1 y2; obtain ⟨z0, z1, z2⟩ := gthree (HA.out.on b1); obtain ⟨y0, y1, y2⟩ := gthree (HX.out.on b1))
      | (go_at_call 20; refine (alive_any _).mono ?_; rintro e w2 ⟨rfl, b2⟩))
    go_ret
    exact ⟨rfl, bt bw (bt b1 b2)⟩
  by_cases h3 : 1073741824 < base
  · go_enter Try.func8, Try.ntmps8
    go_wp2_with (first
      | (go_at_call 19; refine (HR.out _).mono ?_; rintro e w1 ⟨rfl, b1⟩; rw [hq]; clear z0 z1 z2 y0 y1 y2; obtain ⟨z0, z1, z2⟩ := gthree (HA.out.on b1); obtain ⟨y0, y1, y2⟩ := gthree (HX.out.on b1))
      | (go_at_call 20; refine (alive_any _).mono ?_; rintro e w2 ⟨rfl, b2⟩))
    go_ret
    exact ⟨rfl, bt bw (bt b1 b2)⟩
  by_cases h4 : (life.toNat : Int) = 18446744073709551615
  · have t4 := beq_yes h4
    clear h4
    go_enter Try.func8, Try.ntmps8
    go_wp2_with (first
      | (go_at_call 19; refine (HR.out _).mono ?_; rintro e w1 ⟨rfl, b1⟩; rw [hq]; clear z0 z1 z2 y0 y1 y2; obtain ⟨z0, z1, z2⟩ := gthree (HA.out.on b1); obtain ⟨y0, y1, y2⟩ := gthree (HX.out.on b1))
      | (go_at_call 20; refine (alive_any _).mono ?_; rintro e w2 ⟨rfl, b2⟩))
    go_ret
    exact ⟨rfl, bt bw (bt b1 b2)⟩
  have t4 := beq_no h4
  have hsb := Geom.size_bd ga gd gl
  have hsg := size_ge hq
  obtain ⟨n, hn⟩ : ∃ n : Nat, (n : Int) = Geom.sizeOf ga gd gl := ⟨(Geom.sizeOf ga gd gl).toNat, by omega⟩
  have hn7 : 7 ≤ n ∧ n ≤ 238 := by omega
  rw [← hn] at HS
  have hll := life.toNat_lt
  have hln : ((life + 1).toNat : Nat) = life.toNat + 1 := by
    have h5 : (life + 1).toNat = (life.toNat + 1) % 18446744073709551616 := by simp [UInt64.toNat_add]
    omega
  have hlt : life < life + 1 := by rw [UInt64.lt_iff_toNat_lt]; omega
  have hwr : IntKind.u64.wrap ((life.toNat : Int) + 1) = ((life + 1).toNat : Int) := by rw [hln]; exact IntWalk.u64_in _ (by omega)
  have hne : ((life.toNat : Int) == ((life + 1).toNat : Int)) = false := beq_no (by omega)
  have htm : -9223372036854775808 ≤ a.tmod 3 ∧ a.tmod 3 ≤ 9223372036854775807 := by
    have h5 := Int.tmod_lt_of_pos a (show (0 : Int) < 3 by omega)
    have h6 : -3 < a.tmod 3 := by
      rcases Int.le_total 0 a with h | h
      · have := Int.tmod_nonneg 3 h; omega
      · have h7 : (-a).tmod 3 = -(a.tmod 3) := Int.neg_tmod ..
        have := Int.tmod_lt_of_pos (-a) (show (0 : Int) < 3 by omega)
        omega
    omega
  obtain ⟨V1, e1⟩ : ∃ V, V = wf (Disk.new n) (splace life) (sB [] ga gd gl life b0 g0) := ⟨_, rfl⟩
  obtain ⟨L1, eL1⟩ : ∃ V, V = sL [] ga gd gl life b0 g0 := ⟨_, rfl⟩
  obtain ⟨sA, eA⟩ : ∃ V, V = Disk.arm V1.1 fuse := ⟨_, rfl⟩
  obtain ⟨V2, e2⟩ : ∃ V, V = wf sA (splace (life + 1)) (sB L1 ga gd gl (life + 1) base gen) := ⟨_, rfl⟩
  obtain ⟨L2, eL2⟩ : ∃ V, V = sL L1 ga gd gl (life + 1) base gen := ⟨_, rfl⟩
  obtain ⟨s3, e3⟩ : ∃ V, V = Disk.restart V2.1 [a] (a.tmod 3) a := ⟨_, rfl⟩
  obtain ⟨c1, c2, c3, c4, c5⟩ := crash (n := n) (by omega) (by omega) (by omega) (by omega) (by omega) hlt fuse [a] (a.tmod 3) a e1 eL1 eA e2 eL2 e3
  have q1 := wf_sz (Disk.new n) (splace life) (sB [] ga gd gl life b0 g0)
  have q2 := wf_sz sA (splace (life + 1)) (sB L1 ga gd gl (life + 1) base gen)
  have q3 := Disk.sz_restart V2.1 [a] (a.tmod 3) a
  have l1 := sL_len [] ga gd gl life b0 g0
  have l2 := sL_len L1 ga gd gl (life + 1) base gen
  have q0 : (Disk.new n).sz = 0 := rfl
  have qA : sA.sz = V1.1.sz := by rw [eA]; rfl
  rw [← e1] at q1
  rw [← e2] at q2
  rw [← e3] at q3
  rw [← eL1] at l1
  rw [← eL2] at l2
  simp only [List.length_nil] at l1
  have r0 : srightF (Disk.new n) ga gd gl = 0 := srightF_new hq rfl hn
  have rA : srightF sA ga gd gl = 0 := srightF_new hq c4 hn
  have r3 : srightF s3 ga gd gl = 0 := srightF_new hq c3.size hn
  have hW1 := fun g fp gS bS W h => write_any g fp (Disk.new n) gS bS [] ga gd gl life b0 g0 W hG h (by simp) (by omega) r0 (by omega) (by omega)
  rw [← e1, ← eL1, c1] at hW1
  have hAr := fun g fp W h => Disk.arm_any g fp V1.1 fuse W h hf0 hf1
  rw [← eA] at hAr
  have hW2 := fun g fp gS bS W h => write_any g fp sA gS bS L1 ga gd gl (life + 1) base gen W hG h (by omega) (by omega) rA (by omega) (by omega)
  rw [← e2, ← eL2] at hW2
  have hRe := fun g fp K W hD hr => Disk.restart_any g fp V2.1 [a] K 1 1 (a.tmod 3) a W hD (by omega) rfl hr (by simp) htm.1 htm.2 ht0 ht1
  rw [← e3] at hRe
  have hRd := fun g fp gS bS W h => readSup_any g fp s3 gS bS L2 ga gd gl W hG h (by omega) (by omega) r3 c3.down
  obtain ⟨O, hO⟩ : ∃ O, O = best (best none (atR L2 s3 ga gd gl 2)) (atR L2 s3 ga gd gl 3) := ⟨_, rfl⟩
  rw [← hO] at hRd c5
  obtain ⟨n1, en1⟩ : ∃ n1, n1 = life + 1 := ⟨_, rfl⟩
  rw [← en1] at hwr hne hW2 c5
  have HW1 := Lib.hid hW1
  have HAr := Lib.hid hAr
  have HW2 := Lib.hid hW2
  have HRe := Lib.hid hRe
  have hlA : w.heap.size < ((w.alloc (.cells (gcell ga gd gl).toArray 23)).alloc (.cells (scell life b0 g0).toArray 26)).heap.size := HA.out.lt
  have hlX : w.heap.size + 1 < ((w.alloc (.cells (gcell ga gd gl).toArray 23)).alloc (.cells (scell life b0 g0).toArray 26)).heap.size := HX.out.lt
  have HN := Lib.hid (fun W => newN_any n (n : Int) rfl (by omega) (by omega) W)
  have tW : True := trivial
  clear hn hsb hsg hW1 hAr hW2 hRe e1 eL1 eA e2 eL2 e3 c1 c2 c3 c4 hO en1 hln hlt hll r0 rA r3
  rcases c5 with ho | ⟨hv, ho⟩
  · rw [ho] at hRd
    have hRd' : ∀ g fp gS bS W, Both W g fp s3 gS bS L2 → Calls Try.prog 24 #[.pointer (some ⟨g, 0, none⟩), .pointer (some ⟨gS, 0, none⟩), gv ga gd gl] W fun e w' => e = .returned (.tuple #[.agg #[.int .u64 (n1.toNat : Int), .int .i64 base, .int .u64 (gen.toNat : Int)], .int .i64 0]) ∧ Below W.heap.size W w' := hRd
    have HRd := Lib.hid hRd'
    clear hRd hRd' ho
    go_enter Try.func8, Try.ntmps8
    go_wp2_with (first
      | (go_at_call 19; refine (HR.out _).mono ?_; rintro e w1 ⟨rfl, b1⟩; rw [hq]; clear z0 z1 z2 y0 y1 y2; obtain ⟨z0, z1, z2⟩ := gthree (HA.out.on b1); obtain ⟨y0, y1, y2⟩ := gthree (HX.out.on b1))
      | (go_at_call 13; refine (HS.out _).mono ?_; rintro e w2 ⟨rfl, b2⟩)
      | (go_at_call 12; refine (HN.out _).mono ?_; rintro e w3 ⟨g, fp, rfl, hD, hfp, b3⟩; have bs := bt (bt b1 b2) b3; have hfp' := fun j hj => Nat.le_trans (bt b1 b2).size (hfp j hj))
      | (go_at_call 14; refine (symbolic_any _).mono ?_; rintro e w4 ⟨gS, bS, rfl, hS, hgS, hbS, b4⟩; have H4 := Here.start hD hfp' bs hS hgS hbS b4; clear z0 z1 z2 y0 y1 y2; obtain ⟨z0, z1, z2⟩ := gthree (HA.out.below H4.bel hlA); obtain ⟨y0, y1, y2⟩ := gthree (HX.out.below H4.bel hlX))
      | (go_at_call 15; have _t := tW; refine (HW1.out _ _ _ _ _ H4.both).mono ?_; rintro e w5 ⟨rfl, T5⟩; obtain ⟨fp5, H5, _, _⟩ := H4.turn T5; have H6 := H5.on (b1alloc w5 (.cells (scell n1 base gen).toArray 35)); clear z0 z1 z2 y0 y1 y2; obtain ⟨z0, z1, z2⟩ := gthree (HA.out.below H6.bel hlA); obtain ⟨y0, y1, y2⟩ := gthree (HX.out.below H6.bel hlX); obtain ⟨x0, x1, x2⟩ := gthree (HX.out.below H5.bel hlX); have BN6 := Blk.new w5 (scell n1 base gen) 35; have nN : w5.heap.size ∉ bS :: fp5 := (fun e => by rcases List.mem_cons.1 e with e | e; (have := H5.both.sym.lt.2; omega); (have := H5.both.disk.lt _ e; omega)); clear tW)
      | (go_at_call 40; refine (HAr.out _ _ _ H6.both.disk).mono ?_; rintro e w7 ⟨rfl, hD7, k7⟩; have H7 := H6.armed hD7 k7; have BN7 := BN6.keepK k7 (fun e => nN (by rw [List.mem_singleton] at e; rw [e]; exact List.mem_cons_of_mem _ H6.both.disk.inG)); clear x0 x1 x2; clear z0 z1 z2 y0 y1 y2; obtain ⟨z0, z1, z2⟩ := gthree (HA.out.below H7.bel hlA); obtain ⟨y0, y1, y2⟩ := gthree (HX.out.below H7.bel hlX); obtain ⟨x0, x1, x2⟩ := gthree BN7)
      | (go_at_call 15; refine (HW2.out _ _ _ _ _ H7.both).mono ?_; rintro e w8 ⟨rfl, T8⟩; obtain ⟨fp8, H8, k8, f8⟩ := H7.turn T8; have BN8 := BN7.keepK k8 nN; have nN8 : w5.heap.size ∉ fp8 := f8.out BN7.lt (fun e => nN (List.mem_cons_of_mem _ e)))
      | (go_at_call 41; refine (HRe.out g fp8 _ _ (H8.on (b1alloc _ _)).both.disk (RdN.lit1 w8 fp8 H8.both.disk.lt (.int .i64 a) _)).mono ?_; rintro e w9 ⟨rfl, fp9, hD9, k9, f9⟩; have H9 := (H8.on (b1alloc w8 (.cells #[.int .i64 a] 3))).moved hD9 k9 f9; have BN9 := (BN8.on (b1alloc w8 (.cells #[.int .i64 a] 3))).keepK k9 nN8; clear x0 x1 x2; clear z0 z1 z2 y0 y1 y2; obtain ⟨z0, z1, z2⟩ := gthree (HA.out.below H9.bel hlA); obtain ⟨y0, y1, y2⟩ := gthree (HX.out.below H9.bel hlX))
      | (go_at_call 24; refine (HRd.out _ _ _ _ _ H9.both).mono ?_; rintro e w10 ⟨rfl, b10⟩; have b11 := bt b10 (b1alloc w10 (.cells #[.int .u64 (n1.toNat : Int), .int .i64 base, .int .u64 (gen.toNat : Int)] 35)); have H11 := H9.on b11; clear z0 z1 z2 y0 y1 y2; obtain ⟨z0, z1, z2⟩ := gthree (HA.out.below H11.bel hlA); obtain ⟨y0, y1, y2⟩ := gthree (HX.out.below H11.bel hlX); obtain ⟨x0, x1, x2⟩ := gthree (BN9.on b11))
      | (go_at_call 20; refine (alive_any _).mono ?_; rintro e w12 ⟨rfl, b12⟩))
    go_ret
    exact ⟨rfl, bt bw (bt H11.bel b12)⟩
  · rw [ho] at hRd
    have hRd' : ∀ g fp gS bS W, Both W g fp s3 gS bS L2 → Calls Try.prog 24 #[.pointer (some ⟨g, 0, none⟩), .pointer (some ⟨gS, 0, none⟩), gv ga gd gl] W fun e w' => e = .returned (.tuple #[.agg #[.int .u64 (life.toNat : Int), .int .i64 b0, .int .u64 (g0.toNat : Int)], .int .i64 0]) ∧ Below W.heap.size W w' := hRd
    have HRd := Lib.hid hRd'
    have tv := bne_yes hv
    clear hRd hRd' ho
    go_enter Try.func8, Try.ntmps8
    go_wp2_with (first
      | (go_at_call 19; refine (HR.out _).mono ?_; rintro e w1 ⟨rfl, b1⟩; rw [hq]; clear z0 z1 z2 y0 y1 y2; obtain ⟨z0, z1, z2⟩ := gthree (HA.out.on b1); obtain ⟨y0, y1, y2⟩ := gthree (HX.out.on b1))
      | (go_at_call 13; refine (HS.out _).mono ?_; rintro e w2 ⟨rfl, b2⟩)
      | (go_at_call 12; refine (HN.out _).mono ?_; rintro e w3 ⟨g, fp, rfl, hD, hfp, b3⟩; have bs := bt (bt b1 b2) b3; have hfp' := fun j hj => Nat.le_trans (bt b1 b2).size (hfp j hj))
      | (go_at_call 14; refine (symbolic_any _).mono ?_; rintro e w4 ⟨gS, bS, rfl, hS, hgS, hbS, b4⟩; have H4 := Here.start hD hfp' bs hS hgS hbS b4; clear z0 z1 z2 y0 y1 y2; obtain ⟨z0, z1, z2⟩ := gthree (HA.out.below H4.bel hlA); obtain ⟨y0, y1, y2⟩ := gthree (HX.out.below H4.bel hlX))
      | (go_at_call 15; have _t := tW; refine (HW1.out _ _ _ _ _ H4.both).mono ?_; rintro e w5 ⟨rfl, T5⟩; obtain ⟨fp5, H5, _, _⟩ := H4.turn T5; have H6 := H5.on (b1alloc w5 (.cells (scell n1 base gen).toArray 35)); clear z0 z1 z2 y0 y1 y2; obtain ⟨z0, z1, z2⟩ := gthree (HA.out.below H6.bel hlA); obtain ⟨y0, y1, y2⟩ := gthree (HX.out.below H6.bel hlX); obtain ⟨x0, x1, x2⟩ := gthree (HX.out.below H5.bel hlX); have BN6 := Blk.new w5 (scell n1 base gen) 35; have nN : w5.heap.size ∉ bS :: fp5 := (fun e => by rcases List.mem_cons.1 e with e | e; (have := H5.both.sym.lt.2; omega); (have := H5.both.disk.lt _ e; omega)); clear tW)
      | (go_at_call 40; refine (HAr.out _ _ _ H6.both.disk).mono ?_; rintro e w7 ⟨rfl, hD7, k7⟩; have H7 := H6.armed hD7 k7; have BN7 := BN6.keepK k7 (fun e => nN (by rw [List.mem_singleton] at e; rw [e]; exact List.mem_cons_of_mem _ H6.both.disk.inG)); clear x0 x1 x2; clear z0 z1 z2 y0 y1 y2; obtain ⟨z0, z1, z2⟩ := gthree (HA.out.below H7.bel hlA); obtain ⟨y0, y1, y2⟩ := gthree (HX.out.below H7.bel hlX); obtain ⟨x0, x1, x2⟩ := gthree BN7)
      | (go_at_call 15; refine (HW2.out _ _ _ _ _ H7.both).mono ?_; rintro e w8 ⟨rfl, T8⟩; obtain ⟨fp8, H8, k8, f8⟩ := H7.turn T8; have BN8 := BN7.keepK k8 nN; have nN8 : w5.heap.size ∉ fp8 := f8.out BN7.lt (fun e => nN (List.mem_cons_of_mem _ e)))
      | (go_at_call 41; refine (HRe.out g fp8 _ _ (H8.on (b1alloc _ _)).both.disk (RdN.lit1 w8 fp8 H8.both.disk.lt (.int .i64 a) _)).mono ?_; rintro e w9 ⟨rfl, fp9, hD9, k9, f9⟩; have H9 := (H8.on (b1alloc w8 (.cells #[.int .i64 a] 3))).moved hD9 k9 f9; have BN9 := (BN8.on (b1alloc w8 (.cells #[.int .i64 a] 3))).keepK k9 nN8; clear x0 x1 x2; clear z0 z1 z2 y0 y1 y2; obtain ⟨z0, z1, z2⟩ := gthree (HA.out.below H9.bel hlA); obtain ⟨y0, y1, y2⟩ := gthree (HX.out.below H9.bel hlX))
      | (go_at_call 24; refine (HRd.out _ _ _ _ _ H9.both).mono ?_; rintro e w10 ⟨rfl, b10⟩; have b11 := bt b10 (b1alloc w10 (.cells #[.int .u64 (life.toNat : Int), .int .i64 b0, .int .u64 (g0.toNat : Int)] 35)); have H11 := H9.on b11; clear z0 z1 z2 y0 y1 y2; obtain ⟨z0, z1, z2⟩ := gthree (HA.out.below H11.bel hlA); obtain ⟨y0, y1, y2⟩ := gthree (HX.out.below H11.bel hlX); obtain ⟨x0, x1, x2⟩ := gthree (BN9.on b11))
      | (go_at_call 20; refine (alive_any _).mono ?_; rintro e w12 ⟨rfl, b12⟩))
    go_ret
    exact ⟨rfl, bt bw (bt H11.bel b12)⟩
set_option maxRecDepth 100000 in
theorem lifted (os : Os) (started : os.Started) (H : Type) (enc : TypeId × Value → H) :
    ReturnsInHanded {} Try.checked os 8 .any (Rows.superCrashesSpec.pre6 enc Try.prog Try.f8 Rows.superCrashesRow.domain false) (Rows.superCrashesSpec.post enc Try.prog Try.f8 false true false false) := by
  refine returnsInHanded_of_change (C := Try.checked) own started (by kernel_rfl) Try.func8
    (ChangeSpec.witness6 (enc := enc) (C := Try.checked) false ⟨#[], #[.agg #[.int .i64 0, .int .i64 0, .int .i64 0], .agg #[.int .u64 0, .int .i64 0, .int .u64 0], .int .i64 0, .int .u64 0, .int .i64 0, .int .i64 0], []⟩ 8 (by kernel_rfl) (by kernel_rfl) (by kernel_rfl) (by kernel_rfl)) ?_
  intro W base args ds gs before hval0 hW hcnd _
  have hval : ∀ (j : Nat) t v, Try.f8.params[j]? = some t → args[j]? = some v → Value.okWide Try.prog W .any base t v := hval0
  have hW' := hW
  obtain ⟨p, q, hA0, hV, rfl, hfz, hnd⟩ := hW
  have hA : DataW.TrodAll enc Try.prog W 0 (fun _ => true) true Try.f8.params.toList args.toList ds p := hA0
  rw [Try.params8] at hA hval
  obtain ⟨v0, vs0, d0, ds0, p0, q0, hargs, rfl, rfl, h0, r0⟩ := trodAll_cons hA
  obtain ⟨v1, vs1, d1, ds1, p1, q1, rfl, rfl, rfl, h1, r1⟩ := trodAll_cons r0
  obtain ⟨v2, vs2, d2, ds2, p2, q2, rfl, rfl, rfl, h2, r2⟩ := trodAll_cons r1
  obtain ⟨v3, vs3, d3, ds3, p3, q3, rfl, rfl, rfl, h3, r3⟩ := trodAll_cons r2
  obtain ⟨v4, vs4, d4, ds4, p4, q4, rfl, rfl, rfl, h4, r4⟩ := trodAll_cons r3
  obtain ⟨v5, vs5, d5, ds5, p5, q5, rfl, rfl, rfl, h5, r5⟩ := trodAll_cons r4
  obtain ⟨rfl, rfl, rfl⟩ := trodAll_nil r5
  obtain rfl : args = #[v0, v1, v2, v3, v4, v5] := by cases args; simp_all
  obtain ⟨rfl, rfl⟩ := trodVars_none hV
  have k0 := h0
  have lt0 := places_lt k0
  obtain ⟨c0a, c0b, c0c, y0a, y0b, y0c, m0, rfl, _, _, hy0a, hy0b, hy0c⟩ := open_agg3 Try.underlying23 (by kernel_rfl) (by kernel_rfl) (hval 0 23 v0 rfl rfl) h0
  obtain ⟨n0a, e0a, _, w0a⟩ := DataW.trod_int Try.underlying3 hy0a
  simp only [List.cons.injEq, and_true] at e0a
  subst e0a
  obtain ⟨n0b, e0b, _, w0b⟩ := DataW.trod_int Try.underlying3 hy0b
  simp only [List.cons.injEq, and_true] at e0b
  subst e0b
  obtain ⟨n0c, e0c, _, w0c⟩ := DataW.trod_int Try.underlying3 hy0c
  simp only [List.cons.injEq, and_true] at e0c
  subst e0c
  have k1 := h1
  have lt1 := places_lt k1
  obtain ⟨x1a, x1b, x1c, rfl, rr1⟩ := super_of (hval 1 26 v1 rfl rfl) h1
  have k2 := h2
  have lt2 := places_lt k2
  obtain ⟨n2, rfl, _, _, w2⟩ := open_int Try.underlying3 (hval 2 3 v2 rfl rfl) h2
  have k3 := h3
  have lt3 := places_lt k3
  obtain ⟨n3, rfl, _, _, w3⟩ := open_int Try.underlying24 (hval 3 24 v3 rfl rfl) h3
  obtain ⟨x3, rfl⟩ := wf64 w3
  have k4 := h4
  have lt4 := places_lt k4
  obtain ⟨n4, rfl, _, _, w4⟩ := open_int Try.underlying3 (hval 4 3 v4 rfl rfl) h4
  have k5 := h5
  have lt5 := places_lt k5
  obtain ⟨n5, rfl, _, _, w5⟩ := open_int Try.underlying3 (hval 5 3 v5 rfl rfl) h5
  clear hA0 hval0
  refine (walk n0a n0b n0c x1a x1b x1c n2 x3 n4 n5 W (wfi w0a).1 (wfi w0a).2 (wfi w0b).1 (wfi w0b).2 (wfi w0c).1 (wfi w0c).2 rr1.1 rr1.2 (wfi w2).1 (wfi w2).2 (wfi w4).1 (wfi w4).2 (wfi w5).1 (wfi w5).2).mono fun e W' ⟨he, bel⟩ => ?_
  subst he
  exact ⟨_, rfl, _, _, _, [], _, [], hW', trodAll_mk1 (shut_bool Try.underlying4 _), (trodAll_cons_mk (Below.trod laidOut (by kernel_rfl) (of_decide_eq_true (by kernel_rfl)) k0 bel lt0) (trodAll_cons_mk (Below.trod laidOut (by kernel_rfl) (of_decide_eq_true (by kernel_rfl)) k1 bel lt1) (trodAll_cons_mk (Below.trod laidOut (by kernel_rfl) (of_decide_eq_true (by kernel_rfl)) k2 bel lt2) (trodAll_cons_mk (Below.trod laidOut (by kernel_rfl) (of_decide_eq_true (by kernel_rfl)) k3 bel lt3) (trodAll_cons_mk (Below.trod laidOut (by kernel_rfl) (of_decide_eq_true (by kernel_rfl)) k4 bel lt4) (trodAll_cons_mk (Below.trod laidOut (by kernel_rfl) (of_decide_eq_true (by kernel_rfl)) k5 bel lt5) trodAll_mk0)))))), rfl, bel.frame _, fun h => by cases h⟩

theorem proved : Rows.SuperCrashesSaid :=
  OpenClaim.holds_of_wide 8 Try.f8 rfl rfl rfl rfl rfl rfl rfl ⟨rfl, rfl, rfl, rfl, rfl⟩ rfl rfl rfl rfl rfl (by kernel_rfl) Try.func8 (by kernel_rfl)
    (of_decide_eq_true (by kernel_rfl)) (by unfold Func.isWrapper; first | (rw [if_pos (by decide +kernel)]; kernel_rfl) | (rw [if_neg (by decide +kernel)]; exact ⟨rfl, rfl⟩))
    (fun os started H enc _ => lifted os started H enc)
#print axioms proved
end Go.Proofs.Ytmpmibcdpkolkaa.SuperCrashes
