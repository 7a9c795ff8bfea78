/- RootCrashes: for every input the law returns true: whatever the power does while the next gen's root is put, or the one ahead is erased, the one that counts is read. No condition. -/
import Derived.Test.YtkapamolligmkaaRootCrashesD
namespace Go.Proofs.Ytkapamolligmkaa.RootCrashes
open Go.ChangeShapes Go.WideShapes Go.ChangeAt Go.RowKit Go.Joins
open Go.ChangeMaps (open_string shut_string)
open Go.Proofs.Ytkapamolligmkaa.Rt
open Go.Proofs.Ytkapamolligmkaa.Sec (symbolic_any RetX five5x)
set_option linter.unusedVariables false
set_option maxRecDepth 100000
theorem three3 {w : World} {g : Nat} {v0 v1 v2 : Value} (h : Blk w g [v0, v1, v2]) : w.cell? ⟨g, 0, none⟩ = some v0 ∧ w.cell? ⟨g, 1, none⟩ = some v1 ∧ w.cell? ⟨g, 2, none⟩ = some v2 := ⟨h.cell (k := 0) (by simp), h.cell (k := 1) (by simp), h.cell (k := 2) (by simp)⟩
set_option maxHeartbeats 4000000 in
theorem walk (gen : UInt64) (A : Option Addr) (key : List UInt8) (c : Nat) (B : Option Addr) (next : List UInt8) (d : Nat) (fuse : Int) (K : Option Addr) (keep : List Int) (ck : Nat) (t a : Int) (w : World) (hr : Rd w w.heap.size A (key.map e8)) (hc : key.length ≤ c) (hcm : c ≤ maxLen) (hs : Rd w w.heap.size B (next.map e8)) (hd : next.length ≤ d) (hdm : d ≤ maxLen) (hf0 : -9223372036854775808 ≤ fuse) (hf1 : fuse ≤ 9223372036854775807)
    (kr : Rd w w.heap.size K (keep.map (Value.int .i64))) (kc : keep.length ≤ ck) (kcm : ck ≤ maxLen) (ht : -9223372036854775808 ≤ t ∧ t ≤ 9223372036854775807) (ha : -9223372036854775808 ≤ a ∧ a ≤ 9223372036854775807) :
    Calls Try.prog 5 #[.int .u64 (gen.toNat : Int), .slice A key.length c, .slice B next.length d, .int .i64 fuse, .agg #[.slice K keep.length ck, .int .i64 t, .int .i64 a]] w fun e w' => e = .returned (.bool true) ∧ Below w.heap.size w w' := by
  have F0 := Blk.new w [.slice K keep.length ck, .int .i64 t, .int .i64 a] 55
  have b0 := b1alloc w (.cells #[.slice K keep.length ck, .int .i64 t, .int .i64 a] 55)
  have z0 := F0.cell (k := 0) (by simp)
  have z1 := F0.cell (k := 1) (by simp)
  have z2 := F0.cell (k := 2) (by simp)
  simp only [List.getElem_cons_zero, List.getElem_cons_succ] at z0 z1 z2
  by_cases h1 : key.length = 32
  rotate_left
  · have t1 := bne_yes (show (key.length : Int) ≠ 32 by omega)
    go_enter Try.func5, Try.ntmps5
    go_wp2_with (go_at_call 6; refine (alive_any _).mono ?_; rintro e w' ⟨rfl, hw⟩)
    go_ret
    exact ⟨rfl, bt b0 hw⟩
  have t1 := bne_no (show (key.length : Int) = 32 by omega)
  by_cases h2 : next.length = 32
  rotate_left
  · have t2 := bne_yes (show (next.length : Int) ≠ 32 by omega)
    go_enter Try.func5, Try.ntmps5
    go_wp2_with (go_at_call 6; refine (alive_any _).mono ?_; rintro e w' ⟨rfl, hw⟩)
    go_ret
    exact ⟨rfl, bt b0 hw⟩
  have t2 := bne_no (show (next.length : Int) = 32 by omega)
  by_cases h3 : (gen.toNat : Int) = 18446744073709551615
  · have t3 := beq_yes h3
    clear h3
    go_enter Try.func5, Try.ntmps5
    go_wp2_with (go_at_call 6; refine (alive_any _).mono ?_; rintro e w' ⟨rfl, hw⟩)
    go_ret
    exact ⟨rfl, bt b0 hw⟩
  have t3 := beq_no h3
  by_cases h4 : 20 < keep.length
  · go_enter Try.func5, Try.ntmps5
    go_wp2_with (go_at_call 6; refine (alive_any _).mono ?_; rintro e w' ⟨rfl, hw⟩)
    go_ret
    exact ⟨rfl, bt b0 hw⟩
  have hnew : (Disk.new 2).sz = 0 := rfl
  have hn1 : (((gen + 1).toNat : Nat) : Int) = (gen.toNat : Int) + 1 := by
    have := gen.toNat_lt
    have h5 : (gen + 1).toNat = (gen.toNat + 1) % 18446744073709551616 := by simp [UInt64.toNat_add]
    omega
  have hwr : IntKind.u64.wrap ((gen.toNat : Int) + 1) = ((gen + 1).toNat : Int) := by
    rw [hn1]; have := gen.toNat_lt; exact IntWalk.u64_in _ (by omega)
  clear hn1
  obtain ⟨n1, en1⟩ : ∃ n1, n1 = gen + 1 := ⟨_, rfl⟩
  obtain ⟨s1, hs1⟩ : ∃ s1, s1 = (wr (Disk.new 2) gen (bOf [] gen key)).1 := ⟨_, rfl⟩
  obtain ⟨sA, hsA⟩ : ∃ sA, sA = Disk.arm s1 fuse := ⟨_, rfl⟩
  obtain ⟨L1, hL1⟩ : ∃ L1, L1 = lOf [] gen key := ⟨_, rfl⟩
  obtain ⟨L2, hL2⟩ : ∃ L2, L2 = lOf L1 (gen + 1) next := ⟨_, rfl⟩
  obtain ⟨W, hW⟩ : ∃ W, W = wr sA (gen + 1) (bOf L1 (gen + 1) next) := ⟨_, rfl⟩
  obtain ⟨q1, q2, q3⟩ := up_new.wr gen (bOf_len [] gen key)
  have wt' := went h1 h2 fuse keep t a hs1 hsA hL1 hL2 hW
  have y1 := wr_sz (Disk.new 2) gen (bOf [] gen key)
  have y3 := wr_sz sA (gen + 1) (bOf L1 (gen + 1) next)
  have l1 := lOf_len [] gen key
  have l2 := lOf_len L1 (gen + 1) next
  rw [← hs1] at y1
  have y2 : sA.sz = s1.sz := by rw [hsA]; rfl
  rw [← hW] at y3
  rw [← hL1] at l1
  rw [← hL2] at l2
  have hP1 := fun g fp gS bS A c W h hr => put_any g fp (Disk.new 2) gS bS [] gen key A c W h (by simp) (by omega) h1 hr
  rw [q1, ← hs1, ← hL1, ← h1] at hP1
  have hAr := fun g fp W h => Disk.arm_any g fp s1 fuse W h hf0 hf1
  rw [← hsA] at hAr
  have hP2 := fun g fp gS bS A c W h hr => put_any g fp sA gS bS L1 (gen + 1) next A c W h (by simp at l1; omega) (by omega) h2 hr
  rw [← hW, ← hL2, ← h2] at hP2
  have wd := wt'.down
  have wu := wt'.up
  clear wt'
  rw [← en1] at hwr hP2 wd wu
  have hll : L2.length ≤ 1000000 := by simp at l1; omega
  have HP1 := Lib.hid hP1
  have HAr := Lib.hid hAr
  have HP2 := Lib.hid hP2
  have H1 := Lib.hid h1
  have H2' := Lib.hid h2
  have F := Lib.hid F0
  have tP : True := trivial
  have tB : True := trivial
  clear q1 q2 q3 hP1 hAr hP2 hs1 hsA hL1 hL2 hW en1 h1 h2 h3 F0
  by_cases hw : W.2 = 12
  · have tw := beq_yes hw
    obtain ⟨e1, e2⟩ := wd hw
    have y4 := Disk.sz_restart W.1 keep t a
    have hRe := fun g fp K c W' hD hr => Disk.restart_any g fp W.1 keep K keep.length c t a W' hD (by omega) rfl hr (by omega) ht.1 ht.2 ha.1 ha.2
    obtain ⟨s3, hs3⟩ : ∃ s3, s3 = Disk.restart W.1 keep t a := ⟨_, rfl⟩
    rw [← hs3] at y4 e1 e2 hRe
    have hSe := fun g fp gS bS W' h => settle_any g fp s3 gS bS L2 gen W' h hll (by omega)
    have y5 := settle_sz L2 s3 gen
    rw [e1] at hSe
    obtain ⟨s4, hs4⟩ : ∃ s4, s4 = (Rt.settle L2 s3 gen).1 := ⟨_, rfl⟩
    rw [← hs4] at e2 hSe y5
    have hBl := fun g fp W' h => blank_any g fp s4 n1 W' h (by omega)
    rw [e2] at hBl
    have hKK := fun A B c d W' h3 h4 => R1.same_any A B key key key.length key.length c d W' rfl rfl h3 h4 (by rw [H1.out]; omega) (by rw [H1.out]; omega)
    rw [R1.sameB_self] at hKK
    have HRe := Lib.hid hRe
    have HSe := Lib.hid hSe
    have HBl := Lib.hid hBl
    have HKK := Lib.hid hKK
    clear hRe hSe hBl hKK hs3 hs4 e1 e2 wd wu
    go_enter Try.func5, Try.ntmps5
    go_wp2_with (first
      | (go_at_call 7; refine (new2_any _).mono ?_; rintro e w1 ⟨g, fp, rfl, hD, hfp, b1⟩)
      | (go_at_call 8; refine (symbolic_any _).mono ?_; rintro e w2 ⟨gS, bS, rfl, hS, hgS, hbS, b2⟩; have H2 := Here.start hD hfp b1 hS hgS hbS b2)
      | (go_at_call 9; have _t := tP; refine (HP1.out _ _ _ _ A c _ H2.both (H2.rd (hr.on b0))).mono ?_; rintro e w3 ⟨rfl, T3⟩; obtain ⟨fp3, H3, _, _⟩ := H2.turn T3; clear tP)
      | (go_at_call 23; refine (HAr.out _ _ _ H3.both.disk).mono ?_; rintro e w4 ⟨rfl, hD4, k4⟩; have H4 := H3.armed hD4 k4)
      | (go_at_call 9; refine (HP2.out _ _ _ _ B d _ H4.both (H4.rd (hs.on b0))).mono ?_; rintro e w5 ⟨rfl, T5⟩; obtain ⟨fp5, H5, _, _⟩ := H4.turn T5; have hf5 := F.out.below H5.bel (by simp); obtain ⟨u0, u1, u2⟩ := three3 hf5)
      | (go_at_call 24; refine (HRe.out _ _ K ck _ H5.both.disk (H5.rdD (kr.on b0))).mono ?_; rintro e w6 ⟨rfl, fp6, hD6, k6, f6⟩; have H6 := H5.moved hD6 k6 f6)
      | (go_at_call 22; refine (HSe.out _ _ _ _ _ H6.both).mono ?_; rintro e w7 ⟨⟨A7, c7, rfl, hc7, hm7, rd7⟩, T7⟩; obtain ⟨fp7, H7, _, _⟩ := H6.turn T7)
      | (go_at_call 12; refine (HBl.out _ _ _ H7.both.disk).mono ?_; rintro e w8 ⟨rfl, b8⟩; have H8 := H7.on b8; have rd8 := (rd7 [] (by simp)).on b8)
      | (go_at_call 17; refine (HKK.out _ A _ c _ rd8.rd (H8.rd (hr.on b0))).mono ?_; rintro e w9 ⟨rfl, b9⟩; have H9 := H8.on b9)
      | (go_at_call 6; refine (alive_any _).mono ?_; rintro e w10 ⟨rfl, b10⟩; have H10 := H9.on b10))
    go_ret
    exact ⟨rfl, bt b0 H10.bel⟩
  · have tw := beq_no hw
    obtain ⟨e0, hor, e1, e2⟩ := wu hw
    have y4 := wr_sz W.1 gen Disk.zero512
    have hEr := fun g fp W' h => erase_any g fp W.1 gen W' h (by omega)
    obtain ⟨E, hE⟩ : ∃ E, E = wr W.1 gen Disk.zero512 := ⟨_, rfl⟩
    rw [← hE] at hor e1 e2 y4 hEr
    have y5 := Disk.sz_restart E.1 keep t a
    have hRe := fun g fp K c W' hD hr => Disk.restart_any g fp E.1 keep K keep.length c t a W' hD (by omega) rfl hr (by omega) ht.1 ht.2 ha.1 ha.2
    obtain ⟨s3, hs3⟩ : ∃ s3, s3 = Disk.restart E.1 keep t a := ⟨_, rfl⟩
    rw [← hs3] at y5 hRe
    rw [← hs3] at e1 e2
    have hSe := fun g fp gS bS W' h => settle_any g fp s3 gS bS L2 n1 W' h hll (by omega)
    have y6 := settle_sz L2 s3 n1
    rw [e1] at hSe
    obtain ⟨s4, hs4⟩ : ∃ s4, s4 = (Rt.settle L2 s3 n1).1 := ⟨_, rfl⟩
    rw [← hs4] at e2 hSe y6
    have hBl := fun g fp W' h => blank_any g fp s4 gen W' h (by omega)
    rw [e2] at hBl
    have hKK := fun A B c d W' h3 h4 => R1.same_any A B next next next.length next.length c d W' rfl rfl h3 h4 (by rw [H2'.out]; omega) (by rw [H2'.out]; omega)
    rw [R1.sameB_self] at hKK
    have HEr := Lib.hid hEr
    have HRe := Lib.hid hRe
    have HSe := Lib.hid hSe
    have HBl := Lib.hid hBl
    have HKK := Lib.hid hKK
    have E0 := Lib.hid e0
    clear hEr hRe hSe hBl hKK hs3 hs4 e1 e2 wd wu hE
    have hg1 : ∀ h : E.2 = 0 ∨ E.2 = 12, True := fun _ => trivial
    clear hg1
    rcases hor with ho | ho
    · have tE := beq_yes ho
      have Ho := Lib.hid ho
      clear ho
      go_enter Try.func5, Try.ntmps5
      go_wp2_with (first
        | (go_at_call 7; refine (new2_any _).mono ?_; rintro e w1 ⟨g, fp, rfl, hD, hfp, b1⟩)
        | (go_at_call 8; refine (symbolic_any _).mono ?_; rintro e w2 ⟨gS, bS, rfl, hS, hgS, hbS, b2⟩; have H2 := Here.start hD hfp b1 hS hgS hbS b2)
        | (go_at_call 9; have _t := tP; refine (HP1.out _ _ _ _ A c _ H2.both (H2.rd (hr.on b0))).mono ?_; rintro e w3 ⟨rfl, T3⟩; obtain ⟨fp3, H3, _, _⟩ := H2.turn T3; clear tP)
        | (go_at_call 23; refine (HAr.out _ _ _ H3.both.disk).mono ?_; rintro e w4 ⟨rfl, hD4, k4⟩; have H4 := H3.armed hD4 k4)
        | (go_at_call 9; refine (HP2.out _ _ _ _ B d _ H4.both (H4.rd (hs.on b0))).mono ?_; rintro e w5 ⟨rfl, T5⟩; obtain ⟨fp5, H5, _, _⟩ := H4.turn T5; have hf5 := F.out.below H5.bel (by simp); obtain ⟨u0, u1, u2⟩ := three3 hf5)
        | (go_at_call 11; refine (HEr.out _ _ _ H5.both.disk).mono ?_; rintro e w6 d6; obtain ⟨rfl, fp6, H6, _, _⟩ := H5.did d6; have hf6 := F.out.below H6.bel (by simp); obtain ⟨v0, v1, v2⟩ := three3 hf6; clear u0 u1 u2)
        | (go_at_call 24; refine (HRe.out _ _ K ck _ H6.both.disk (H6.rdD (kr.on b0))).mono ?_; rintro e w7 ⟨rfl, fp7, hD7, k7, f7⟩; have H7 := H6.moved hD7 k7 f7)
        | (go_at_call 22; refine (HSe.out _ _ _ _ _ H7.both).mono ?_; rintro e w8 ⟨⟨A8, c8, rfl, hc8, hm8, rd8⟩, T8⟩; obtain ⟨fp8, H8, _, _⟩ := H7.turn T8)
        | (go_at_call 12; refine (HBl.out _ _ _ H8.both.disk).mono ?_; rintro e w9 ⟨rfl, b9⟩; have H9 := H8.on b9; have rd9 := (rd8 [] (by simp)).on b9)
        | (go_at_call 17; refine (HKK.out _ B _ d _ rd9.rd (H9.rd (hs.on b0))).mono ?_; rintro e w10 ⟨rfl, b10⟩; have H10 := H9.on b10)
        | (go_at_call 6; refine (alive_any _).mono ?_; rintro e w11 ⟨rfl, b11⟩; have H11 := H10.on b11))
      go_ret
      exact ⟨rfl, bt b0 H11.bel⟩
    · have tE : (E.2 == 0) = false := beq_no (by rw [ho]; omega)
      have tE2 := beq_yes ho
      have Ho := Lib.hid ho
      clear ho
      go_enter Try.func5, Try.ntmps5
      go_wp2_with (first
        | (go_at_call 7; refine (new2_any _).mono ?_; rintro e w1 ⟨g, fp, rfl, hD, hfp, b1⟩)
        | (go_at_call 8; refine (symbolic_any _).mono ?_; rintro e w2 ⟨gS, bS, rfl, hS, hgS, hbS, b2⟩; have H2 := Here.start hD hfp b1 hS hgS hbS b2)
        | (go_at_call 9; have _t := tP; refine (HP1.out _ _ _ _ A c _ H2.both (H2.rd (hr.on b0))).mono ?_; rintro e w3 ⟨rfl, T3⟩; obtain ⟨fp3, H3, _, _⟩ := H2.turn T3; clear tP)
        | (go_at_call 23; refine (HAr.out _ _ _ H3.both.disk).mono ?_; rintro e w4 ⟨rfl, hD4, k4⟩; have H4 := H3.armed hD4 k4)
        | (go_at_call 9; refine (HP2.out _ _ _ _ B d _ H4.both (H4.rd (hs.on b0))).mono ?_; rintro e w5 ⟨rfl, T5⟩; obtain ⟨fp5, H5, _, _⟩ := H4.turn T5; have hf5 := F.out.below H5.bel (by simp); obtain ⟨u0, u1, u2⟩ := three3 hf5)
        | (go_at_call 11; refine (HEr.out _ _ _ H5.both.disk).mono ?_; rintro e w6 d6; obtain ⟨rfl, fp6, H6, _, _⟩ := H5.did d6; have hf6 := F.out.below H6.bel (by simp); obtain ⟨v0, v1, v2⟩ := three3 hf6; clear u0 u1 u2)
        | (go_at_call 24; refine (HRe.out _ _ K ck _ H6.both.disk (H6.rdD (kr.on b0))).mono ?_; rintro e w7 ⟨rfl, fp7, hD7, k7, f7⟩; have H7 := H6.moved hD7 k7 f7)
        | (go_at_call 22; refine (HSe.out _ _ _ _ _ H7.both).mono ?_; rintro e w8 ⟨⟨A8, c8, rfl, hc8, hm8, rd8⟩, T8⟩; obtain ⟨fp8, H8, _, _⟩ := H7.turn T8)
        | (go_at_call 12; refine (HBl.out _ _ _ H8.both.disk).mono ?_; rintro e w9 ⟨rfl, b9⟩; have H9 := H8.on b9; have rd9 := (rd8 [] (by simp)).on b9)
        | (go_at_call 17; refine (HKK.out _ B _ d _ rd9.rd (H9.rd (hs.on b0))).mono ?_; rintro e w10 ⟨rfl, b10⟩; have H10 := H9.on b10)
        | (go_at_call 6; refine (alive_any _).mono ?_; rintro e w11 ⟨rfl, b11⟩; have H11 := H10.on b11))
      go_ret
      exact ⟨rfl, bt b0 H11.bel⟩
set_option maxRecDepth 100000 in
theorem lifted (os : Os) (started : os.Started) (H : Type) (enc : TypeId × Value → H) :
    ReturnsInHanded {} Try.checked os 5 .any (Rows.rootCrashesSpec.pre6 enc Try.prog Try.f5 Rows.rootCrashesRow.domain false) (Rows.rootCrashesSpec.post enc Try.prog Try.f5 false true false false) := by
  refine returnsInHanded_of_change (C := Try.checked) own started (by kernel_rfl) Try.func5
    (ChangeSpec.witness6 (enc := enc) (C := Try.checked) false ⟨#[], #[.int .u64 0, .slice none 0 0, .slice none 0 0, .int .i64 0, .agg #[.slice none 0 0, .int .i64 0, .int .i64 0]], []⟩ 8 (by kernel_rfl) (by kernel_rfl) (by kernel_rfl) (by kernel_rfl)) ?_
  intro W base args ds gs before hval0 hW hcnd _
  have hval : ∀ (j : Nat) t v, Try.f5.params[j]? = some t → args[j]? = some v → Value.okWide Try.prog W .any base t v := hval0
  have hW' := hW
  obtain ⟨p, q, hA0, hV, rfl, hfz, hnd⟩ := hW
  have hA : DataW.TrodAll enc Try.prog W 0 (fun _ => true) true Try.f5.params.toList args.toList ds p := hA0
  rw [Try.params5] at hA hval
  obtain ⟨v0, vs0, d0, ds0, p0, q0, hargs, rfl, rfl, h0, r0⟩ := trodAll_cons hA
  obtain ⟨v1, vs1, d1, ds1, p1, q1, rfl, rfl, rfl, h1, r1⟩ := trodAll_cons r0
  obtain ⟨v2, vs2, d2, ds2, p2, q2, rfl, rfl, rfl, h2, r2⟩ := trodAll_cons r1
  obtain ⟨v3, vs3, d3, ds3, p3, q3, rfl, rfl, rfl, h3, r3⟩ := trodAll_cons r2
  obtain ⟨v4, vs4, d4, ds4, p4, q4, rfl, rfl, rfl, h4, r4⟩ := trodAll_cons r3
  obtain ⟨rfl, rfl, rfl⟩ := trodAll_nil r4
  obtain rfl : args = #[v0, v1, v2, v3, v4] := by cases args; simp_all
  obtain ⟨rfl, rfl⟩ := trodVars_none hV
  have k0 := h0
  have lt0 := places_lt k0
  obtain ⟨n0, rfl, _, _, w0⟩ := open_int Try.underlying22 (hval 0 22 v0 rfl rfl) h0
  obtain ⟨x0, rfl⟩ := wf64 w0
  have k1 := h1
  have lt1 := places_lt k1
  obtain ⟨a1, len1, cap1, rfl⟩ := okWide_slice Try.underlying23 (hval 1 23 v1 rfl rfl)
  obtain ⟨fuel1, hf1⟩ := h1
  obtain ⟨l1, rfl, rr1, rc1, rm1⟩ := bytes_of rfl Try.underlying23 Try.underlying5 (by kernel_rfl) hf1
  have k2 := h2
  have lt2 := places_lt k2
  obtain ⟨a2, len2, cap2, rfl⟩ := okWide_slice Try.underlying23 (hval 2 23 v2 rfl rfl)
  obtain ⟨fuel2, hf2⟩ := h2
  obtain ⟨l2, rfl, rr2, rc2, rm2⟩ := bytes_of rfl Try.underlying23 Try.underlying5 (by kernel_rfl) hf2
  have k3 := h3
  have lt3 := places_lt k3
  obtain ⟨n3, rfl, _, _, w3⟩ := open_int Try.underlying3 (hval 3 3 v3 rfl rfl) h3
  have k4 := h4
  have lt4 := places_lt k4
  obtain ⟨a4, l4, cap4, n4a, n4b, rfl, rr4, rc4, rm4, ra4, rb4⟩ := fate_of (hval 4 55 v4 rfl rfl) h4
  clear hA0 hval0
  refine (walk x0 a1 l1 cap1 a2 l2 cap2 n3 a4 l4 cap4 n4a n4b W rr1 rc1 rm1 rr2 rc2 rm2 (wfi w3).1 (wfi w3).2 rr4 rc4 rm4 ra4 rb4).mono fun e W' ⟨he, bel⟩ => ?_
  subst he
  exact ⟨_, rfl, _, _, _, [], _, [], hW', trodAll_mk1 (shut_bool Try.underlying4 _), (trodAll_cons_mk (Below.trod laidOut (by kernel_rfl) (of_decide_eq_true (by kernel_rfl)) k0 bel lt0) (trodAll_cons_mk (Below.trod laidOut (by kernel_rfl) (of_decide_eq_true (by kernel_rfl)) k1 bel lt1) (trodAll_cons_mk (Below.trod laidOut (by kernel_rfl) (of_decide_eq_true (by kernel_rfl)) k2 bel lt2) (trodAll_cons_mk (Below.trod laidOut (by kernel_rfl) (of_decide_eq_true (by kernel_rfl)) k3 bel lt3) (trodAll_cons_mk (Below.trod laidOut (by kernel_rfl) (of_decide_eq_true (by kernel_rfl)) k4 bel lt4) trodAll_mk0))))), rfl, bel.frame _, fun h => by cases h⟩

theorem proved : Rows.RootCrashesSaid :=
  OpenClaim.holds_of_wide 5 Try.f5 rfl rfl rfl rfl rfl rfl rfl ⟨rfl, rfl, rfl, rfl, rfl⟩ rfl rfl rfl rfl rfl (by kernel_rfl) Try.func5 (by kernel_rfl)
    (of_decide_eq_true (by kernel_rfl)) (by unfold Func.isWrapper; first | (rw [if_pos (by decide +kernel)]; kernel_rfl) | (rw [if_neg (by decide +kernel)]; exact ⟨rfl, rfl⟩))
    (fun os started H enc _ => lifted os started H enc)
#print axioms proved
end Go.Proofs.Ytkapamolligmkaa.RootCrashes
