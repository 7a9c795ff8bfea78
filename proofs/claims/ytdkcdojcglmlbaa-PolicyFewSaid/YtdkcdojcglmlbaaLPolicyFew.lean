/- PolicyFew: for every input the law returns true: behind a turn those epochs are kept that were, and the next one, without those that leave, and never more than the policy says. No condition. -/
import Derived.Test.YtdkcdojcglmlbaaOpenPol
import Derived.Test.YtdkcdojcglmlbaaPol6
import Derived.Deep.DeepCutAuto
import Derived.Deep.RegionHeld3
namespace Go.Proofs.Ytdkcdojcglmlbaa.PolicyFew
open Go.ChangeShapes Go.WideShapes Go.ChangeAt Go.RowKit Go.Joins
open Go.ChangeMaps (open_string shut_string)
open Go.Proofs.Ytdkcdojcglmlbaa.Pol
set_option linter.unusedVariables false
set_option maxRecDepth 100000
theorem alive_any (w : World) : Calls Try.prog 21 #[] w fun e w' => e = .returned (.bool true) ∧ Below w.heap.size w w' := by
  have ho := Lib.hid (fun w => poldest_any 2 1 5 w (by omega) (by omega))
  rw [show oldest 2 1 5 = 4 by decide] at ho
  go_enter Try.func21, Try.ntmps21
  go_wp2_with (go_at_call 80; refine (ho.out _).mono ?_; rintro e1 w1 ⟨rfl, b2⟩)
  go_ret
  exact ⟨rfl, b2⟩
theorem two_new (w : World) (a b : List Value) (ta tb : TypeId) :
    Bl ((w.alloc (.cells a.toArray ta)).alloc (.cells b.toArray tb)) w.heap.size ta a ∧ Bl ((w.alloc (.cells a.toArray ta)).alloc (.cells b.toArray tb)) (w.heap.size + 1) tb b := by
  have h1 : Bl (w.alloc (.cells a.toArray ta)) w.heap.size ta a := heap_alloc_new w _
  have h2 : Bl ((w.alloc (.cells a.toArray ta)).alloc (.cells b.toArray tb)) (w.heap.size + 1) tb b := by
    have := heap_alloc_new (w.alloc (.cells a.toArray ta)) (.cells b.toArray tb)
    simpa [Bl] using this
  exact ⟨h1.on (b1alloc _ _), h2⟩
/-- the two variables of the program's own types -/
def R3 (w1 : World) (k d e o s : Int) (t : List UInt8) (a b : Value) (wx : World) : Prop :=
  ∃ p q, a = .pointer (some ⟨p, 0, none⟩) ∧ b = .pointer (some ⟨q, 0, none⟩) ∧ Bl wx p 46 [.int .i64 k, .int .i64 d] ∧ Bl wx q 42 [.int .i64 e, .int .i64 o, .int .i64 s, .string ⟨t.toArray⟩] ∧ Below w1.heap.size w1 wx
theorem r3_A (w2 : World) (k d e o s : Int) (t : List UInt8) : R3 w2 k d e o s t (.pointer (some ⟨w2.heap.size, 0, none⟩)) (.pointer (some ⟨w2.heap.size + 1, 0, none⟩)) ((w2.alloc (.cells #[.int .i64 k, .int .i64 d] 46)).alloc (.cells #[.int .i64 e, .int .i64 o, .int .i64 s, .string ⟨t.toArray⟩] 42)).drew :=
  ⟨_, _, rfl, rfl, (two_new w2 [_, _] [_, _, _, _] _ _).1, (two_new w2 [_, _] [_, _, _, _] _ _).2, (b2alloc _ _ _).drew⟩
theorem r3_B (w2 : World) (k d e o s : Int) (t : List UInt8) : R3 w2 k d e o s t (.pointer (some ⟨w2.heap.size + 1, 0, none⟩)) (.pointer (some ⟨w2.heap.size, 0, none⟩)) ((w2.alloc (.cells #[.int .i64 e, .int .i64 o, .int .i64 s, .string ⟨t.toArray⟩] 42)).alloc (.cells #[.int .i64 k, .int .i64 d] 46)).drew :=
  ⟨_, _, rfl, rfl, (two_new w2 [_, _, _, _] [_, _] _ _).2, (two_new w2 [_, _, _, _] [_, _] _ _).1, (b2alloc _ _ _).drew⟩
theorem wrap_id {a : Int} (h0 : -9223372036854775808 ≤ a) (h1 : a ≤ 9223372036854775807) : IntKind.i64.wrap a = a := by
  simp [IntKind.wrap, IntKind.bits, IntKind.signed] <;> omega
/-- the three rows -/
def R7 (w1 : World) (o b : Int) (n0 n1 nl : Nat) (v9 v10 v11 : Value) (wx : World) : Prop :=
  ∃ A B C c9 c10 c11, v9 = .slice A n0 c9 ∧ v10 = .slice B n1 c10 ∧ v11 = .slice C nl c11 ∧ Rd wx wx.heap.size A ((upL o n0).map (Value.int .i64)) ∧ Rd wx wx.heap.size B ((upL b n1).map (Value.int .i64)) ∧ Rd wx wx.heap.size C ((upL o nl).map (Value.int .i64)) ∧ Below w1.heap.size w1 wx
set_option maxHeartbeats 4000000 in
theorem walk (k d e o s : Int) (t : List UInt8) (w : World) (hk : -9223372036854775808 ≤ k ∧ k ≤ 9223372036854775807) (hd : -9223372036854775808 ≤ d ∧ d ≤ 9223372036854775807) (he : -9223372036854775808 ≤ e ∧ e ≤ 9223372036854775807) (ho : -9223372036854775808 ≤ o ∧ o ≤ 9223372036854775807) (hs : -9223372036854775808 ≤ s ∧ s ≤ 9223372036854775807) :
    Calls Try.prog 9 #[.agg #[.int .i64 k, .int .i64 d], hdr e o s t] w fun E w' => E = .returned (.bool true) ∧ Below w.heap.size w w' := by
  have hal := Lib.hid (fun w => alive_any w)
  have hli := fun w => light_any e o s t w
  have hri := fun w => rpright_any k d w
  have T0 := two_new w [.int .i64 k, .int .i64 d] [.int .i64 e, .int .i64 o, .int .i64 s, .string ⟨t.toArray⟩] 39 41
  obtain ⟨W0, hW0⟩ : ∃ W0, W0 = (w.alloc (.cells #[.int .i64 k, .int .i64 d] 39)).alloc (.cells #[.int .i64 e, .int .i64 o, .int .i64 s, .string ⟨t.toArray⟩] 41) := ⟨_, rfl⟩
  have bW0 : Below w.heap.size w W0 := by rw [hW0]; exact b2alloc _ _ _
  cases hL : lightP e o s t with
  | false =>
    rw [hL] at hli
    have Hli := Lib.hid hli
    clear hli hri hW0 bW0
    unfold hdr at Hli ⊢
    go_enter Try.func9, Try.ntmps9
    obtain ⟨q0, q1, q2, q3, qf⟩ := T0.2.four
    go_wp2_with (first
      | (go_at_call 53; refine (Hli.out _).mono ?_; rintro e1 w1 ⟨rfl, b1⟩)
      | (go_at_call 21; refine (hal.out _).mono ?_; rintro e3 w3 ⟨rfl, b4⟩))
    go_ret
    exact ⟨rfl, bt (bt (b2alloc _ _ _) b1) b4⟩
  | true =>
    rw [hL] at hli
    have Hli := Lib.hid hli
    cases hP : rightP k d with
    | false =>
      rw [hP] at hri
      have Hri := Lib.hid hri
      clear hli hri hW0 bW0
      unfold hdr at Hli ⊢
      go_enter Try.func9, Try.ntmps9
      obtain ⟨q0, q1, q2, q3, qf⟩ := T0.2.four
      go_wp2_with (first
        | (go_at_call 53; refine (Hli.out _).mono ?_; rintro e1 w1 ⟨rfl, b1⟩; obtain ⟨p0, p1⟩ := (T0.1.on b1).two)
        | (go_at_call 54; refine (Hri.out _).mono ?_; rintro e2 w2 ⟨rfl, b2⟩)
        | (go_at_call 21; refine (hal.out _).mono ?_; rintro e3 w3 ⟨rfl, b4⟩))
      go_ret
      exact ⟨rfl, bt (bt (bt (b2alloc _ _ _) b1) b2) b4⟩
    | true =>
      rw [hP] at hri
      have Hri := Lib.hid hri
      have ht1 : t.length ≤ 100 := by
        unfold lightP at hL
        simp at hL
        exact hL.1
      have Htu := Lib.hid (fun w => turn_any k d e o s t w (by omega))
      obtain ⟨T, hT⟩ : ∃ T, T = turn k d e o s t := ⟨_, rfl⟩
      rw [← hT] at Htu
      have HT := Lib.hid hT
      have HL := Lib.hid hL
      have HP := Lib.hid hP
      clear hli hri hT hL hP hW0 bW0
      unfold hdr at Hli Htu ⊢
      go_enter Try.func9, Try.ntmps9
      obtain ⟨q0, q1, q2, q3, qf⟩ := T0.2.four
      go_upto_region 3 with (first
        | (go_at_call 53; refine (Hli.out _).mono ?_; rintro e1 w1 ⟨rfl, b1⟩; obtain ⟨p0, p1⟩ := (T0.1.on b1).two)
        | (go_at_call 54; refine (Hri.out _).mono ?_; rintro e2 w2 ⟨rfl, b2⟩))
      have T1 := T0.1.on (bt b1 b2)
      have T2 := T0.2.on (bt b1 b2)
      have b02 : Below w.heap.size w w2 := bt (bt (b2alloc _ _ _) b1) b2
      clear T0 q0 q1 q2 q3 qf p0 p1 b1 b2 Hli Hri
      go_cut [5, 6] (fun a b wx => R3 w2 k d e o s t a b wx)
      case first =>
        obtain ⟨p0, p1⟩ := T1.two
        obtain ⟨q0, q1, q2, q3, qf⟩ := T2.four
        have l1 := lt_of_block T1
        have l2 := lt_of_block T2
        go_region
        all_goals (go_wp2_with fail; go_meet)
        all_goals (first | exact r3_A _ _ _ _ _ _ _ | exact r3_B _ _ _ _ _ _ _)
      case rest =>
        obtain ⟨p5, p6, rfl, rfl, U5, U6, b3⟩ := hcut
        have T1 := T1.on b3
        have T2 := T2.on b3
        have b03 := bt b02 b3
        obtain ⟨⟨a, b, c, u⟩, f⟩ := T
        obtain ⟨p0, p1⟩ := U5.two
        obtain ⟨q0, q1, q2, q3, qf⟩ := U6.four
        by_cases hf : f = 0
        · obtain ⟨hR, he9, rfl, hb, hc, rfl⟩ := few_next HP.out HT.out hf
          replace hc := hc.symm
          subst hc
          obtain ⟨n0, n1, nl, b', hb', hn0, hn1, hnl, g0, g1, g2, g3, g4, g5, g6, g7, g8, g9, g10, g11, hno, hyes⟩ := few_counts HP.out HL.out hR he9
          obtain rfl : b' = b := hb'.trans hb.symm
          subst hf
          have Hk0 := Lib.hid (fun w => kept_any e o s t (by omega) w (by omega))
          have Hk1 := Lib.hid (fun w => kept_any (e + 1) b' s [] (by simp) w (by omega))
          have Hlv := Lib.hid (fun w => leaving_any k d (e + 1) e o s t (by omega) w (by omega) (by omega) (by omega))
          simp only [keptL_up, upL_len, ← hn0, ← hn1] at Hk0 Hk1 Hlv
          simp only [← hnl] at Hlv
          unfold hdr at Hk0 Hk1 Hlv
          clear hn0 hn1 hnl hb hb' hR HT b02 b3
          go_upto_region 7 with (go_at_call 22; refine (Htu.out _).mono ?_; rintro e4 w4 ⟨rfl, b4⟩; unfold hv hdr)
          have b4' := bt b4 (b1alloc w4 (.cells #[.int .i64 (e + 1), .int .i64 b', .int .i64 s, .string ⟨#[]⟩] 42))
          have U7 : Bl (w4.alloc (.cells #[.int .i64 (e + 1), .int .i64 b', .int .i64 s, .string ⟨#[]⟩] 42)) w4.heap.size 42 [.int .i64 (e + 1), .int .i64 b', .int .i64 s, .string ⟨#[]⟩] := heap_alloc_new w4 _
          have U5 := U5.on b4'
          have U6 := U6.on b4'
          have T1 := T1.on b4'
          have T2 := T2.on b4'
          have bb := bt b03 b4'
          obtain ⟨wb, hwb⟩ : ∃ wb, wb = w4.alloc (.cells #[.int .i64 (e + 1), .int .i64 b', .int .i64 s, .string ⟨#[]⟩] 42) := ⟨_, rfl⟩
          rw [← hwb] at U5 U6 U7 T1 T2 bb
          rw [← hwb]
          clear hwb b4 b4' b03 p0 p1 q0 q1 q2 q3 qf Htu
          go_cut [9, 10, 11] (fun v9 v10 v11 wx => R7 wb o b' n0 n1 nl v9 v10 v11 wx)
          case first =>
            have hS : ∀ W, Below wb.heap.size wb W → W.cell? ⟨p5, 0, none⟩ = some (.int .i64 k) ∧ W.cell? ⟨p5, 1, none⟩ = some (.int .i64 d) ∧ W.cell? ⟨p6, 0, none⟩ = some (.int .i64 e) ∧ W.cell? ⟨p6, 1, none⟩ = some (.int .i64 o) ∧ W.cell? ⟨p6, 2, none⟩ = some (.int .i64 s) ∧ W.cell? ⟨p6, 3, none⟩ = some (.string ⟨t.toArray⟩) ∧ W.cell? ⟨w4.heap.size, 0, none⟩ = some (.int .i64 (e + 1)) ∧ W.cell? ⟨w4.heap.size, 1, none⟩ = some (.int .i64 b') ∧ W.cell? ⟨w4.heap.size, 2, none⟩ = some (.int .i64 s) ∧ W.cell? ⟨w4.heap.size, 3, none⟩ = some (.string ⟨#[]⟩) := fun W bW => by
              obtain ⟨x0, x1⟩ := (U5.on bW).two
              obtain ⟨y0, y1, y2, y3, _⟩ := (U6.on bW).four
              obtain ⟨z0, z1, z2, z3, _⟩ := (U7.on bW).four
              exact ⟨x0, x1, y0, y1, y2, y3, z0, z1, z2, z3⟩
            have hbd : Below wb.heap.size wb wb.drew := (Below.refl _ _).drew
            go_region_held3 (fun W => W.cell? ⟨p5, 0, none⟩ = some (.int .i64 k) ∧ W.cell? ⟨p5, 1, none⟩ = some (.int .i64 d) ∧ W.cell? ⟨p6, 0, none⟩ = some (.int .i64 e) ∧ W.cell? ⟨p6, 1, none⟩ = some (.int .i64 o) ∧ W.cell? ⟨p6, 2, none⟩ = some (.int .i64 s) ∧ W.cell? ⟨p6, 3, none⟩ = some (.string ⟨t.toArray⟩) ∧ W.cell? ⟨w4.heap.size, 0, none⟩ = some (.int .i64 (e + 1)) ∧ W.cell? ⟨w4.heap.size, 1, none⟩ = some (.int .i64 b') ∧ W.cell? ⟨w4.heap.size, 2, none⟩ = some (.int .i64 s) ∧ W.cell? ⟨w4.heap.size, 3, none⟩ = some (.string ⟨#[]⟩)) (first | exact hS _ hbd | exact hS _ c1 | exact hS _ c2 | exact hS _ c3)
              ((first
                | (go_at_call 55; refine (Hk0.out wb.drew).mono ?_; rintro e5 w5 ⟨v5, rfl, o5, b5⟩; have c1 := bt hbd b5; obtain ⟨A9, d9, rfl⟩ := own_form o5; have r9 := Rd.own o5)
                | (go_at_call 55; refine (Hk1.out w5).mono ?_; rintro e6 w6 ⟨v6, rfl, o6, b6⟩; have c2 := bt c1 b6; obtain ⟨A10, d10, rfl⟩ := own_form o6; have r10 := Rd.own o6)
                | (go_at_call 56; refine (Hlv.out w6).mono ?_; rintro e7 w7 ⟨v7, rfl, o7, b7⟩; have c3 := bt c2 b7; obtain ⟨A11, d11, rfl⟩ := own_form o7; have r11 := Rd.own o7)))
            all_goals (go_wp2_with fail)
            all_goals (go_meet)
            all_goals exact ⟨A9, A10, A11, d9, d10, d11, rfl, rfl, rfl, (r9.on b6).on b7, r10.on b7, r11, c3⟩
          case rest =>
            obtain ⟨A, B, C, c9, c10, c11, rfl, rfl, rfl, r9, r10, r11, b7⟩ := hcut
            have T1 := T1.on b7
            have T2 := T2.on b7
            have U7 := U7.on b7
            have bb := bt bb b7
            have Hno := Lib.hid hno
            have Hyes := Lib.hid hyes
            have hne : ((n1 : Int) != (n0 : Int) + 1 - (nl : Int)) = false := bne_no (by omega)
            have G4 := Lib.hid g4
            have G5 := Lib.hid g5
            have G3 := Lib.hid g3
            clear hno hyes g4 g5 Hk0 Hk1 Hlv U5 U6 b7 HL HP
            go_wp2_with fail
            go_loop [12] (fun i => ∃ j : Nat, j ≤ nl ∧ i = .int .i64 j) (fun i => nl - (intOf i).toNat)
            case atStart => exact ⟨0, by omega, rfl⟩
            case round =>
              obtain ⟨j, hj, rfl⟩ := hrel
              have HN := Lib.hid (fun (h : j < nl) => hasN_any B (upL b' n1) n1 c10 (o + (j : Int)) wc (upL_len _ _).symm r10 (by rw [upL_len]; omega) (Hno.out j h))
              have HY := Lib.hid (fun (h : j < nl) => hasY_any A (upL o n0) n0 c9 (o + (j : Int)) wc (upL_len _ _).symm r9 (by rw [upL_len]; omega) (Hyes.out j h))
              by_cases hlt : j < nl
              · obtain ⟨bC, offC, rfl, hbC, hc⟩ := r11.get (k := j) (by simpa [upL_len] using hlt)
                rw [List.getElem_map, show (upL o nl)[j]'(by rw [upL_len]; exact hlt) = o + (j : Int) from by simp [upL]] at hc
                have tK1 : True := trivial
                go_wp2_with (first
                  | (go_at_call 57; have _t := tK1; refine (HN.out hlt).mono ?_; rintro e8 w8 ⟨rfl, rfl⟩; clear tK1)
                  | (go_at_call 57; refine (HY.out hlt).mono ?_; rintro e9 w9 ⟨rfl, rfl⟩))
                go_round
                case rel => exact ⟨j + 1, by omega, by go_num⟩
                case measure => simp [intOf]; omega
              · obtain rfl : j = nl := by omega
                obtain ⟨bB, offB, rfl, hbB, hc⟩ := r10.get (k := n1 - 1) (by simpa [upL_len] using (by omega : n1 - 1 < n1))
                have g5' := G5.out
                rw [List.getElem_map, show (upL b' n1)[n1 - 1]'(by rw [upL_len]; omega) = e + 1 from by simp [upL]; omega] at hc
                obtain ⟨x0, x1⟩ := T1.two
                obtain ⟨y0, y1, y2, y3, _⟩ := T2.four
                obtain ⟨z0, z1, z2, z3, _⟩ := U7.four
                have lc1 := lt_of_block T1
                have lc2 := lt_of_block T2
                have lc3 := lt_of_block U7
                clear g5' HN HY hne r9 r10 r11 T1 T2 U7 y1 y3 x1 z0 z1 G3 G4 G5 Hno Hyes hj
                obtain ⟨q, rfl⟩ : ∃ q, n1 = q + 1 := ⟨n1 - 1, by omega⟩
                rw [Nat.add_sub_cancel] at hc
                have v1 : decide ((q : Int) + 1 ≥ 1) = true := by simp; omega
                have v2 : decide ((q : Int) + 1 ≤ k) = true := by simp; omega
                have v5 : q < q + 1 := by omega
                have v6 : (0 : Int) ≤ (q : Int) := by omega
                have v7 : (q : Int) ≤ (q : Int) + 1 := by omega
                have v8 : (q : Int) < (q : Int) + 1 := by omega
                have v9 : IntKind.i64.wrap (q : Int) = q := wrap_id (by omega) (by omega)
                have v10 : IntKind.i64.wrap (e + 1) = e + 1 := wrap_id (by omega) (by omega)
                have v11 : ¬ (q : Int) < 0 := by omega
                have v3 : ((e + 1 : Int) == e + 1) = true := by simp
                have v4 : ((s : Int) == s) = true := by simp
                have hw1 : wrap64 (e + 1) = e + 1 := by unfold wrap64; omega
                have hbd : Below wc.heap.size wc wc.drew := (Below.refl _ _).drew
                have Hx := Lib.hid (show ∀ W, Below wc.heap.size wc W → W.cell? ⟨w.heap.size, 0, none⟩ = some (.int .i64 k) ∧ W.cell? ⟨w.heap.size + 1, 0, none⟩ = some (.int .i64 e) ∧ W.cell? ⟨w.heap.size + 1, 2, none⟩ = some (.int .i64 s) ∧ W.cell? ⟨w4.heap.size, 2, none⟩ = some (.int .i64 s) ∧ W.cell? ⟨w4.heap.size, 3, none⟩ = some (.string ⟨#[]⟩) ∧ W.cell? ⟨bB, offB + q, none⟩ = some (.int .i64 (e + 1)) from fun W bW =>
                  ⟨(bW.cell (p := ⟨_, _, _⟩) lc1).trans x0, (bW.cell (p := ⟨_, _, _⟩) lc2).trans y0, (bW.cell (p := ⟨_, _, _⟩) lc2).trans y2, (bW.cell (p := ⟨_, _, _⟩) lc3).trans z2, (bW.cell (p := ⟨_, _, _⟩) lc3).trans z3, (bW.cell (p := ⟨_, _, _⟩) hbB).trans hc⟩)
                go_wp2_with fail
                refine wp_region_held_drew (S := (fun W => W.cell? ⟨w.heap.size, 0, none⟩ = some (.int .i64 k) ∧ W.cell? ⟨w.heap.size + 1, 0, none⟩ = some (.int .i64 e) ∧ W.cell? ⟨w.heap.size + 1, 2, none⟩ = some (.int .i64 s) ∧ W.cell? ⟨w4.heap.size, 2, none⟩ = some (.int .i64 s) ∧ W.cell? ⟨w4.heap.size, 3, none⟩ = some (.string ⟨#[]⟩) ∧ W.cell? ⟨bB, offB + q, none⟩ = some (.int .i64 (e + 1)))) (by kernel_rfl) (by exact Hx.out _ hbd) (fun hHeld => ?_)
                refine wpAnyH_take (i := 0) (oi := { dst := some 79, op := Op.move (Operand.tmp 10), type := 58, pos := "law.go:59", after := #[], guard := none }) (v := ?_) rfl (by kernel_rfl) (by kernel_rfl) (by kernel_rfl) (fun _ _ _ h => h) (Or.inl ⟨by rfl, ?_⟩) (by assumption) ?_; rotate_left; · ((intro w hSw; (try dsimp only at hSw); go_simp) <;> with_reducible rfl)
                try simp only [Act.put, List.setIfInBounds_toArray, List.set_cons_zero, List.set_cons_succ]
                refine wpAnyH_take (i := 1) (oi := { dst := some 80, op := Op.call { callee := Callee.builtin Builtin.len, args := #[Operand.tmp 79], argTypes := #[58] }, type := 3, pos := "law.go:59", after := #[{ on := 0, ground := Ground.data }], guard := none }) (v := ?_) rfl (by kernel_rfl) (by kernel_rfl) (by kernel_rfl) (fun _ _ _ h => h) (Or.inl ⟨by rfl, ?_⟩) (by assumption) ?_; rotate_left; · ((intro w hSw; (try dsimp only at hSw); go_simp) <;> with_reducible rfl)
                try simp only [Act.put, List.setIfInBounds_toArray, List.set_cons_zero, List.set_cons_succ]
                refine wpAnyH_take (i := 2) (oi := { dst := some 81, op := Op.binOp BinOp.geq 3 (Operand.tmp 80) (Operand.const (Value.int IntKind.i64 1)) 3, type := 4, pos := "law.go:59", after := #[{ on := 1, ground := Ground.data }], guard := none }) (v := ?_) rfl (by kernel_rfl) (by kernel_rfl) (by kernel_rfl) (fun _ _ _ h => h) (Or.inl ⟨by rfl, ?_⟩) (by assumption) ?_; rotate_left; · ((intro w hSw; (try dsimp only at hSw); go_simp) <;> with_reducible rfl)
                try simp only [Act.put, List.setIfInBounds_toArray, List.set_cons_zero, List.set_cons_succ]
                refine wpAnyH_take (i := 3) (oi := { dst := some 82, op := Op.move (Operand.tmp 81), type := 4, pos := "law.go:59", after := #[{ on := 2, ground := Ground.data }], guard := none }) (v := ?_) rfl (by kernel_rfl) (by kernel_rfl) (by kernel_rfl) (fun _ _ _ h => h) (Or.inl ⟨by rfl, ?_⟩) (by assumption) ?_; rotate_left; · ((intro w hSw; (try dsimp only at hSw); go_simp) <;> with_reducible rfl)
                try simp only [Act.put, List.setIfInBounds_toArray, List.set_cons_zero, List.set_cons_succ]
                refine wpAnyH_take (i := 4) (oi := { dst := some 83, op := Op.move (Operand.tmp 10), type := 58, pos := "law.go:59", after := #[{ on := 3, ground := Ground.guard }], guard := some (3, true) }) (v := ?_) rfl (by kernel_rfl) (by kernel_rfl) (by kernel_rfl) (fun _ _ _ h => h) (Or.inl ⟨by rfl, ?_⟩) (by assumption) ?_; rotate_left; · ((intro w hSw; (try dsimp only at hSw); go_simp) <;> with_reducible rfl)
                try simp only [Act.put, List.setIfInBounds_toArray, List.set_cons_zero, List.set_cons_succ]
                refine wpAnyH_take (i := 5) (oi := { dst := some 84, op := Op.move (Operand.tmp 10), type := 58, pos := "law.go:59", after := #[{ on := 3, ground := Ground.guard }], guard := some (3, true) }) (v := ?_) rfl (by kernel_rfl) (by kernel_rfl) (by kernel_rfl) (fun _ _ _ h => h) (Or.inl ⟨by rfl, ?_⟩) (by assumption) ?_; rotate_left; · ((intro w hSw; (try dsimp only at hSw); go_simp) <;> with_reducible rfl)
                try simp only [Act.put, List.setIfInBounds_toArray, List.set_cons_zero, List.set_cons_succ]
                refine wpAnyH_take (i := 6) (oi := { dst := some 85, op := Op.call { callee := Callee.builtin Builtin.len, args := #[Operand.tmp 84], argTypes := #[58] }, type := 3, pos := "law.go:59", after := #[{ on := 5, ground := Ground.data }, { on := 3, ground := Ground.guard }], guard := some (3, true) }) (v := ?_) rfl (by kernel_rfl) (by kernel_rfl) (by kernel_rfl) (fun _ _ _ h => h) (Or.inl ⟨by rfl, ?_⟩) (by assumption) ?_; rotate_left; · ((intro w hSw; (try dsimp only at hSw); go_simp) <;> with_reducible rfl)
                try simp only [Act.put, List.setIfInBounds_toArray, List.set_cons_zero, List.set_cons_succ]
                refine wpAnyH_take (i := 7) (oi := { dst := some 86, op := Op.binOp BinOp.sub 3 (Operand.tmp 85) (Operand.const (Value.int IntKind.i64 1)) 3, type := 3, pos := "law.go:59", after := #[{ on := 6, ground := Ground.data }, { on := 3, ground := Ground.guard }], guard := some (3, true) }) (v := ?_) rfl (by kernel_rfl) (by kernel_rfl) (by kernel_rfl) (fun _ _ _ h => h) (Or.inl ⟨by rfl, ?_⟩) (by assumption) ?_; rotate_left; · ((intro w hSw; (try dsimp only at hSw); go_simp) <;> with_reducible rfl)
                try simp only [Act.put, List.setIfInBounds_toArray, List.set_cons_zero, List.set_cons_succ]
                refine wpAnyH_take (i := 8) (oi := { dst := some 87, op := Op.indexAddr 58 (Operand.tmp 83) (Operand.tmp 86), type := 0, pos := "law.go:59", after := #[{ on := 4, ground := Ground.data }, { on := 7, ground := Ground.data }, { on := 3, ground := Ground.guard }], guard := some (3, true) }) (v := ?_) rfl (by kernel_rfl) (by kernel_rfl) (by kernel_rfl) (fun _ _ _ h => h) (Or.inl ⟨by rfl, ?_⟩) (by assumption) ?_; rotate_left; · ((intro w hSw; (try dsimp only at hSw); go_simp) <;> with_reducible rfl)
                try simp only [Act.put, List.setIfInBounds_toArray, List.set_cons_zero, List.set_cons_succ]
                refine wpAnyH_take (i := 9) (oi := { dst := some 88, op := Op.load 3 (Operand.tmp 87), type := 3, pos := "law.go:59", after := #[{ on := 8, ground := Ground.data }, { on := 3, ground := Ground.guard }], guard := some (3, true) }) (v := ?_) rfl (by kernel_rfl) (by kernel_rfl) (by kernel_rfl) (fun _ _ _ h => h) (Or.inl ⟨by rfl, ?_⟩) (by assumption) ?_; rotate_left; · ((intro w hSw; (try dsimp only at hSw); go_simp) <;> with_reducible rfl)
                try simp only [Act.put, List.setIfInBounds_toArray, List.set_cons_zero, List.set_cons_succ]
                refine wpAnyH_take (i := 10) (oi := { dst := some 89, op := Op.fieldAddr 41 (Operand.tmp 3) 0, type := 0, pos := "law.go:59", after := #[{ on := 3, ground := Ground.guard }], guard := some (3, true) }) (v := ?_) rfl (by kernel_rfl) (by kernel_rfl) (by kernel_rfl) (fun _ _ _ h => h) (Or.inl ⟨by rfl, ?_⟩) (by assumption) ?_; rotate_left; · ((intro w hSw; (try dsimp only at hSw); go_simp) <;> with_reducible rfl)
                try simp only [Act.put, List.setIfInBounds_toArray, List.set_cons_zero, List.set_cons_succ]
                refine wpAnyH_take (i := 11) (oi := { dst := some 90, op := Op.load 3 (Operand.tmp 89), type := 3, pos := "law.go:59", after := #[{ on := 10, ground := Ground.data }, { on := 3, ground := Ground.guard }], guard := some (3, true) }) (v := ?_) rfl (by kernel_rfl) (by kernel_rfl) (by kernel_rfl) (fun _ _ _ h => h) (Or.inl ⟨by rfl, ?_⟩) (by assumption) ?_; rotate_left; · ((intro w hSw; (try dsimp only at hSw); go_simp) <;> with_reducible rfl)
                try simp only [Act.put, List.setIfInBounds_toArray, List.set_cons_zero, List.set_cons_succ]
                refine wpAnyH_take (i := 12) (oi := { dst := some 91, op := Op.binOp BinOp.add 3 (Operand.tmp 90) (Operand.const (Value.int IntKind.i64 1)) 3, type := 3, pos := "law.go:59", after := #[{ on := 11, ground := Ground.data }, { on := 3, ground := Ground.guard }], guard := some (3, true) }) (v := ?_) rfl (by kernel_rfl) (by kernel_rfl) (by kernel_rfl) (fun _ _ _ h => h) (Or.inl ⟨by rfl, ?_⟩) (by assumption) ?_; rotate_left; · ((intro w hSw; (try dsimp only at hSw); go_simp) <;> with_reducible rfl)
                try simp only [Act.put, List.setIfInBounds_toArray, List.set_cons_zero, List.set_cons_succ]
                refine wpAnyH_take (i := 13) (oi := { dst := some 92, op := Op.binOp BinOp.eql 3 (Operand.tmp 88) (Operand.tmp 91) 3, type := 4, pos := "law.go:59", after := #[{ on := 9, ground := Ground.data }, { on := 12, ground := Ground.data }, { on := 3, ground := Ground.guard }], guard := some (3, true) }) (v := ?_) rfl (by kernel_rfl) (by kernel_rfl) (by kernel_rfl) (fun _ _ _ h => h) (Or.inl ⟨by rfl, ?_⟩) (by assumption) ?_; rotate_left; · ((intro w hSw; (try dsimp only at hSw); go_simp) <;> with_reducible rfl)
                try simp only [Act.put, List.setIfInBounds_toArray, List.set_cons_zero, List.set_cons_succ]
                refine wpAnyH_take (i := 14) (oi := { dst := some 93, op := Op.pick (Operand.tmp 82) (Operand.tmp 92) (Operand.const (Value.bool false)), type := 4, pos := "law.go:59", after := #[{ on := 3, ground := Ground.data }, { on := 13, ground := Ground.data }], guard := none }) (v := ?_) rfl (by kernel_rfl) (by kernel_rfl) (by kernel_rfl) (fun _ _ _ h => h) (Or.inl ⟨by rfl, ?_⟩) (by assumption) ?_; rotate_left; · ((intro w hSw; (try dsimp only at hSw); go_simp) <;> with_reducible rfl)
                try simp only [Act.put, List.setIfInBounds_toArray, List.set_cons_zero, List.set_cons_succ]
                refine wpAnyH_take (i := 15) (oi := { dst := some 94, op := Op.move (Operand.tmp 93), type := 4, pos := "law.go:59", after := #[{ on := 14, ground := Ground.data }, { on := 3, ground := Ground.chain }], guard := none }) (v := ?_) rfl (by kernel_rfl) (by kernel_rfl) (by kernel_rfl) (fun _ _ _ h => h) (Or.inl ⟨by rfl, ?_⟩) (by assumption) ?_; rotate_left; · ((intro w hSw; (try dsimp only at hSw); go_simp) <;> with_reducible rfl)
                try simp only [Act.put, List.setIfInBounds_toArray, List.set_cons_zero, List.set_cons_succ]
                refine wpAnyH_take (i := 16) (oi := { dst := some 95, op := Op.move (Operand.tmp 10), type := 58, pos := "law.go:59", after := #[{ on := 15, ground := Ground.guard }], guard := some (15, true) }) (v := ?_) rfl (by kernel_rfl) (by kernel_rfl) (by kernel_rfl) (fun _ _ _ h => h) (Or.inl ⟨by rfl, ?_⟩) (by assumption) ?_; rotate_left; · ((intro w hSw; (try dsimp only at hSw); go_simp) <;> with_reducible rfl)
                try simp only [Act.put, List.setIfInBounds_toArray, List.set_cons_zero, List.set_cons_succ]
                refine wpAnyH_take (i := 17) (oi := { dst := some 96, op := Op.call { callee := Callee.builtin Builtin.len, args := #[Operand.tmp 95], argTypes := #[58] }, type := 3, pos := "law.go:59", after := #[{ on := 16, ground := Ground.data }, { on := 15, ground := Ground.guard }], guard := some (15, true) }) (v := ?_) rfl (by kernel_rfl) (by kernel_rfl) (by kernel_rfl) (fun _ _ _ h => h) (Or.inl ⟨by rfl, ?_⟩) (by assumption) ?_; rotate_left; · ((intro w hSw; (try dsimp only at hSw); go_simp) <;> with_reducible rfl)
                try simp only [Act.put, List.setIfInBounds_toArray, List.set_cons_zero, List.set_cons_succ]
                refine wpAnyH_take (i := 18) (oi := { dst := some 97, op := Op.fieldAddr 39 (Operand.tmp 2) 0, type := 0, pos := "law.go:59", after := #[{ on := 15, ground := Ground.guard }], guard := some (15, true) }) (v := ?_) rfl (by kernel_rfl) (by kernel_rfl) (by kernel_rfl) (fun _ _ _ h => h) (Or.inl ⟨by rfl, ?_⟩) (by assumption) ?_; rotate_left; · ((intro w hSw; (try dsimp only at hSw); go_simp) <;> with_reducible rfl)
                try simp only [Act.put, List.setIfInBounds_toArray, List.set_cons_zero, List.set_cons_succ]
                refine wpAnyH_take (i := 19) (oi := { dst := some 98, op := Op.load 3 (Operand.tmp 97), type := 3, pos := "law.go:59", after := #[{ on := 18, ground := Ground.data }, { on := 15, ground := Ground.guard }], guard := some (15, true) }) (v := ?_) rfl (by kernel_rfl) (by kernel_rfl) (by kernel_rfl) (fun _ _ _ h => h) (Or.inl ⟨by rfl, ?_⟩) (by assumption) ?_; rotate_left; · ((intro w hSw; (try dsimp only at hSw); go_simp) <;> with_reducible rfl)
                try simp only [Act.put, List.setIfInBounds_toArray, List.set_cons_zero, List.set_cons_succ]
                refine wpAnyH_take (i := 20) (oi := { dst := some 99, op := Op.binOp BinOp.leq 3 (Operand.tmp 96) (Operand.tmp 98) 3, type := 4, pos := "law.go:59", after := #[{ on := 17, ground := Ground.data }, { on := 19, ground := Ground.data }, { on := 15, ground := Ground.guard }], guard := some (15, true) }) (v := ?_) rfl (by kernel_rfl) (by kernel_rfl) (by kernel_rfl) (fun _ _ _ h => h) (Or.inl ⟨by rfl, ?_⟩) (by assumption) ?_; rotate_left; · ((intro w hSw; (try dsimp only at hSw); go_simp) <;> with_reducible rfl)
                try simp only [Act.put, List.setIfInBounds_toArray, List.set_cons_zero, List.set_cons_succ]
                refine wpAnyH_take (i := 21) (oi := { dst := some 100, op := Op.pick (Operand.tmp 94) (Operand.tmp 99) (Operand.const (Value.bool false)), type := 4, pos := "law.go:59", after := #[{ on := 15, ground := Ground.data }, { on := 20, ground := Ground.data }], guard := none }) (v := ?_) rfl (by kernel_rfl) (by kernel_rfl) (by kernel_rfl) (fun _ _ _ h => h) (Or.inl ⟨by rfl, ?_⟩) (by assumption) ?_; rotate_left; · ((intro w hSw; (try dsimp only at hSw); go_simp) <;> with_reducible rfl)
                try simp only [Act.put, List.setIfInBounds_toArray, List.set_cons_zero, List.set_cons_succ]
                refine wpAnyH_take (i := 22) (oi := { dst := some 101, op := Op.move (Operand.tmp 100), type := 4, pos := "law.go:59", after := #[{ on := 21, ground := Ground.data }, { on := 15, ground := Ground.chain }], guard := none }) (v := ?_) rfl (by kernel_rfl) (by kernel_rfl) (by kernel_rfl) (fun _ _ _ h => h) (Or.inl ⟨by rfl, ?_⟩) (by assumption) ?_; rotate_left; · ((intro w hSw; (try dsimp only at hSw); go_simp) <;> with_reducible rfl)
                try simp only [Act.put, List.setIfInBounds_toArray, List.set_cons_zero, List.set_cons_succ]
                refine wpAnyH_take (i := 23) (oi := { dst := some 102, op := Op.fieldAddr 42 (Operand.tmp 7) 3, type := 0, pos := "law.go:59", after := #[{ on := 22, ground := Ground.guard }], guard := some (22, true) }) (v := ?_) rfl (by kernel_rfl) (by kernel_rfl) (by kernel_rfl) (fun _ _ _ h => h) (Or.inl ⟨by rfl, ?_⟩) (by assumption) ?_; rotate_left; · ((intro w hSw; (try dsimp only at hSw); go_simp) <;> with_reducible rfl)
                try simp only [Act.put, List.setIfInBounds_toArray, List.set_cons_zero, List.set_cons_succ]
                refine wpAnyH_take (i := 24) (oi := { dst := some 103, op := Op.load 9 (Operand.tmp 102), type := 9, pos := "law.go:59", after := #[{ on := 23, ground := Ground.data }, { on := 22, ground := Ground.guard }], guard := some (22, true) }) (v := ?_) rfl (by kernel_rfl) (by kernel_rfl) (by kernel_rfl) (fun _ _ _ h => h) (Or.inl ⟨by rfl, ?_⟩) (by assumption) ?_; rotate_left; · ((intro w hSw; (try dsimp only at hSw); go_simp) <;> with_reducible rfl)
                try simp only [Act.put, List.setIfInBounds_toArray, List.set_cons_zero, List.set_cons_succ]
                refine wpAnyH_take (i := 25) (oi := { dst := some 104, op := Op.binOp BinOp.eql 9 (Operand.tmp 103) (Operand.const (Value.string { data := #[] })) 9, type := 4, pos := "law.go:59", after := #[{ on := 24, ground := Ground.data }, { on := 22, ground := Ground.guard }], guard := some (22, true) }) (v := ?_) rfl (by kernel_rfl) (by kernel_rfl) (by kernel_rfl) (fun _ _ _ h => h) (Or.inl ⟨by rfl, ?_⟩) (by assumption) ?_; rotate_left; · ((intro w hSw; (try dsimp only at hSw); go_simp) <;> with_reducible rfl)
                try simp only [Act.put, List.setIfInBounds_toArray, List.set_cons_zero, List.set_cons_succ]
                refine wpAnyH_take (i := 26) (oi := { dst := some 105, op := Op.pick (Operand.tmp 101) (Operand.tmp 104) (Operand.const (Value.bool false)), type := 4, pos := "law.go:59", after := #[{ on := 22, ground := Ground.data }, { on := 25, ground := Ground.data }], guard := none }) (v := ?_) rfl (by kernel_rfl) (by kernel_rfl) (by kernel_rfl) (fun _ _ _ h => h) (Or.inl ⟨by rfl, ?_⟩) (by assumption) ?_; rotate_left; · ((intro w hSw; (try dsimp only at hSw); go_simp) <;> with_reducible rfl)
                try simp only [Act.put, List.setIfInBounds_toArray, List.set_cons_zero, List.set_cons_succ]
                refine wpAnyH_take (i := 27) (oi := { dst := some 106, op := Op.move (Operand.tmp 105), type := 4, pos := "law.go:59", after := #[{ on := 26, ground := Ground.data }, { on := 22, ground := Ground.chain }], guard := none }) (v := ?_) rfl (by kernel_rfl) (by kernel_rfl) (by kernel_rfl) (fun _ _ _ h => h) (Or.inl ⟨by rfl, ?_⟩) (by assumption) ?_; rotate_left; · ((intro w hSw; (try dsimp only at hSw); go_simp) <;> with_reducible rfl)
                try simp only [Act.put, List.setIfInBounds_toArray, List.set_cons_zero, List.set_cons_succ]
                refine wpAnyH_take (i := 28) (oi := { dst := some 107, op := Op.fieldAddr 42 (Operand.tmp 7) 2, type := 0, pos := "law.go:59", after := #[{ on := 27, ground := Ground.guard }], guard := some (27, true) }) (v := ?_) rfl (by kernel_rfl) (by kernel_rfl) (by kernel_rfl) (fun _ _ _ h => h) (Or.inl ⟨by rfl, ?_⟩) (by assumption) ?_; rotate_left; · ((intro w hSw; (try dsimp only at hSw); go_simp) <;> with_reducible rfl)
                try simp only [Act.put, List.setIfInBounds_toArray, List.set_cons_zero, List.set_cons_succ]
                refine wpAnyH_take (i := 29) (oi := { dst := some 108, op := Op.load 3 (Operand.tmp 107), type := 3, pos := "law.go:59", after := #[{ on := 28, ground := Ground.data }, { on := 27, ground := Ground.guard }], guard := some (27, true) }) (v := ?_) rfl (by kernel_rfl) (by kernel_rfl) (by kernel_rfl) (fun _ _ _ h => h) (Or.inl ⟨by rfl, ?_⟩) (by assumption) ?_; rotate_left; · ((intro w hSw; (try dsimp only at hSw); go_simp) <;> with_reducible rfl)
                try simp only [Act.put, List.setIfInBounds_toArray, List.set_cons_zero, List.set_cons_succ]
                refine wpAnyH_take (i := 30) (oi := { dst := some 109, op := Op.fieldAddr 41 (Operand.tmp 3) 2, type := 0, pos := "law.go:59", after := #[{ on := 27, ground := Ground.guard }], guard := some (27, true) }) (v := ?_) rfl (by kernel_rfl) (by kernel_rfl) (by kernel_rfl) (fun _ _ _ h => h) (Or.inl ⟨by rfl, ?_⟩) (by assumption) ?_; rotate_left; · ((intro w hSw; (try dsimp only at hSw); go_simp) <;> with_reducible rfl)
                try simp only [Act.put, List.setIfInBounds_toArray, List.set_cons_zero, List.set_cons_succ]
                refine wpAnyH_take (i := 31) (oi := { dst := some 110, op := Op.load 3 (Operand.tmp 109), type := 3, pos := "law.go:59", after := #[{ on := 30, ground := Ground.data }, { on := 27, ground := Ground.guard }], guard := some (27, true) }) (v := ?_) rfl (by kernel_rfl) (by kernel_rfl) (by kernel_rfl) (fun _ _ _ h => h) (Or.inl ⟨by rfl, ?_⟩) (by assumption) ?_; rotate_left; · ((intro w hSw; (try dsimp only at hSw); go_simp) <;> with_reducible rfl)
                try simp only [Act.put, List.setIfInBounds_toArray, List.set_cons_zero, List.set_cons_succ]
                refine wpAnyH_take (i := 32) (oi := { dst := some 111, op := Op.binOp BinOp.eql 3 (Operand.tmp 108) (Operand.tmp 110) 3, type := 4, pos := "law.go:59", after := #[{ on := 29, ground := Ground.data }, { on := 31, ground := Ground.data }, { on := 27, ground := Ground.guard }], guard := some (27, true) }) (v := ?_) rfl (by kernel_rfl) (by kernel_rfl) (by kernel_rfl) (fun _ _ _ h => h) (Or.inl ⟨by rfl, ?_⟩) (by assumption) ?_; rotate_left; · ((intro w hSw; (try dsimp only at hSw); go_simp) <;> with_reducible rfl)
                try simp only [Act.put, List.setIfInBounds_toArray, List.set_cons_zero, List.set_cons_succ]
                refine wpAnyH_take (i := 33) (oi := { dst := some 112, op := Op.pick (Operand.tmp 106) (Operand.tmp 111) (Operand.const (Value.bool false)), type := 4, pos := "law.go:59", after := #[{ on := 27, ground := Ground.data }, { on := 32, ground := Ground.data }], guard := none }) (v := ?_) rfl (by kernel_rfl) (by kernel_rfl) (by kernel_rfl) (fun _ _ _ h => h) (Or.inl ⟨by rfl, ?_⟩) (by assumption) ?_; rotate_left; · ((intro w hSw; (try dsimp only at hSw); go_simp) <;> with_reducible rfl)
                try simp only [Act.put, List.setIfInBounds_toArray, List.set_cons_zero, List.set_cons_succ]
                refine wpAnyH_take (i := 34) (oi := { dst := some 113, op := Op.move (Operand.tmp 112), type := 4, pos := "law.go:59", after := #[{ on := 33, ground := Ground.data }, { on := 27, ground := Ground.chain }], guard := none }) (v := ?_) rfl (by kernel_rfl) (by kernel_rfl) (by kernel_rfl) (fun _ _ _ h => h) (Or.inl ⟨by rfl, ?_⟩) (by assumption) ?_; rotate_left; · ((intro w hSw; (try dsimp only at hSw); go_simp) <;> with_reducible rfl)
                try simp only [Act.put, List.setIfInBounds_toArray, List.set_cons_zero, List.set_cons_succ]
                refine wpAnyH_ready (rs := [35]) (by kernel_rfl) (by simp) ?_
                refine AllReadyH.cons (o := { dst := some 114, op := Op.call { callee := Callee.value (Operand.func 21), args := #[], argTypes := #[] }, type := 4, pos := "law.go:59", after := #[{ on := 34, ground := Ground.chain }, { on := 34, ground := Ground.guard }], guard := some (34, true) }) rfl (fun K hK => ?_) AllReadyH.nil
                go_simp; (go_at_call 21; refine (hal.out _).mono ?_; rintro e9 w9 ⟨rfl, b9⟩; have b9x := bt hbd b9); (try (go_wp2_with fail)); refine hK.out _ _ (by first | (first | with_reducible exact Hx.out _ hbd | with_reducible exact Hx.out _ b9x) | ((try dsimp only); (first | with_reducible exact Hx.out _ hbd | with_reducible exact Hx.out _ b9x))) (fun hHeld => ?_)
                clear hK K
                try simp only [Act.put, List.setIfInBounds_toArray, List.set_cons_zero, List.set_cons_succ]
                refine wpAnyH_take (i := 36) (oi := { dst := some 115, op := Op.pick (Operand.tmp 113) (Operand.tmp 114) (Operand.const (Value.bool false)), type := 4, pos := "law.go:59", after := #[{ on := 34, ground := Ground.data }, { on := 35, ground := Ground.data }], guard := none }) (v := ?_) rfl (by kernel_rfl) (by kernel_rfl) (by kernel_rfl) (fun _ _ _ h => h) (Or.inl ⟨by rfl, ?_⟩) (by assumption) ?_; rotate_left; · ((intro w hSw; (try dsimp only at hSw); go_simp) <;> with_reducible rfl)
                try simp only [Act.put, List.setIfInBounds_toArray, List.set_cons_zero, List.set_cons_succ]
                refine wpAnyH_take (i := 37) (oi := { dst := some 4, op := Op.assign (Operand.tmp 115), type := 4, pos := "law.go:59", after := #[{ on := 36, ground := Ground.data }, { on := 35, ground := Ground.chain }, { on := 0, ground := Ground.phase }, { on := 1, ground := Ground.phase }, { on := 2, ground := Ground.phase }, { on := 3, ground := Ground.phase }, { on := 4, ground := Ground.phase }, { on := 5, ground := Ground.phase }, { on := 6, ground := Ground.phase }, { on := 7, ground := Ground.phase }, { on := 8, ground := Ground.phase }, { on := 9, ground := Ground.phase }, { on := 10, ground := Ground.phase }, { on := 11, ground := Ground.phase }, { on := 12, ground := Ground.phase }, { on := 13, ground := Ground.phase }, { on := 14, ground := Ground.phase }, { on := 15, ground := Ground.phase }, { on := 16, ground := Ground.phase }, { on := 17, ground := Ground.phase }, { on := 18, ground := Ground.phase }, { on := 19, ground := Ground.phase }, { on := 20, ground := Ground.phase }, { on := 21, ground := Ground.phase }, { on := 22, ground := Ground.phase }, { on := 23, ground := Ground.phase }, { on := 24, ground := Ground.phase }, { on := 25, ground := Ground.phase }, { on := 26, ground := Ground.phase }, { on := 27, ground := Ground.phase }, { on := 28, ground := Ground.phase }, { on := 29, ground := Ground.phase }, { on := 30, ground := Ground.phase }, { on := 31, ground := Ground.phase }, { on := 32, ground := Ground.phase }, { on := 33, ground := Ground.phase }, { on := 34, ground := Ground.phase }, { on := 35, ground := Ground.phase }, { on := 36, ground := Ground.phase }], guard := none }) (v := ?_) rfl (by kernel_rfl) (by kernel_rfl) (by kernel_rfl) (fun _ _ _ h => h) (Or.inl ⟨by rfl, ?_⟩) (by assumption) ?_; rotate_left; · ((intro w hSw; (try dsimp only at hSw); go_simp) <;> with_reducible rfl)
                try simp only [Act.put, List.setIfInBounds_toArray, List.set_cons_zero, List.set_cons_succ]
                refine wpAnyH_done (by kernel_rfl) ?_ _
                go_wp2_with fail
                go_ret
                exact ⟨rfl, bt bb b9x⟩
        · have hf1 : (f != 0) = true := bne_yes hf
          clear T1 T2
          go_wp2_with (first
            | (go_at_call 22; refine (Htu.out _).mono ?_; rintro e4 w4 ⟨rfl, b4⟩; unfold hv hdr)
            | (go_at_call 21; refine (hal.out _).mono ?_; rintro e3 w3 ⟨rfl, b5⟩))
          go_ret
          exact ⟨rfl, bt (bt (bt b03 b4) (b1alloc _ _)) b5⟩
set_option maxRecDepth 100000 in
theorem lifted (os : Os) (started : os.Started) (H : Type) (enc : TypeId × Value → H) :
    ReturnsInHanded {} Try.checked os 9 .any (Rows.policyFewSpec.pre6 enc Try.prog Try.f9 Rows.policyFewRow.domain false) (Rows.policyFewSpec.post enc Try.prog Try.f9 false true false false) := by
  refine returnsInHanded_of_change (C := Try.checked) own started (by kernel_rfl) Try.func9
    (ChangeSpec.witness6 (enc := enc) (C := Try.checked) false ⟨#[], #[.agg #[.int .i64 0, .int .i64 0], .agg #[.int .i64 0, .int .i64 0, .int .i64 0, .string ⟨#[]⟩]], []⟩ 8 (by kernel_rfl) (by kernel_rfl) (by kernel_rfl) (by kernel_rfl)) ?_
  intro W base args ds gs before hval0 hW hcnd _
  have hval : ∀ (j : Nat) t v, Try.f9.params[j]? = some t → args[j]? = some v → Value.okWide Try.prog W .any base t v := hval0
  have hW' := hW
  obtain ⟨p, q, hA0, hV, rfl, hfz, hnd⟩ := hW
  have hA : DataW.TrodAll enc Try.prog W 0 (fun _ => true) true Try.f9.params.toList args.toList ds p := hA0
  rw [Try.params9] at hA hval
  obtain ⟨v0, vs0, d0, ds0, p0, q0, hargs, rfl, rfl, h0, r0⟩ := trodAll_cons hA
  obtain ⟨v1, vs1, d1, ds1, p1, q1, rfl, rfl, rfl, h1, r1⟩ := trodAll_cons r0
  obtain ⟨rfl, rfl, rfl⟩ := trodAll_nil r1
  obtain rfl : args = #[v0, v1] := by cases args; simp_all
  obtain ⟨rfl, rfl⟩ := trodVars_none hV
  have k0 := h0
  have lt0 := places_lt k0
  obtain ⟨x0a, x0b, rfl, rr0a, rr0b⟩ := policy_of (hval 0 39 v0 rfl rfl) h0
  have k1 := h1
  have lt1 := places_lt k1
  obtain ⟨x1a, x1b, x1c, x1t, rfl, rr1a, rr1b, rr1c⟩ := header_of (hval 1 41 v1 rfl rfl) h1
  clear hA0 hval0
  refine (walk x0a x0b x1a x1b x1c x1t W rr0a rr0b rr1a rr1b rr1c).mono fun e W' ⟨he, bel⟩ => ?_
  subst he
  exact ⟨_, rfl, _, _, _, [], _, [], hW', trodAll_mk1 (shut_bool Try.underlying4 _), (trodAll_cons_mk (Below.trod laidOut (by kernel_rfl) (of_decide_eq_true (by kernel_rfl)) k0 bel lt0) (trodAll_cons_mk (Below.trod laidOut (by kernel_rfl) (of_decide_eq_true (by kernel_rfl)) k1 bel lt1) trodAll_mk0)), rfl, bel.frame _, fun h => by cases h⟩

theorem proved : Rows.PolicyFewSaid :=
  OpenClaim.holds_of_wide 9 Try.f9 rfl rfl rfl rfl rfl rfl rfl ⟨rfl, rfl, rfl, rfl, rfl⟩ rfl rfl rfl rfl rfl (by kernel_rfl) Try.func9 (by kernel_rfl)
    (of_decide_eq_true (by kernel_rfl)) (by unfold Func.isWrapper; first | (rw [if_pos (by decide +kernel)]; kernel_rfl) | (rw [if_neg (by decide +kernel)]; exact ⟨rfl, rfl⟩))
    (fun os started H enc _ => lifted os started H enc)
#print axioms proved
end Go.Proofs.Ytdkcdojcglmlbaa.PolicyFew
