/- NodeReads: for every input the law returns true: the node, and the leaf, of any bytes, or that they are none. No condition. -/
import Derived.Test.YtnfhlnkbkfgihaaDoorNodeReadsD
import Derived.Test.YtnfhlnkbkfgihaaDoorNodeReadsC
namespace Go.Proofs.YtnfhlnkbkfgihaaDoor.NodeReads
open Go.ChangeShapes Go.WideShapes Go.ChangeAt Go.RowKit Go.Joins
open Go.ChangeMaps (open_string shut_string)
open Go.Proofs.YtnfhlnkbkfgihaaDoor.Nod
open Go.Proofs.YtnfhlnkbkfgihaaDoor.Nam (nameB)
open Go.Proofs.YtnfhlnkbkfgihaaDoor.Utf (Tabs)
open Go.Proofs.YtnfhlnkbkfgihaaDoor.Geom (right lo hi right_yes)
set_option linter.unusedVariables false
set_option maxRecDepth 100000
theorem dl_ref (b : List UInt8) : dl b = refLeaf nameB b := by
  unfold dl
  by_cases h : b = []
  · subst h
    rw [if_pos rfl]
    have t1 : takeR ([] : List UInt8) = ([], []) := rfl
    unfold refLeaf
    rw [t1]
    simp only
    rw [t1, if_pos ⟨rfl, rfl⟩]
  · rw [if_neg h]; exact leaf_ref h
theorem all_repl (n : Nat) : (List.replicate n ([] : List UInt8)).all rowB = true := by
  rw [List.all_eq_true]; intro x hx; rw [List.eq_of_mem_replicate hx]; rfl
theorem some_repl (n : Nat) : someB (List.replicate n ([] : List UInt8)) = false := by
  unfold someB
  rw [List.any_eq_false]; intro x hx; rw [List.eq_of_mem_replicate hx]; simp
theorem dc_ref (n : Nat) (b : List UInt8) : dcR n b = refOf n b := by
  unfold dcR
  by_cases h : b = []
  · subst h
    rw [if_pos rfl]
    unfold refOf
    rw [takes_none n [] rfl, if_pos ⟨all_repl n, by unfold encB; rw [some_repl]; rfl⟩]
  · rw [if_neg h]; exact dec_ref h
theorem refOf_some {n : Nat} {b : List UInt8} {l : List (List UInt8)} (h : refOf n b = some l) : l.length = n ∧ ∀ x ∈ l, x.length ≤ 80 := by
  unfold refOf at h
  split at h
  · rename_i hh
    injection h with h
    subst h
    exact ⟨takes_len n b, fun x hx => row_len (List.all_eq_true.1 hh.1 x hx)⟩
  · cases h
theorem refLeaf_some {b s x : List UInt8} (h : refLeaf nameB b = some (s, x)) : x.length ≤ 398 := by
  unfold refLeaf at h
  split at h
  · rename_i hh
    injection h with h
    injection h with h1 h2
    have h3 := hh.1
    rw [h1, h2] at h3
    unfold leafB at h3
    split at h3
    · have := of_decide_eq_true h3; omega
    · simp only [Bool.and_eq_true, decide_eq_true_eq] at h3; omega
  · cases h
set_option maxHeartbeats 4000000 in
theorem walk (ga gd gl : Int) (A : Option Addr) (b : List UInt8) (c : Nat) (w : World) (ha0 : -9223372036854775808 ≤ ga) (ha1 : ga ≤ 9223372036854775807) (hd0 : -9223372036854775808 ≤ gd) (hd1 : gd ≤ 9223372036854775807) (hg0 : -9223372036854775808 ≤ gl) (hg1 : gl ≤ 9223372036854775807)
    (hr : Rd w w.heap.size A (b.map e8)) (hc : b.length ≤ c) (hcm : c ≤ maxLen) (hT : Tabs w) :
    Calls Tryd.prog 4 #[.agg #[.int .i64 ga, .int .i64 gd, .int .i64 gl], .slice A b.length c] w fun e w' => e = .returned (.bool true) ∧ Below w.heap.size w w' := by
  have FG := Blk.new w [.int .i64 ga, .int .i64 gd, .int .i64 gl] 23
  have z0 := FG.cell (k := 0) (by simp)
  have z1 := FG.cell (k := 1) (by simp)
  have z2 := FG.cell (k := 2) (by simp)
  simp only [List.getElem_cons_zero, List.getElem_cons_succ] at z0 z1 z2
  have HA := Lib.hid FG
  have bw := b1alloc w (.cells #[.int .i64 ga, .int .i64 gd, .int .i64 gl] 23)
  have hal := Lib.hid (fun W => alive_any W)
  have hcm' : b.length ≤ 9223372036854775807 := by unfold maxLen at hcm; omega
  clear FG
  by_cases h9 : 900 < b.length
  · have t0 : (900 : Int) < (b.length : Int) := by omega
    clear hr hT ha0 ha1 hd0 hd1 hg0 hg1 hc hcm h9
    go_enter Tryd.func4, Tryd.ntmps4
    go_wp2_with (first
      | (go_at_call 7; refine (hal.out _).mono ?_; rintro e w2 ⟨rfl, b2⟩))
    go_ret
    exact ⟨rfl, bt bw b2⟩
  have t0 : ¬ (900 : Int) < (b.length : Int) := by omega
  obtain ⟨q, hq⟩ : ∃ q, q = decide (b.length = 0) := ⟨_, rfl⟩
  have t1 : ((b.length : Int) == 0) = q := by rw [hq]; by_cases h : b.length = 0 <;> simp [h]
  have HE := Lib.hid (fun W => empty_any A b.length c W)
  rw [← hq] at HE
  have HDl := Lib.hid (fun W (hW : Below w.heap.size w W) => decleaf_any b A c W (hT.on hW) (hr.on hW) (by omega))
  rw [dl_ref] at HDl
  have HOl := Lib.hid (fun W (hW : Below w.heap.size w W) => ofleaf_any b A c W (hr.on hW) (by omega) hc hcm)
  have HRi := Lib.hid (fun W => Geom.rright_any ga gd gl W ha0 ha1 hd0 hd1 hg0 hg1)
  have HB := Lib.hid (show (lo ≤ ga ∧ ga ≤ hi) ∧ (lo ≤ gd ∧ gd ≤ hi) ∧ (lo ≤ gl ∧ gl ≤ hi) from ⟨⟨ha0, ha1⟩, ⟨hd0, hd1⟩, ⟨hg0, hg1⟩⟩)
  have HRd := Lib.hid hr
  have HC := Lib.hid (show b.length ≤ c ∧ c ≤ maxLen ∧ b.length ≤ 900 from ⟨hc, hcm, by omega⟩)
  clear hr hc hcm hT ha0 ha1 hd0 hd1 hg0 hg1 hq h9 hcm'
  cases hri : right ga gd gl with
  | false =>
    rw [hri] at HRi
    have HDn := Lib.hid (fun W => dec_bad ga gd gl A b.length c W HB.out.1.1 HB.out.1.2 HB.out.2.1.1 HB.out.2.1.2 HB.out.2.2.1 HB.out.2.2.2 hri)
    clear hri
    cases hlf : refLeaf nameB b with
    | none =>
      rw [hlf] at HDl HOl
      have HSa := Lib.hid (fun W => R1.same_any none none [] [] 0 0 0 0 W rfl rfl (Rd.nil _ _ _) (Rd.nil _ _ _) (by simp) (by simp))
      rw [R1.sameB_self] at HSa
      clear hlf
      go_enter Tryd.func4, Tryd.ntmps4
      go_wp2_with (first
            | (go_at_call 15; refine (HDn.out _).mono ?_; rintro e w3 ⟨rfl, b3⟩; have bb3 := bt bw b3)
            | (go_at_call 16; refine (HDl.out _ bb3).mono ?_; rintro e w4 ⟨rfl, b4⟩; have bb4 := bt bb3 b4)
            | (go_at_call 17; refine (HOl.out _ bb4).mono ?_; rintro e w5 ⟨rfl, b5⟩; have bb5 := bt bb4 b5)
            | (go_at_call 18; refine (HE.out _).mono ?_; rintro e w6 ⟨rfl, rfl⟩)
            | (go_at_call 11; refine (HSa.out _).mono ?_; rintro e w7 ⟨rfl, b7⟩; have bb7 := bt bb5 b7; clear z0 z1 z2; have F1 := HA.out.on (bt b3 (bt b4 (bt b5 b7))); have z0 := F1.cell (k := 0) (by simp); have z1 := F1.cell (k := 1) (by simp); have z2 := F1.cell (k := 2) (by simp); simp only [List.getElem_cons_zero, List.getElem_cons_succ] at z0 z1 z2; clear F1)
            | (go_at_call 19; refine (HRi.out _).mono ?_; rintro e w8 ⟨rfl, b8⟩; have bb8 := bt bb7 b8; have bbZ := bb8)
            | (go_at_call 7; refine (hal.out _).mono ?_; rintro e w12 ⟨rfl, b12⟩; have bbY := bt bbZ b12))
      go_ret
      exact ⟨rfl, bbY⟩
    | some t =>
      obtain ⟨s, x⟩ := t
      rw [hlf] at HDl HOl
      have hx4 := refLeaf_some hlf
      have HSa := Lib.hid (fun W A1 A2 c1 c2 (h1 : Rd W W.heap.size A1 (x.map e8)) (h2 : Rd W W.heap.size A2 (x.map e8)) => R1.same_any A1 A2 x x x.length x.length c1 c2 W rfl rfl h1 h2 (by omega) (by omega))
      rw [R1.sameB_self] at HSa
      obtain ⟨SB, hSB⟩ : ∃ S : ByteArray, S = ⟨s.toArray⟩ := ⟨_, rfl⟩
      unfold DlRet at HDl
      unfold OlRet at HOl
      simp only at HDl HOl
      rw [← hSB] at HDl HOl
      clear hlf hSB hx4
      go_enter Tryd.func4, Tryd.ntmps4
      go_wp2_with (first
            | (go_at_call 15; refine (HDn.out _).mono ?_; rintro e w3 ⟨rfl, b3⟩; have bb3 := bt bw b3)
            | (go_at_call 16; refine (HDl.out _ bb3).mono ?_; rintro e w4 ⟨A4, c4, rfl, h4, _, b4⟩; have bb4 := bt bb3 b4; have H4 := Lib.hid h4; clear h4)
            | (go_at_call 17; refine (HOl.out _ bb4).mono ?_; rintro e w5 ⟨A5, c5, rfl, h5, _, b5⟩; have bb5 := bt bb4 b5; have H5 := Lib.hid h5; have H4b := Lib.hid (H4.out.on b5); clear h5)
            | (go_at_call 18; refine (HE.out _).mono ?_; rintro e w6 ⟨rfl, rfl⟩)
            | (go_at_call 11; refine (HSa.out _ A4 A5 c4 c5 H4b.out H5.out).mono ?_; rintro e w7 ⟨rfl, b7⟩; have bb7 := bt bb5 b7; clear z0 z1 z2; have F1 := HA.out.on (bt b3 (bt b4 (bt b5 b7))); have z0 := F1.cell (k := 0) (by simp); have z1 := F1.cell (k := 1) (by simp); have z2 := F1.cell (k := 2) (by simp); simp only [List.getElem_cons_zero, List.getElem_cons_succ] at z0 z1 z2; clear F1)
            | (go_at_call 19; refine (HRi.out _).mono ?_; rintro e w8 ⟨rfl, b8⟩; have bb8 := bt bb7 b8; have bbZ := bb8)
            | (go_at_call 7; refine (hal.out _).mono ?_; rintro e w12 ⟨rfl, b12⟩; have bbY := bt bbZ b12))
      go_ret
      exact ⟨rfl, bbY⟩
  | true =>
    rw [hri] at HRi
    obtain ⟨n, rfl⟩ : ∃ n : Nat, ga = (n : Int) := ⟨ga.toNat, by have := right_yes hri; omega⟩
    have HDn := Lib.hid (fun W (hW : Below w.heap.size w W) => dec_any n gd gl b A c W HB.out.2.1.1 HB.out.2.1.2 HB.out.2.2.1 HB.out.2.2.2 hri (HRd.out.on hW) (by have := HC.out.2.2; omega))
    rw [dc_ref] at HDn
    have HOf := Lib.hid (fun W (hW : Below w.heap.size w W) => of_any n gd gl b A c W HB.out.2.1.1 HB.out.2.1.2 HB.out.2.2.1 HB.out.2.2.2 hri (HRd.out.on hW) (by have := HC.out.2.2; omega) HC.out.1 HC.out.2.1)
    have hn4 : n ≤ 4 := by have := right_yes hri; omega
    clear hri
    cases hdc : refOf n b with
    | none =>
      rw [hdc] at HDn HOf
      clear hdc
      cases hlf : refLeaf nameB b with
      | none =>
        rw [hlf] at HDl HOl
        have HSa := Lib.hid (fun W => R1.same_any none none [] [] 0 0 0 0 W rfl rfl (Rd.nil _ _ _) (Rd.nil _ _ _) (by simp) (by simp))
        rw [R1.sameB_self] at HSa
        clear hlf
        go_enter Tryd.func4, Tryd.ntmps4
        go_wp2_with (first
              | (go_at_call 15; refine (HDn.out _ bw).mono ?_; rintro e w3 ⟨rfl, b3⟩; have bb3 := bt bw b3)
              | (go_at_call 16; refine (HDl.out _ bb3).mono ?_; rintro e w4 ⟨rfl, b4⟩; have bb4 := bt bb3 b4)
              | (go_at_call 17; refine (HOl.out _ bb4).mono ?_; rintro e w5 ⟨rfl, b5⟩; have bb5 := bt bb4 b5)
              | (go_at_call 18; refine (HE.out _).mono ?_; rintro e w6 ⟨rfl, rfl⟩)
              | (go_at_call 11; refine (HSa.out _).mono ?_; rintro e w7 ⟨rfl, b7⟩; have bb7 := bt bb5 b7; clear z0 z1 z2; have F1 := HA.out.on (bt b3 (bt b4 (bt b5 b7))); have z0 := F1.cell (k := 0) (by simp); have z1 := F1.cell (k := 1) (by simp); have z2 := F1.cell (k := 2) (by simp); simp only [List.getElem_cons_zero, List.getElem_cons_succ] at z0 z1 z2; clear F1)
              | (go_at_call 19; refine (HRi.out _).mono ?_; rintro e w8 ⟨rfl, b8⟩; have bb8 := bt bb7 b8; clear z0 z1 z2; have F1 := HA.out.on (bt b3 (bt b4 (bt b5 (bt b7 b8)))); have z0 := F1.cell (k := 0) (by simp); have z1 := F1.cell (k := 1) (by simp); have z2 := F1.cell (k := 2) (by simp); simp only [List.getElem_cons_zero, List.getElem_cons_succ] at z0 z1 z2; clear F1)
              | (go_at_call 20; refine (HOf.out _ bb8).mono ?_; rintro e w10 ⟨rfl, b10⟩; have bbZ := bt bb8 b10)
              | (go_at_call 7; refine (hal.out _).mono ?_; rintro e w12 ⟨rfl, b12⟩; have bbY := bt bbZ b12))
        go_ret
        exact ⟨rfl, bbY⟩
      | some t =>
        obtain ⟨s, x⟩ := t
        rw [hlf] at HDl HOl
        have hx4 := refLeaf_some hlf
        have HSa := Lib.hid (fun W A1 A2 c1 c2 (h1 : Rd W W.heap.size A1 (x.map e8)) (h2 : Rd W W.heap.size A2 (x.map e8)) => R1.same_any A1 A2 x x x.length x.length c1 c2 W rfl rfl h1 h2 (by omega) (by omega))
        rw [R1.sameB_self] at HSa
        obtain ⟨SB, hSB⟩ : ∃ S : ByteArray, S = ⟨s.toArray⟩ := ⟨_, rfl⟩
        unfold DlRet at HDl
        unfold OlRet at HOl
        simp only at HDl HOl
        rw [← hSB] at HDl HOl
        clear hlf hSB hx4
        go_enter Tryd.func4, Tryd.ntmps4
        go_wp2_with (first
              | (go_at_call 15; refine (HDn.out _ bw).mono ?_; rintro e w3 ⟨rfl, b3⟩; have bb3 := bt bw b3)
              | (go_at_call 16; refine (HDl.out _ bb3).mono ?_; rintro e w4 ⟨A4, c4, rfl, h4, _, b4⟩; have bb4 := bt bb3 b4; have H4 := Lib.hid h4; clear h4)
              | (go_at_call 17; refine (HOl.out _ bb4).mono ?_; rintro e w5 ⟨A5, c5, rfl, h5, _, b5⟩; have bb5 := bt bb4 b5; have H5 := Lib.hid h5; have H4b := Lib.hid (H4.out.on b5); clear h5)
              | (go_at_call 18; refine (HE.out _).mono ?_; rintro e w6 ⟨rfl, rfl⟩)
              | (go_at_call 11; refine (HSa.out _ A4 A5 c4 c5 H4b.out H5.out).mono ?_; rintro e w7 ⟨rfl, b7⟩; have bb7 := bt bb5 b7; clear z0 z1 z2; have F1 := HA.out.on (bt b3 (bt b4 (bt b5 b7))); have z0 := F1.cell (k := 0) (by simp); have z1 := F1.cell (k := 1) (by simp); have z2 := F1.cell (k := 2) (by simp); simp only [List.getElem_cons_zero, List.getElem_cons_succ] at z0 z1 z2; clear F1)
              | (go_at_call 19; refine (HRi.out _).mono ?_; rintro e w8 ⟨rfl, b8⟩; have bb8 := bt bb7 b8; clear z0 z1 z2; have F1 := HA.out.on (bt b3 (bt b4 (bt b5 (bt b7 b8)))); have z0 := F1.cell (k := 0) (by simp); have z1 := F1.cell (k := 1) (by simp); have z2 := F1.cell (k := 2) (by simp); simp only [List.getElem_cons_zero, List.getElem_cons_succ] at z0 z1 z2; clear F1)
              | (go_at_call 20; refine (HOf.out _ bb8).mono ?_; rintro e w10 ⟨rfl, b10⟩; have bbZ := bt bb8 b10)
              | (go_at_call 7; refine (hal.out _).mono ?_; rintro e w12 ⟨rfl, b12⟩; have bbY := bt bbZ b12))
        go_ret
        exact ⟨rfl, bbY⟩
    | some rs =>
      rw [hdc] at HDn HOf
      obtain ⟨e1, e2⟩ := refOf_some hdc
      have HRw := Lib.hid (fun W A1 A2 c1 c2 (h1 : Rws W W.heap.size A1 rs) (h2 : Rws W W.heap.size A2 rs) => R20.rows_any A1 A2 rs rs rs.length rs.length c1 c2 W h1 h2 rfl rfl (by omega) (fun x hx => by have := e2 x hx; omega) (fun x hx => by have := e2 x hx; omega))
      rw [decide_eq_true (rfl : rs = rs)] at HRw
      clear hdc e1 e2
      cases hlf : refLeaf nameB b with
      | none =>
        rw [hlf] at HDl HOl
        have HSa := Lib.hid (fun W => R1.same_any none none [] [] 0 0 0 0 W rfl rfl (Rd.nil _ _ _) (Rd.nil _ _ _) (by simp) (by simp))
        rw [R1.sameB_self] at HSa
        clear hlf
        go_enter Tryd.func4, Tryd.ntmps4
        go_wp2_with (first
              | (go_at_call 15; refine (HDn.out _ bw).mono ?_; rintro e w3 ⟨A3, c3, rfl, h3, _, b3⟩; have bb3 := bt bw b3; have H3 := Lib.hid h3; clear h3)
              | (go_at_call 16; refine (HDl.out _ bb3).mono ?_; rintro e w4 ⟨rfl, b4⟩; have bb4 := bt bb3 b4)
              | (go_at_call 17; refine (HOl.out _ bb4).mono ?_; rintro e w5 ⟨rfl, b5⟩; have bb5 := bt bb4 b5)
              | (go_at_call 18; refine (HE.out _).mono ?_; rintro e w6 ⟨rfl, rfl⟩)
              | (go_at_call 11; refine (HSa.out _).mono ?_; rintro e w7 ⟨rfl, b7⟩; have bb7 := bt bb5 b7; clear z0 z1 z2; have F1 := HA.out.on (bt b3 (bt b4 (bt b5 b7))); have z0 := F1.cell (k := 0) (by simp); have z1 := F1.cell (k := 1) (by simp); have z2 := F1.cell (k := 2) (by simp); simp only [List.getElem_cons_zero, List.getElem_cons_succ] at z0 z1 z2; clear F1)
              | (go_at_call 19; refine (HRi.out _).mono ?_; rintro e w8 ⟨rfl, b8⟩; have bb8 := bt bb7 b8; clear z0 z1 z2; have F1 := HA.out.on (bt b3 (bt b4 (bt b5 (bt b7 b8)))); have z0 := F1.cell (k := 0) (by simp); have z1 := F1.cell (k := 1) (by simp); have z2 := F1.cell (k := 2) (by simp); simp only [List.getElem_cons_zero, List.getElem_cons_succ] at z0 z1 z2; clear F1)
              | (go_at_call 20; refine (HOf.out _ bb8).mono ?_; rintro e w10 ⟨A10, c10, rfl, h10, b10⟩; have bb10 := bt bb8 b10; have H10 := Lib.hid h10; have H3b := Lib.hid (H3.out.on (bt b4 (bt b5 (bt b7 (bt b8 b10))))); clear h10)
              | (go_at_call 21; refine (HRw.out _ A3 A10 c3 c10 H3b.out H10.out).mono ?_; rintro e w11 ⟨rfl, b11⟩; have bbZ := bt bb10 b11)
              | (go_at_call 7; refine (hal.out _).mono ?_; rintro e w12 ⟨rfl, b12⟩; have bbY := bt bbZ b12))
        go_ret
        exact ⟨rfl, bbY⟩
      | some t =>
        obtain ⟨s, x⟩ := t
        rw [hlf] at HDl HOl
        have hx4 := refLeaf_some hlf
        have HSa := Lib.hid (fun W A1 A2 c1 c2 (h1 : Rd W W.heap.size A1 (x.map e8)) (h2 : Rd W W.heap.size A2 (x.map e8)) => R1.same_any A1 A2 x x x.length x.length c1 c2 W rfl rfl h1 h2 (by omega) (by omega))
        rw [R1.sameB_self] at HSa
        obtain ⟨SB, hSB⟩ : ∃ S : ByteArray, S = ⟨s.toArray⟩ := ⟨_, rfl⟩
        unfold DlRet at HDl
        unfold OlRet at HOl
        simp only at HDl HOl
        rw [← hSB] at HDl HOl
        clear hlf hSB hx4
        go_enter Tryd.func4, Tryd.ntmps4
        go_wp2_with (first
              | (go_at_call 15; refine (HDn.out _ bw).mono ?_; rintro e w3 ⟨A3, c3, rfl, h3, _, b3⟩; have bb3 := bt bw b3; have H3 := Lib.hid h3; clear h3)
              | (go_at_call 16; refine (HDl.out _ bb3).mono ?_; rintro e w4 ⟨A4, c4, rfl, h4, _, b4⟩; have bb4 := bt bb3 b4; have H4 := Lib.hid h4; clear h4)
              | (go_at_call 17; refine (HOl.out _ bb4).mono ?_; rintro e w5 ⟨A5, c5, rfl, h5, _, b5⟩; have bb5 := bt bb4 b5; have H5 := Lib.hid h5; have H4b := Lib.hid (H4.out.on b5); clear h5)
              | (go_at_call 18; refine (HE.out _).mono ?_; rintro e w6 ⟨rfl, rfl⟩)
              | (go_at_call 11; refine (HSa.out _ A4 A5 c4 c5 H4b.out H5.out).mono ?_; rintro e w7 ⟨rfl, b7⟩; have bb7 := bt bb5 b7; clear z0 z1 z2; have F1 := HA.out.on (bt b3 (bt b4 (bt b5 b7))); have z0 := F1.cell (k := 0) (by simp); have z1 := F1.cell (k := 1) (by simp); have z2 := F1.cell (k := 2) (by simp); simp only [List.getElem_cons_zero, List.getElem_cons_succ] at z0 z1 z2; clear F1)
              | (go_at_call 19; refine (HRi.out _).mono ?_; rintro e w8 ⟨rfl, b8⟩; have bb8 := bt bb7 b8; clear z0 z1 z2; have F1 := HA.out.on (bt b3 (bt b4 (bt b5 (bt b7 b8)))); have z0 := F1.cell (k := 0) (by simp); have z1 := F1.cell (k := 1) (by simp); have z2 := F1.cell (k := 2) (by simp); simp only [List.getElem_cons_zero, List.getElem_cons_succ] at z0 z1 z2; clear F1)
              | (go_at_call 20; refine (HOf.out _ bb8).mono ?_; rintro e w10 ⟨A10, c10, rfl, h10, b10⟩; have bb10 := bt bb8 b10; have H10 := Lib.hid h10; have H3b := Lib.hid (H3.out.on (bt b4 (bt b5 (bt b7 (bt b8 b10))))); clear h10)
              | (go_at_call 21; refine (HRw.out _ A3 A10 c3 c10 H3b.out H10.out).mono ?_; rintro e w11 ⟨rfl, b11⟩; have bbZ := bt bb10 b11)
              | (go_at_call 7; refine (hal.out _).mono ?_; rintro e w12 ⟨rfl, b12⟩; have bbY := bt bbZ b12))
        go_ret
        exact ⟨rfl, bbY⟩
set_option maxRecDepth 100000 in
theorem contract (H : Type) (enc : TypeId × Value → H) (W : World) (base : Nat) (args : Array Value) (ds gs : List (DataW H)) (before : List MemPlace)
    (hval0 : ∀ (j : Nat) t v, Tryd.f4.params[j]? = some t → args[j]? = some v → Value.okWide Tryd.prog W .any base t v)
    (hW : DataW.Whole enc Tryd.prog Tryd.f4.params.toList Rows.nodeReadsSpec.vars false W args.toList ds gs before) (hL : laidMetH Tryd.prog Rows.nodeReadsRow.laid W) :
    Calls Tryd.prog 4 args W fun e W' => ∃ v, e = .returned v ∧ Rows.nodeReadsSpec.post enc Tryd.prog Tryd.f4 false true false false W args v W' := by
  have hk := Laid.tab hL
  have hval : ∀ (j : Nat) t v, Tryd.f4.params[j]? = some t → args[j]? = some v → Value.okWide Tryd.prog W .any base t v := hval0
  have hW' := hW
  obtain ⟨p, q, hA0, hV, rfl, hfz, hnd⟩ := hW
  have hA : DataW.TrodAll enc Tryd.prog W 0 (fun _ => true) true Tryd.f4.params.toList args.toList ds p := hA0
  rw [Tryd.params4] at hA hval
  obtain ⟨v0, vs0, d0, ds0, p0, q0, hargs, rfl, rfl, h0, r0⟩ := trodAll_cons hA
  obtain ⟨v1, vs1, d1, ds1, p1, q1, rfl, rfl, rfl, h1, r1⟩ := trodAll_cons r0
  obtain ⟨rfl, rfl, rfl⟩ := trodAll_nil r1
  obtain rfl : args = #[v0, v1] := by cases args; simp_all
  obtain ⟨rfl, rfl⟩ := trodVars_none hV
  have k0 := h0
  have lt0 := places_lt k0
  obtain ⟨c0a, c0b, c0c, y0a, y0b, y0c, m0, rfl, _, _, hy0a, hy0b, hy0c⟩ := open_agg3 Tryd.underlying23 (by kernel_rfl) (by kernel_rfl) (hval 0 23 v0 rfl rfl) h0
  obtain ⟨n0a, e0a, _, w0a⟩ := DataW.trod_int Tryd.underlying3 hy0a
  simp only [List.cons.injEq, and_true] at e0a
  subst e0a
  obtain ⟨n0b, e0b, _, w0b⟩ := DataW.trod_int Tryd.underlying3 hy0b
  simp only [List.cons.injEq, and_true] at e0b
  subst e0b
  obtain ⟨n0c, e0c, _, w0c⟩ := DataW.trod_int Tryd.underlying3 hy0c
  simp only [List.cons.injEq, and_true] at e0c
  subst e0c
  have k1 := h1
  have lt1 := places_lt k1
  obtain ⟨a1, len1, cap1, rfl⟩ := okWide_slice Tryd.underlying25 (hval 1 25 v1 rfl rfl)
  obtain ⟨fuel1, hf1⟩ := h1
  obtain ⟨l1, rfl, rr1, rc1, rm1⟩ := bytes_of rfl Tryd.underlying25 Tryd.underlying5 (by kernel_rfl) hf1
  clear hA0 hval0
  refine (walk n0a n0b n0c a1 l1 cap1 W (wfi w0a).1 (wfi w0a).2 (wfi w0b).1 (wfi w0b).2 (wfi w0c).1 (wfi w0c).2 rr1 rc1 rm1 hk).mono fun e W' ⟨he, bel⟩ => ?_
  subst he
  exact ⟨_, rfl, _, _, _, [], _, [], hW', trodAll_mk1 (shut_bool Tryd.underlying4 _), (trodAll_cons_mk (Below.trod laidOut (by kernel_rfl) (of_decide_eq_true (by kernel_rfl)) k0 bel lt0) (trodAll_cons_mk (Below.trod laidOut (by kernel_rfl) (of_decide_eq_true (by kernel_rfl)) k1 bel lt1) trodAll_mk0)), rfl, bel.frame _, fun h => by cases h⟩

theorem laid_met (os : Os) : laidMet Tryd.prog Rows.nodeReadsRow.laid ((Laid.laidWorld os).forCall (fun _ _ => 0) ⟨#[], #[.agg #[.int .i64 0, .int .i64 0, .int .i64 0], .slice none 0 0], []⟩).memory :=
  laidMet_of_run' 8 (by kernel_rfl) (by kernel_rfl)
set_option maxRecDepth 100000 in
theorem lifted (os : Os) (started : os.Started) (H : Type) (enc : TypeId × Value → H) (F : Stop.Interp) :
    ReturnsInHanded {} Tryd.checked os 4 .any ((OpenSpec.ofChange Rows.nodeReadsSpec).preRow enc Tryd.prog Tryd.f4 Rows.nodeReadsRow.domain false Rows.nodeReadsRow.laid) (((OpenSpec.ofChange Rows.nodeReadsSpec).at F).post enc Tryd.prog Tryd.f4 false true false false) := by
  obtain ⟨x, hx⟩ := Option.isSome_iff_exists.1 (show (DataW.whole enc Tryd.prog ((Laid.laidWorld os).forCall (fun _ _ => 0) ⟨#[], #[.agg #[.int .i64 0, .int .i64 0, .int .i64 0], .slice none 0 0], []⟩).memory Tryd.f4.params.toList Rows.nodeReadsSpec.vars false (#[.agg #[.int .i64 0, .int .i64 0, .int .i64 0], .slice none 0 0] : Array Value).toList 8).isSome = true by kernel_rfl)
  refine returnsInHanded_of_row (C := Tryd.checked) (s := OpenSpec.ofChange Rows.nodeReadsSpec) own started (by kernel_rfl) Tryd.func4
    (witness_row_at (enc := enc) (C := Tryd.checked) false (Laid.laidWorld os) #[.agg #[.int .i64 0, .int .i64 0, .int .i64 0], .slice none 0 0] rfl (by kernel_rfl) (by kernel_rfl) (by kernel_rfl)
      (OpenSpec.preRow_of_cond 8 hx (by rfl) (fun k hk => by cases hk) (by kernel_rfl) (laid_met os))) ?_
  intro W base args ds gs before hval hW _ _ _ hL _ _
  exact contract H enc W base args ds gs before hval hW hL
theorem said : Rows.NodeReadsSaid :=
  OpenClaim.holds_of_cond 4 Tryd.f4 rfl rfl rfl rfl rfl rfl rfl ⟨rfl, rfl, rfl, rfl, rfl⟩ rfl rfl rfl rfl rfl (by kernel_rfl) Tryd.func4 (by kernel_rfl)
    (of_decide_eq_true (by kernel_rfl)) (by unfold Func.isWrapper; first | (rw [if_pos (by decide +kernel)]; kernel_rfl) | (rw [if_neg (by decide +kernel)]; exact ⟨rfl, rfl⟩))
    (fun os started H enc _ F => by rw [OpenClaim.pre_eq_preRow]; exact lifted os started H enc F)
theorem plain (f : FuncId) (fn : Func) (hf : Tryd.pinned.checked.prog.funcNamed "oubliette/oubliettelaw28.NodeReads" = some f) (hfn : Tryd.pinned.checked.prog.funcs[f]? = some fn) :
    true = Tryd.pinned.checked.prog.looks [] ∧ ∀ (j : Nat) t, fn.params[j]? = some t → Tryd.pinned.checked.prog.wantsStandIn t = false := by
  obtain rfl : f = 4 := Option.some.inj ((show Tryd.prog.funcNamed "oubliette/oubliettelaw28.NodeReads" = some 4 by kernel_rfl).symm.trans hf) |>.symm
  obtain rfl : fn = Tryd.f4 := (Option.some.inj (Tryd.func4.symm.trans hfn)).symm
  refine ⟨by kernel_rfl, fun j t ht => ?_⟩
  rw [Tryd.params4] at ht
  have hm : t ∈ ([23, 25] : List TypeId) := by have := Array.mem_of_getElem? ht; simp at this; first | (subst this; simp; done) | (rcases this with h | h <;> (simp [h]; done)) | (rcases this with h | h | h <;> (simp [h]; done)) | (rcases this with h | h | h | h <;> (simp [h]; done)) | (rcases this with h | h | h | h | h <;> (simp [h]; done))
  have hall : (([23, 25] : List TypeId).all fun u => !Tryd.prog.wantsStandIn u) = true := by kernel_rfl
  exact (show Tryd.prog.wantsStandIn t = false by simpa using List.all_eq_true.1 hall t hm)
theorem proved : Rows.NodeReadsCardSaid :=
  Claim7.holds_tied_plain_at .later [] _ _ _ _ said (fun _ h => by cases h) (by kernel_rfl) (fun _ h => by cases h) nodeReads_row_tie rfl ⟨rfl, rfl⟩ (by kernel_rfl) rfl plain (by kernel_rfl)
#print axioms proved
end Go.Proofs.YtnfhlnkbkfgihaaDoor.NodeReads
