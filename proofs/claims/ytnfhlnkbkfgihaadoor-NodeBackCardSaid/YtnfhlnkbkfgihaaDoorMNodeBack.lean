/- NodeBack: for every input the law returns true: a node, and a leaf, are read as they were, and fit. No condition. -/
import Derived.Test.YtnfhlnkbkfgihaaDoorNodeBackD
import Derived.Test.YtnfhlnkbkfgihaaDoorNodeBackC
namespace Go.Proofs.YtnfhlnkbkfgihaaDoor.NodeBack
open Go.ChangeShapes Go.WideShapes Go.ChangeAt Go.RowKit Go.Joins
open Go.ChangeMaps (open_string shut_string)
open Go.Proofs.YtnfhlnkbkfgihaaDoor.Nod
open Go.Proofs.YtnfhlnkbkfgihaaDoor.Nam (nameB name_short)
open Go.Proofs.YtnfhlnkbkfgihaaDoor.Utf (Tabs)
open Go.Proofs.YtnfhlnkbkfgihaaDoor.Geom (right lo hi right_yes)
set_option linter.unusedVariables false
set_option maxRecDepth 100000
theorem node_back {ga gd gl : Int} {l : List (List UInt8)} (h : okB ga gd gl l = true) : ∃ n : Nat, ga = (n : Int) ∧ right (n : Int) gd gl = true ∧ n = l.length ∧ n ≤ 4 ∧ dcR n (encB l) = some l ∧ (encB l).length ≤ 328 := by
  unfold okB at h
  simp only [Bool.and_eq_true, decide_eq_true_eq] at h
  obtain ⟨h1, h2, h3⟩ := h
  have h4 := right_yes h1
  have hn : l.length ≤ 4 := by omega
  have hl := encB_len h3
  refine ⟨l.length, h2.symm, by rw [h2]; exact h1, rfl, hn, ?_, by omega⟩
  unfold dcR
  cases hs : someB l with
  | true =>
    have hd := dec_enc h3 hs
    have hne : encB l ≠ [] := fun e => by
      rw [e] at hd
      unfold dec at hd
      cases l with
      | nil => cases hs
      | cons a l => 
        have hx : decL (a :: l).length [] 0 = if rowB (Nod.step 80 [] 0).1 = true then (decL l.length (Nod.step 80 [] 0).2.1 (Nod.step 80 [] 0).2.2).map (fun t => ((Nod.step 80 [] 0).1 :: t.1, t.2)) else none := rfl
        have hi := decL_idle l.length [] 4
        rw [hx, step_no (show rdF 80 [] = none from rfl)] at hd
        simp only at hd
        rw [if_pos (show rowB [] = true from rfl)] at hd
        cases hq : decL l.length [] 4 with
        | none => rw [hq] at hd; cases hd
        | some t =>
          rw [hq] at hd
          have h9 := hi t (by decide) hq
          obtain ⟨rs, r, f⟩ := t
          simp only [Option.map_some] at hd
          rw [if_neg (fun hh => by
            have h8 := hh.1
            unfold endF at h8
            split at h8
            · cases h8
            · exact h9 h8)] at hd
          cases hd
    rw [if_neg hne]
    exact hd
  | false =>
    have he : encB l = [] := by unfold encB; rw [hs]; rfl
    rw [he, if_pos rfl]
    exact congrArg some (empty_rows hs).symm
theorem leaf_read {s x : List UInt8} (h : leafB nameB s x = true) : dl (leafE s x) = some (s, x) ∧ (leafE s x).length ≤ 473 := by
  by_cases h0 : s = []
  · subst h0
    have hx : x = [] := by
      rw [leafB, if_pos rfl] at h
      exact List.eq_nil_of_length_eq_zero (of_decide_eq_true h)
    subst hx
    exact ⟨rfl, by simp [leafE]⟩
  · have hn := h
    rw [leafB, if_neg h0] at hn
    simp only [Bool.and_eq_true, decide_eq_true_eq] at hn
    have hsl := name_short hn.1
    have hne : leafE s x ≠ [] := fun e => by
      rw [leafE, if_neg h0] at e
      have := congrArg List.length e
      rw [List.length_append, fld_len] at this
      simp at this
    refine ⟨by unfold dl; rw [if_neg hne]; exact leaf_back h0 (by omega) h, ?_⟩
    rw [leafE, if_neg h0, List.length_append, fld_len, fld_len]
    omega
set_option maxHeartbeats 4000000 in
theorem walk (ga gd gl : Int) (A : Option Addr) (l : List (List UInt8)) (c : Nat) (s : List UInt8) (B : Option Addr) (x : List UInt8) (d : Nat) (w : World) (ha0 : -9223372036854775808 ≤ ga) (ha1 : ga ≤ 9223372036854775807) (hd0 : -9223372036854775808 ≤ gd) (hd1 : gd ≤ 9223372036854775807) (hg0 : -9223372036854775808 ≤ gl) (hg1 : gl ≤ 9223372036854775807)
    (hr : Rws w w.heap.size A l) (hc : l.length ≤ c) (hcm : c ≤ maxLen) (hx : Rd w w.heap.size B (x.map e8)) (hxc : x.length ≤ d) (hxm : d ≤ maxLen) (hT : Tabs w) :
    Calls Tryd.prog 5 #[.agg #[.int .i64 ga, .int .i64 gd, .int .i64 gl], .slice A l.length c, .string ⟨s.toArray⟩, .slice B x.length d] w fun e w' => e = .returned (.bool true) ∧ Below w.heap.size w w' := by
  have FG := Blk.new w [.int .i64 ga, .int .i64 gd, .int .i64 gl] 23
  have z0 := FG.cell (k := 0) (by simp)
  have z1 := FG.cell (k := 1) (by simp)
  have z2 := FG.cell (k := 2) (by simp)
  simp only [List.getElem_cons_zero, List.getElem_cons_succ] at z0 z1 z2
  have HA := Lib.hid FG
  have bw := b1alloc w (.cells #[.int .i64 ga, .int .i64 gd, .int .i64 gl] 23)
  have hal := Lib.hid (fun W => alive_any W)
  have hsz : (⟨s.toArray⟩ : ByteArray).size = s.length := Utf.ba_size s
  have HLi := Lib.hid (fun W (hW : Below w.heap.size w W) => light_any A l c W (hr.on hW) (Nat.le_trans hc hcm))
  have hxm' : x.length ≤ 9223372036854775807 := by unfold maxLen at hxm; omega
  clear FG
  cases hlb : lightB l with
  | false =>
    rw [hlb] at HLi
    obtain ⟨S, hS⟩ : ∃ S : ByteArray, S = ⟨s.toArray⟩ := ⟨_, rfl⟩
    rw [← hS] at hsz ⊢
    have hrr := Lib.hid hr
    clear hS hr hx hT hlb ha0 ha1 hd0 hd1 hg0 hg1 hc hcm hxm
    go_enter Tryd.func5, Tryd.ntmps5
    go_wp2_with (first
      | (go_at_call 6; refine (HLi.out _ bw).mono ?_; rintro e w1 ⟨rfl, rfl⟩)
      | (go_at_call 7; refine (hal.out _).mono ?_; rintro e w2 ⟨rfl, b2⟩))
    go_ret
    exact ⟨rfl, bt bw b2⟩
  | true =>
  rw [hlb] at HLi
  by_cases hs3 : 300 < s.length
  · obtain ⟨S, hS⟩ : ∃ S : ByteArray, S = ⟨s.toArray⟩ := ⟨_, rfl⟩
    rw [← hS] at hsz ⊢
    have hI : (300 : Int) < (s.length : Int) := by omega
    clear hS hr hx hT hlb ha0 ha1 hd0 hd1 hg0 hg1 hc hcm hxm
    go_enter Tryd.func5, Tryd.ntmps5
    go_wp2_with (first
      | (go_at_call 6; refine (HLi.out _ bw).mono ?_; rintro e w1 ⟨rfl, rfl⟩)
      | (go_at_call 7; refine (hal.out _).mono ?_; rintro e w2 ⟨rfl, b2⟩))
    go_ret
    exact ⟨rfl, bt bw b2⟩
  have hI : ¬ (300 : Int) < (s.length : Int) := by omega
  by_cases hx6 : 600 < x.length
  · obtain ⟨S, hS⟩ : ∃ S : ByteArray, S = ⟨s.toArray⟩ := ⟨_, rfl⟩
    rw [← hS] at hsz ⊢
    have hJ : (600 : Int) < (x.length : Int) := by omega
    clear hS hr hx hT hlb ha0 ha1 hd0 hd1 hg0 hg1 hc hcm hxm hs3
    go_enter Tryd.func5, Tryd.ntmps5
    go_wp2_with (first
      | (go_at_call 6; refine (HLi.out _ bw).mono ?_; rintro e w1 ⟨rfl, rfl⟩)
      | (go_at_call 7; refine (hal.out _).mono ?_; rintro e w2 ⟨rfl, b2⟩))
    go_ret
    exact ⟨rfl, bt bw b2⟩
  have hJ : ¬ (600 : Int) < (x.length : Int) := by omega
  have hlb2 := hlb
  simp only [lightB, Bool.and_eq_true, decide_eq_true_eq, List.all_eq_true] at hlb2
  obtain ⟨hl20, hl6⟩ := hlb2
  have hl6' : ∀ b ∈ l, b.length ≤ 60000 := fun b hb => by have := hl6 b hb; omega
  have HEn := Lib.hid (fun W (hW : Below w.heap.size w W) => nenc_any ga gd gl A l c W ha0 ha1 hd0 hd1 hg0 hg1 (hr.on hW) (by omega) hl6')
  have HEl := Lib.hid (fun W (hW : Below w.heap.size w W) => encleaf_any s x B d W (hT.on hW) (hx.on hW) (by omega) (by omega) hxc)
  have HRw := Lib.hid (fun W C c2 (hW : Below w.heap.size w W) (hC : Rws W W.heap.size C l) => R20.rows_any C A l l l.length l.length c2 c W hC (hr.on hW) rfl rfl (by omega) (fun b hb => by have := hl6 b hb; omega) (fun b hb => by have := hl6 b hb; omega))
  have HSa := Lib.hid (fun W C c2 (hW : Below w.heap.size w W) (hC : Rd W W.heap.size C (x.map e8)) => R1.same_any C B x x x.length x.length c2 d W rfl rfl hC (hx.on hW) (by omega) (by omega))
  rw [decide_eq_true (rfl : l = l)] at HRw
  rw [R1.sameB_self x] at HSa
  have HDl := Lib.hid (fun (b : List UInt8) W (A5 : Option Addr) (c5 : Nat) (hW : Below w.heap.size w W) (hA : Rd W W.heap.size A5 (b.map e8)) (hb : b.length ≤ 2000) => decleaf_any b A5 c5 W (hT.on hW) hA hb)
  have HTT := Lib.hid hT
  have HD := Lib.hid (fun (n : Nat) (b : List UInt8) (hq : right (n : Int) gd gl = true) W (A5 : Option Addr) (c5 : Nat) (hA : Rd W W.heap.size A5 (b.map e8)) (hb : b.length ≤ 2000) => dec_any n gd gl b A5 c5 W hd0 hd1 hg0 hg1 hq hA hb)
  obtain ⟨SB, hSB⟩ : ∃ S : ByteArray, S = ⟨s.toArray⟩ := ⟨_, rfl⟩
  clear hr hx hT hlb ha0 ha1 hd0 hd1 hg0 hg1 hc hcm hxm hs3 hx6 hl20 hl6 hl6'
  cases hok : okB ga gd gl l with
  | false =>
    have HE2 := Lib.hid (show encV ga gd gl l = [] ∧ encF ga gd gl l = 2 by unfold encV encF; rw [hok]; exact ⟨rfl, rfl⟩)
    rw [HE2.out.1, HE2.out.2] at HEn
    clear hok HE2
    cases hlf : leafB nameB s x with
    | false =>
      have HE3 := Lib.hid (show elV s x = [] ∧ elF s x = 2 by unfold elV elF; rw [hlf]; exact ⟨rfl, rfl⟩)
      rw [HE3.out.1, HE3.out.2] at HEl
      rw [← hSB] at hsz HEl ⊢
      clear hSB hlf HE3
      go_enter Tryd.func5, Tryd.ntmps5
      go_wp2_with (first
        | (go_at_call 6; refine (HLi.out _ bw).mono ?_; rintro e w1 ⟨rfl, rfl⟩)
        | (go_at_call 8; refine (HEn.out _ bw).mono ?_; rintro e w2 ⟨A2, c2, rfl, h2, b2⟩; have bb2 := bt bw b2; have H2 := Lib.hid h2; clear h2; clear z0 z1 z2; have F1 := HA.out.on b2; have z0 := F1.cell (k := 0) (by simp); have z1 := F1.cell (k := 1) (by simp); have z2 := F1.cell (k := 2) (by simp); simp only [List.getElem_cons_zero, List.getElem_cons_succ] at z0 z1 z2; clear F1)
        | (go_at_call 9; refine (HEl.out _ bb2).mono ?_; rintro e w5 ⟨A5, c5, rfl, h5, b5⟩; have bb5 := bt bb2 b5; have H5 := Lib.hid h5; clear h5)
        | (go_at_call 7; refine (hal.out _).mono ?_; rintro e w8 ⟨rfl, b8⟩; have bb8 := bt bb5 b8))
      go_ret
      exact ⟨rfl, bb8⟩
    | true =>
      have HE3 := Lib.hid (show elV s x = leafE s x ∧ elF s x = 0 by unfold elV elF; rw [hlf]; exact ⟨rfl, rfl⟩)
      rw [HE3.out.1, HE3.out.2] at HEl
      obtain ⟨q1, q2⟩ := leaf_read hlf
      obtain ⟨V, hV⟩ : ∃ V, V = leafE s x := ⟨_, rfl⟩
      rw [← hV] at q1 q2 HEl
      have HDL := Lib.hid (fun W A5 c5 hW hA => HDl.out V W A5 c5 hW hA (by omega))
      rw [q1] at HDL
      have HDM := Lib.hid (show ∀ (W : World) (A5 : Option Addr) (c5 : Nat), Below w.heap.size w W → Rd W W.heap.size A5 (V.map e8) → Calls Tryd.prog 16 #[.slice A5 V.length c5] W fun e w' => ∃ A c, e = .returned (.tuple #[.string SB, .slice A x.length c, .int .i64 0]) ∧ Rd w' w'.heap.size A (x.map e8) ∧ x.length ≤ c ∧ Below W.heap.size W w' from fun W A5 c5 hW hA => (HDL.out W A5 c5 hW hA).mono fun e w' h => by rw [hSB]; exact h)
      rw [← hSB] at hsz HEl ⊢
      have q3 : ¬ (473 : Int) < (V.length : Int) := by omega
      clear hSB hlf HE3 HDL HDl hV q1 q2
      go_enter Tryd.func5, Tryd.ntmps5
      go_wp2_with (first
        | (go_at_call 6; refine (HLi.out _ bw).mono ?_; rintro e w1 ⟨rfl, rfl⟩)
        | (go_at_call 8; refine (HEn.out _ bw).mono ?_; rintro e w2 ⟨A2, c2, rfl, h2, b2⟩; have bb2 := bt bw b2; have H2 := Lib.hid h2; clear h2; clear z0 z1 z2; have F1 := HA.out.on b2; have z0 := F1.cell (k := 0) (by simp); have z1 := F1.cell (k := 1) (by simp); have z2 := F1.cell (k := 2) (by simp); simp only [List.getElem_cons_zero, List.getElem_cons_succ] at z0 z1 z2; clear F1)
        | (go_at_call 9; refine (HEl.out _ bb2).mono ?_; rintro e w5 ⟨A5, c5, rfl, h5, b5⟩; have bb5 := bt bb2 b5; have H5 := Lib.hid h5; clear h5)
        | (go_at_call 16; refine (HDM.out _ A5 c5 bb5 (Rd.own H5.out)).mono ?_; rintro e w6 ⟨A6, c6, rfl, h6, _, b6⟩; have bb6 := bt bb5 b6; have H6 := Lib.hid h6; clear h6)
        | (go_at_call 11; refine (HSa.out _ A6 c6 bb6 H6.out).mono ?_; rintro e w7 ⟨rfl, b7⟩; have bb7 := bt bb6 b7)
        | (go_at_call 7; refine (hal.out _).mono ?_; rintro e w8 ⟨rfl, b8⟩; have bb8 := bt bb7 b8))
      go_ret
      exact ⟨rfl, bb8⟩
  | true =>
    obtain ⟨n, rfl, g1, g2, g3, g4, g5⟩ := node_back hok
    have HE2 := Lib.hid (show encV (n : Int) gd gl l = encB l ∧ encF (n : Int) gd gl l = 0 by unfold encV encF; rw [hok]; exact ⟨rfl, rfl⟩)
    rw [HE2.out.1, HE2.out.2] at HEn
    obtain ⟨U, hU⟩ : ∃ U, U = encB l := ⟨_, rfl⟩
    rw [← hU] at g4 g5 HEn
    have HDN := Lib.hid (fun W A5 c5 hA => HD.out n U g1 W A5 c5 hA (by omega))
    rw [g4] at HDN
    have g6 : ¬ (473 : Int) < (U.length : Int) := by omega
    clear hok HE2 hU g1 g2 g3 g4 g5 HD
    cases hlf : leafB nameB s x with
    | false =>
      have HE3 := Lib.hid (show elV s x = [] ∧ elF s x = 2 by unfold elV elF; rw [hlf]; exact ⟨rfl, rfl⟩)
      rw [HE3.out.1, HE3.out.2] at HEl
      rw [← hSB] at hsz HEl ⊢
      clear hSB hlf HE3
      go_enter Tryd.func5, Tryd.ntmps5
      go_wp2_with (first
        | (go_at_call 6; refine (HLi.out _ bw).mono ?_; rintro e w1 ⟨rfl, rfl⟩)
        | (go_at_call 8; refine (HEn.out _ bw).mono ?_; rintro e w2 ⟨A2, c2, rfl, h2, b2⟩; have bb2 := bt bw b2; have H2 := Lib.hid h2; clear h2; clear z0 z1 z2; have F1 := HA.out.on b2; have z0 := F1.cell (k := 0) (by simp); have z1 := F1.cell (k := 1) (by simp); have z2 := F1.cell (k := 2) (by simp); simp only [List.getElem_cons_zero, List.getElem_cons_succ] at z0 z1 z2; clear F1)
        | (go_at_call 15; refine (HDN.out _ A2 c2 (Rd.own H2.out)).mono ?_; rintro e w3 ⟨A3, c3, rfl, h3, _, b3⟩; have bb3 := bt bb2 b3; have H3 := Lib.hid h3; clear h3)
        | (go_at_call 21; refine (HRw.out _ A3 c3 bb3 H3.out).mono ?_; rintro e w4 ⟨rfl, b4⟩; have bb4 := bt bb3 b4)
        | (go_at_call 9; refine (HEl.out _ bb4).mono ?_; rintro e w5 ⟨A5, c5, rfl, h5, b5⟩; have bb5 := bt bb4 b5; have H5 := Lib.hid h5; clear h5)
        | (go_at_call 7; refine (hal.out _).mono ?_; rintro e w8 ⟨rfl, b8⟩; have bb8 := bt bb5 b8))
      go_ret
      exact ⟨rfl, bb8⟩
    | true =>
      have HE3 := Lib.hid (show elV s x = leafE s x ∧ elF s x = 0 by unfold elV elF; rw [hlf]; exact ⟨rfl, rfl⟩)
      rw [HE3.out.1, HE3.out.2] at HEl
      obtain ⟨q1, q2⟩ := leaf_read hlf
      obtain ⟨V, hV⟩ : ∃ V, V = leafE s x := ⟨_, rfl⟩
      rw [← hV] at q1 q2 HEl
      have HDL := Lib.hid (fun W A5 c5 hW hA => HDl.out V W A5 c5 hW hA (by omega))
      rw [q1] at HDL
      have HDM := Lib.hid (show ∀ (W : World) (A5 : Option Addr) (c5 : Nat), Below w.heap.size w W → Rd W W.heap.size A5 (V.map e8) → Calls Tryd.prog 16 #[.slice A5 V.length c5] W fun e w' => ∃ A c, e = .returned (.tuple #[.string SB, .slice A x.length c, .int .i64 0]) ∧ Rd w' w'.heap.size A (x.map e8) ∧ x.length ≤ c ∧ Below W.heap.size W w' from fun W A5 c5 hW hA => (HDL.out W A5 c5 hW hA).mono fun e w' h => by rw [hSB]; exact h)
      rw [← hSB] at hsz HEl ⊢
      have q3 : ¬ (473 : Int) < (V.length : Int) := by omega
      clear hSB hlf HE3 HDL HDl hV q1 q2
      go_enter Tryd.func5, Tryd.ntmps5
      go_wp2_with (first
        | (go_at_call 6; refine (HLi.out _ bw).mono ?_; rintro e w1 ⟨rfl, rfl⟩)
        | (go_at_call 8; refine (HEn.out _ bw).mono ?_; rintro e w2 ⟨A2, c2, rfl, h2, b2⟩; have bb2 := bt bw b2; have H2 := Lib.hid h2; clear h2; clear z0 z1 z2; have F1 := HA.out.on b2; have z0 := F1.cell (k := 0) (by simp); have z1 := F1.cell (k := 1) (by simp); have z2 := F1.cell (k := 2) (by simp); simp only [List.getElem_cons_zero, List.getElem_cons_succ] at z0 z1 z2; clear F1)
        | (go_at_call 15; refine (HDN.out _ A2 c2 (Rd.own H2.out)).mono ?_; rintro e w3 ⟨A3, c3, rfl, h3, _, b3⟩; have bb3 := bt bb2 b3; have H3 := Lib.hid h3; clear h3)
        | (go_at_call 21; refine (HRw.out _ A3 c3 bb3 H3.out).mono ?_; rintro e w4 ⟨rfl, b4⟩; have bb4 := bt bb3 b4)
        | (go_at_call 9; refine (HEl.out _ bb4).mono ?_; rintro e w5 ⟨A5, c5, rfl, h5, b5⟩; have bb5 := bt bb4 b5; have H5 := Lib.hid h5; clear h5)
        | (go_at_call 16; refine (HDM.out _ A5 c5 bb5 (Rd.own H5.out)).mono ?_; rintro e w6 ⟨A6, c6, rfl, h6, _, b6⟩; have bb6 := bt bb5 b6; have H6 := Lib.hid h6; clear h6)
        | (go_at_call 11; refine (HSa.out _ A6 c6 bb6 H6.out).mono ?_; rintro e w7 ⟨rfl, b7⟩; have bb7 := bt bb6 b7)
        | (go_at_call 7; refine (hal.out _).mono ?_; rintro e w8 ⟨rfl, b8⟩; have bb8 := bt bb7 b8))
      go_ret
      exact ⟨rfl, bb8⟩
set_option maxRecDepth 100000 in
theorem contract (H : Type) (enc : TypeId × Value → H) (W : World) (base : Nat) (args : Array Value) (ds gs : List (DataW H)) (before : List MemPlace)
    (hval0 : ∀ (j : Nat) t v, Tryd.f5.params[j]? = some t → args[j]? = some v → Value.okWide Tryd.prog W .any base t v)
    (hW : DataW.Whole enc Tryd.prog Tryd.f5.params.toList Rows.nodeBackSpec.vars false W args.toList ds gs before) (hL : laidMetH Tryd.prog Rows.nodeBackRow.laid W) :
    Calls Tryd.prog 5 args W fun e W' => ∃ v, e = .returned v ∧ Rows.nodeBackSpec.post enc Tryd.prog Tryd.f5 false true false false W args v W' := by
  have hk := Laid.tab hL
  have hval : ∀ (j : Nat) t v, Tryd.f5.params[j]? = some t → args[j]? = some v → Value.okWide Tryd.prog W .any base t v := hval0
  have hW' := hW
  obtain ⟨p, q, hA0, hV, rfl, hfz, hnd⟩ := hW
  have hA : DataW.TrodAll enc Tryd.prog W 0 (fun _ => true) true Tryd.f5.params.toList args.toList ds p := hA0
  rw [Tryd.params5] at hA hval
  obtain ⟨v0, vs0, d0, ds0, p0, q0, hargs, rfl, rfl, h0, r0⟩ := trodAll_cons hA
  obtain ⟨v1, vs1, d1, ds1, p1, q1, rfl, rfl, rfl, h1, r1⟩ := trodAll_cons r0
  obtain ⟨v2, vs2, d2, ds2, p2, q2, rfl, rfl, rfl, h2, r2⟩ := trodAll_cons r1
  obtain ⟨v3, vs3, d3, ds3, p3, q3, rfl, rfl, rfl, h3, r3⟩ := trodAll_cons r2
  obtain ⟨rfl, rfl, rfl⟩ := trodAll_nil r3
  obtain rfl : args = #[v0, v1, v2, v3] := by cases args; simp_all
  obtain ⟨rfl, rfl⟩ := trodVars_none hV
  have k0 := h0
  have lt0 := places_lt k0
  obtain ⟨c0a, c0b, c0c, y0a, y0b, y0c, m0, rfl, _, _, hy0a, hy0b, hy0c⟩ := open_agg3 Tryd.underlying23 (by kernel_rfl) (by kernel_rfl) (hval 0 23 v0 rfl rfl) h0
  obtain ⟨n0a, e0a, _, w0a⟩ := DataW.trod_int Tryd.underlying3 hy0a
  simp only [List.cons.injEq, and_true] at e0a
  subst e0a
  obtain ⟨n0b, e0b, _, w0b⟩ := DataW.trod_int Tryd.underlying3 hy0b
  simp only [List.cons.injEq, and_true] at e0b
  subst e0b
  obtain ⟨n0c, e0c, _, w0c⟩ := DataW.trod_int Tryd.underlying3 hy0c
  simp only [List.cons.injEq, and_true] at e0c
  subst e0c
  have k1 := h1
  have lt1 := places_lt k1
  obtain ⟨a1, len1, cap1, rfl⟩ := okWide_slice Tryd.underlying24 (hval 1 24 v1 rfl rfl)
  obtain ⟨fuel1, hf1⟩ := h1
  obtain ⟨l1, rfl, rr1, rc1, rm1⟩ := rows_of hf1
  have k2 := h2
  have lt2 := places_lt k2
  obtain ⟨s2, rfl, _, _, ws2⟩ := open_string Tryd.underlying9 (hval 2 9 v2 rfl rfl) h2
  obtain ⟨⟨t2⟩⟩ := s2
  have k3 := h3
  have lt3 := places_lt k3
  obtain ⟨a3, len3, cap3, rfl⟩ := okWide_slice Tryd.underlying25 (hval 3 25 v3 rfl rfl)
  obtain ⟨fuel3, hf3⟩ := h3
  obtain ⟨l3, rfl, rr3, rc3, rm3⟩ := bytes_of rfl Tryd.underlying25 Tryd.underlying5 (by kernel_rfl) hf3
  clear hA0 hval0
  refine (walk n0a n0b n0c a1 l1 cap1 t2 a3 l3 cap3 W (wfi w0a).1 (wfi w0a).2 (wfi w0b).1 (wfi w0b).2 (wfi w0c).1 (wfi w0c).2 rr1 rc1 rm1 rr3 rc3 rm3 hk).mono fun e W' ⟨he, bel⟩ => ?_
  subst he
  exact ⟨_, rfl, _, _, _, [], _, [], hW', trodAll_mk1 (shut_bool Tryd.underlying4 _), (trodAll_cons_mk (Below.trod laidOut (by kernel_rfl) (of_decide_eq_true (by kernel_rfl)) k0 bel lt0) (trodAll_cons_mk (Below.trod laidOut (by kernel_rfl) (of_decide_eq_true (by kernel_rfl)) k1 bel lt1) (trodAll_cons_mk (Below.trod laidOut (by kernel_rfl) (of_decide_eq_true (by kernel_rfl)) k2 bel lt2) (trodAll_cons_mk (Below.trod laidOut (by kernel_rfl) (of_decide_eq_true (by kernel_rfl)) k3 bel lt3) trodAll_mk0)))), rfl, bel.frame _, fun h => by cases h⟩

theorem laid_met (os : Os) : laidMet Tryd.prog Rows.nodeBackRow.laid ((Laid.laidWorld os).forCall (fun _ _ => 0) ⟨#[], #[.agg #[.int .i64 0, .int .i64 0, .int .i64 0], .slice none 0 0, .string ⟨#[]⟩, .slice none 0 0], []⟩).memory :=
  laidMet_of_run' 8 (by kernel_rfl) (by kernel_rfl)
set_option maxRecDepth 100000 in
theorem lifted (os : Os) (started : os.Started) (H : Type) (enc : TypeId × Value → H) (F : Stop.Interp) :
    ReturnsInHanded {} Tryd.checked os 5 .any ((OpenSpec.ofChange Rows.nodeBackSpec).preRow enc Tryd.prog Tryd.f5 Rows.nodeBackRow.domain false Rows.nodeBackRow.laid) (((OpenSpec.ofChange Rows.nodeBackSpec).at F).post enc Tryd.prog Tryd.f5 false true false false) := by
  obtain ⟨x, hx⟩ := Option.isSome_iff_exists.1 (show (DataW.whole enc Tryd.prog ((Laid.laidWorld os).forCall (fun _ _ => 0) ⟨#[], #[.agg #[.int .i64 0, .int .i64 0, .int .i64 0], .slice none 0 0, .string ⟨#[]⟩, .slice none 0 0], []⟩).memory Tryd.f5.params.toList Rows.nodeBackSpec.vars false (#[.agg #[.int .i64 0, .int .i64 0, .int .i64 0], .slice none 0 0, .string ⟨#[]⟩, .slice none 0 0] : Array Value).toList 8).isSome = true by kernel_rfl)
  refine returnsInHanded_of_row (C := Tryd.checked) (s := OpenSpec.ofChange Rows.nodeBackSpec) own started (by kernel_rfl) Tryd.func5
    (witness_row_at (enc := enc) (C := Tryd.checked) false (Laid.laidWorld os) #[.agg #[.int .i64 0, .int .i64 0, .int .i64 0], .slice none 0 0, .string ⟨#[]⟩, .slice none 0 0] rfl (by kernel_rfl) (by kernel_rfl) (by kernel_rfl)
      (OpenSpec.preRow_of_cond 8 hx (by rfl) (fun k hk => by cases hk) (by kernel_rfl) (laid_met os))) ?_
  intro W base args ds gs before hval hW _ _ _ hL _ _
  exact contract H enc W base args ds gs before hval hW hL
theorem said : Rows.NodeBackSaid :=
  OpenClaim.holds_of_cond 5 Tryd.f5 rfl rfl rfl rfl rfl rfl rfl ⟨rfl, rfl, rfl, rfl, rfl⟩ rfl rfl rfl rfl rfl (by kernel_rfl) Tryd.func5 (by kernel_rfl)
    (of_decide_eq_true (by kernel_rfl)) (by unfold Func.isWrapper; first | (rw [if_pos (by decide +kernel)]; kernel_rfl) | (rw [if_neg (by decide +kernel)]; exact ⟨rfl, rfl⟩))
    (fun os started H enc _ F => by rw [OpenClaim.pre_eq_preRow]; exact lifted os started H enc F)
theorem plain (f : FuncId) (fn : Func) (hf : Tryd.pinned.checked.prog.funcNamed "oubliette/oubliettelaw28.NodeBack" = some f) (hfn : Tryd.pinned.checked.prog.funcs[f]? = some fn) :
    true = Tryd.pinned.checked.prog.looks [] ∧ ∀ (j : Nat) t, fn.params[j]? = some t → Tryd.pinned.checked.prog.wantsStandIn t = false := by
  obtain rfl : f = 5 := Option.some.inj ((show Tryd.prog.funcNamed "oubliette/oubliettelaw28.NodeBack" = some 5 by kernel_rfl).symm.trans hf) |>.symm
  obtain rfl : fn = Tryd.f5 := (Option.some.inj (Tryd.func5.symm.trans hfn)).symm
  refine ⟨by kernel_rfl, fun j t ht => ?_⟩
  rw [Tryd.params5] at ht
  have hm : t ∈ ([9, 23, 24, 25] : List TypeId) := by have := Array.mem_of_getElem? ht; simp at this; first | (subst this; simp; done) | (rcases this with h | h <;> (simp [h]; done)) | (rcases this with h | h | h <;> (simp [h]; done)) | (rcases this with h | h | h | h <;> (simp [h]; done)) | (rcases this with h | h | h | h | h <;> (simp [h]; done))
  have hall : (([9, 23, 24, 25] : List TypeId).all fun u => !Tryd.prog.wantsStandIn u) = true := by kernel_rfl
  exact (show Tryd.prog.wantsStandIn t = false by simpa using List.all_eq_true.1 hall t hm)
theorem proved : Rows.NodeBackCardSaid :=
  Claim7.holds_tied_plain_at .later [] _ _ _ _ said (fun _ h => by cases h) (by kernel_rfl) (fun _ h => by cases h) nodeBack_row_tie rfl ⟨rfl, rfl⟩ (by kernel_rfl) rfl plain (by kernel_rfl)
#print axioms proved
end Go.Proofs.YtnfhlnkbkfgihaaDoor.NodeBack
