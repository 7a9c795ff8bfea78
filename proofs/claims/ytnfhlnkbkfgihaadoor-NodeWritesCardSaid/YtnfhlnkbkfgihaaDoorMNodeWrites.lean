/- NodeWrites: for every input the law returns true: the bytes of any node, and of any leaf, or that they may not be. No condition. -/
import Derived.Test.YtnfhlnkbkfgihaaDoorNodeWritesD
import Derived.Test.YtnfhlnkbkfgihaaDoorNodeWritesC
namespace Go.Proofs.YtnfhlnkbkfgihaaDoor.NodeWrites
open Go.ChangeShapes Go.WideShapes Go.ChangeAt Go.RowKit Go.Joins
open Go.ChangeMaps (open_string shut_string)
open Go.Proofs.YtnfhlnkbkfgihaaDoor.Nod
open Go.Proofs.YtnfhlnkbkfgihaaDoor.Nam (nameB name_short)
open Go.Proofs.YtnfhlnkbkfgihaaDoor.Utf (Tabs)
open Go.Proofs.YtnfhlnkbkfgihaaDoor.Geom (right lo hi right_yes)
set_option linter.unusedVariables false
set_option maxRecDepth 100000
theorem ok_same (ga gd gl : Int) (l : List (List UInt8)) : (l.all rowB && (right ga gd gl && decide ((l.length : Int) = ga))) = okB ga gd gl l := by
  unfold okB
  cases l.all rowB <;> cases right ga gd gl <;> simp
theorem leafE_len {s x : List UInt8} (hs : s.length ≤ 300) (hx : x.length ≤ 600) : (leafE s x).length ≤ 1000 := by
  unfold leafE
  split
  · simp
  · rw [List.length_append, fld_len, fld_len]; omega
theorem encB_few {l : List (List UInt8)} (hl : l.length ≤ 20) (h : ∀ b ∈ l, b.length ≤ 600) : (encB l).length ≤ 100000 := by
  unfold encB
  split
  · have := flds_few l (fun b hb => by have := h b hb; omega)
    omega
  · simp
set_option maxHeartbeats 4000000 in
theorem walk (ga gd gl : Int) (A : Option Addr) (l : List (List UInt8)) (c : Nat) (s : List UInt8) (B : Option Addr) (x : List UInt8) (d : Nat) (w : World) (ha0 : -9223372036854775808 ≤ ga) (ha1 : ga ≤ 9223372036854775807) (hd0 : -9223372036854775808 ≤ gd) (hd1 : gd ≤ 9223372036854775807) (hg0 : -9223372036854775808 ≤ gl) (hg1 : gl ≤ 9223372036854775807)
    (hr : Rws w w.heap.size A l) (hc : l.length ≤ c) (hcm : c ≤ maxLen) (hx : Rd w w.heap.size B (x.map e8)) (hxc : x.length ≤ d) (hxm : d ≤ maxLen) (hT : Tabs w) :
    Calls Tryd.prog 3 #[.agg #[.int .i64 ga, .int .i64 gd, .int .i64 gl], .slice A l.length c, .string ⟨s.toArray⟩, .slice B x.length d] w fun e w' => e = .returned (.bool true) ∧ Below w.heap.size w w' := by
  have FG := Blk.new w [.int .i64 ga, .int .i64 gd, .int .i64 gl] 23
  have z0 := FG.cell (k := 0) (by simp)
  have z1 := FG.cell (k := 1) (by simp)
  have z2 := FG.cell (k := 2) (by simp)
  simp only [List.getElem_cons_zero, List.getElem_cons_succ] at z0 z1 z2
  have HA := Lib.hid FG
  have bw := b1alloc w (.cells #[.int .i64 ga, .int .i64 gd, .int .i64 gl] 23)
  have hal := Lib.hid (fun W => alive_any W)
  have hsz : (⟨s.toArray⟩ : ByteArray).size = s.length := Utf.ba_size s
  have HLi := Lib.hid (fun W (hW : Below w.heap.size w W) => light_any A l c W (hr.on hW) (Nat.le_trans hc hcm))
  have hxm' : x.length ≤ 9223372036854775807 := by unfold maxLen at hxm; omega
  clear FG
  cases hlb : lightB l with
  | false =>
    rw [hlb] at HLi
    obtain ⟨S, hS⟩ : ∃ S : ByteArray, S = ⟨s.toArray⟩ := ⟨_, rfl⟩
    rw [← hS] at hsz ⊢
    have hrr := Lib.hid hr
    clear hS hr hx hT hlb ha0 ha1 hd0 hd1 hg0 hg1 hc hcm hxm
    go_enter Tryd.func3, Tryd.ntmps3
    go_wp2_with (first
      | (go_at_call 6; refine (HLi.out _ bw).mono ?_; rintro e w1 ⟨rfl, rfl⟩)
      | (go_at_call 7; refine (hal.out _).mono ?_; rintro e w2 ⟨rfl, b2⟩))
    go_ret
    exact ⟨rfl, bt bw b2⟩
  | true =>
  rw [hlb] at HLi
  by_cases hs3 : 300 < s.length
  · obtain ⟨S, hS⟩ : ∃ S : ByteArray, S = ⟨s.toArray⟩ := ⟨_, rfl⟩
    rw [← hS] at hsz ⊢
    have hI : (300 : Int) < (s.length : Int) := by omega
    clear hS hr hx hT hlb ha0 ha1 hd0 hd1 hg0 hg1 hc hcm hxm
    go_enter Tryd.func3, Tryd.ntmps3
    go_wp2_with (first
      | (go_at_call 6; refine (HLi.out _ bw).mono ?_; rintro e w1 ⟨rfl, rfl⟩)
      | (go_at_call 7; refine (hal.out _).mono ?_; rintro e w2 ⟨rfl, b2⟩))
    go_ret
    exact ⟨rfl, bt bw b2⟩
  have hI : ¬ (300 : Int) < (s.length : Int) := by omega
  by_cases hx6 : 600 < x.length
  · obtain ⟨S, hS⟩ : ∃ S : ByteArray, S = ⟨s.toArray⟩ := ⟨_, rfl⟩
    rw [← hS] at hsz ⊢
    have hJ : (600 : Int) < (x.length : Int) := by omega
    clear hS hr hx hT hlb ha0 ha1 hd0 hd1 hg0 hg1 hc hcm hxm hs3
    go_enter Tryd.func3, Tryd.ntmps3
    go_wp2_with (first
      | (go_at_call 6; refine (HLi.out _ bw).mono ?_; rintro e w1 ⟨rfl, rfl⟩)
      | (go_at_call 7; refine (hal.out _).mono ?_; rintro e w2 ⟨rfl, b2⟩))
    go_ret
    exact ⟨rfl, bt bw b2⟩
  have hJ : ¬ (600 : Int) < (x.length : Int) := by omega
  have hlb2 := hlb
  simp only [lightB, Bool.and_eq_true, decide_eq_true_eq, List.all_eq_true] at hlb2
  obtain ⟨hl20, hl6⟩ := hlb2
  have hl6' : ∀ b ∈ l, b.length ≤ 60000 := fun b hb => by have := hl6 b hb; omega
  have HEn := Lib.hid (fun W (hW : Below w.heap.size w W) => nenc_any ga gd gl A l c W ha0 ha1 hd0 hd1 hg0 hg1 (hr.on hW) (by omega) hl6')
  have HEl := Lib.hid (fun W (hW : Below w.heap.size w W) => encleaf_any s x B d W (hT.on hW) (hx.on hW) (by omega) (by omega) hxc)
  have HRg := Lib.hid (fun W (hW : Below w.heap.size w W) => rright28_any ga gd gl A l c W ha0 ha1 hd0 hd1 hg0 hg1 (hr.on hW) (by omega) (fun b hb => by have := hl6 b hb; omega))
  have HBy := Lib.hid (fun W (hW : Below w.heap.size w W) => rowbytes_any A l c W (hr.on hW) (by omega) (fun b hb => by have := hl6 b hb; omega))
  have HRl := Lib.hid (fun W => rightleaf_any s x B x.length d W rfl (by omega) (by omega))
  have HLb := Lib.hid (fun W (hW : Below w.heap.size w W) => leafbytes_any s x B d W (hx.on hW) (by omega) (by omega) hxc)
  have hUl := encB_few hl20 hl6
  have hVl := leafE_len (s := s) (x := x) (by omega) (by omega)
  rw [ok_same] at HRg
  obtain ⟨U, hU⟩ : ∃ U, U = encB l := ⟨_, rfl⟩
  obtain ⟨V, hV⟩ : ∃ V, V = leafE s x := ⟨_, rfl⟩
  rw [← hU] at HBy hUl
  rw [← hV] at HLb hVl
  have HSU := Lib.hid (fun W C c2 D d2 (hC : Rd W W.heap.size C (U.map e8)) (hD : Rd W W.heap.size D (U.map e8)) => R1.same_any C D U U U.length U.length c2 d2 W rfl rfl hC hD (by omega) (by omega))
  have HSV := Lib.hid (fun W C c2 D d2 (hC : Rd W W.heap.size C (V.map e8)) (hD : Rd W W.heap.size D (V.map e8)) => R1.same_any C D V V V.length V.length c2 d2 W rfl rfl hC hD (by omega) (by omega))
  rw [R1.sameB_self U] at HSU
  rw [R1.sameB_self V] at HSV
  obtain ⟨SB, hSB⟩ : ∃ S : ByteArray, S = ⟨s.toArray⟩ := ⟨_, rfl⟩
  have HU := Lib.hid hU
  have HV := Lib.hid hV
  clear hr hx hT hlb ha0 ha1 hd0 hd1 hg0 hg1 hc hcm hxm hs3 hx6 hl20 hl6 hl6' hU hV hUl hVl
  cases hok : okB ga gd gl l with
  | false =>
    have HE2 := Lib.hid (show encV ga gd gl l = [] ∧ encF ga gd gl l = 2 by unfold encV encF; rw [hok]; exact ⟨rfl, rfl⟩)
    rw [HE2.out.1, HE2.out.2] at HEn
    rw [hok] at HRg
    clear hok HE2
    cases hlf : leafB nameB s x with
    | false =>
      have HE3 := Lib.hid (show elV s x = [] ∧ elF s x = 2 by unfold elV elF; rw [hlf]; exact ⟨rfl, rfl⟩)
      rw [HE3.out.1, HE3.out.2] at HEl
      rw [hlf] at HRl
      rw [← hSB] at hsz HEl HRl HLb ⊢
      clear hSB hlf HE3
      go_enter Tryd.func3, Tryd.ntmps3
      go_wp2_with (first
        | (go_at_call 6; refine (HLi.out _ bw).mono ?_; rintro e w1 ⟨rfl, rfl⟩)
        | (go_at_call 8; refine (HEn.out _ bw).mono ?_; rintro e w2 ⟨A2, c2, rfl, h2, b2⟩; have bb2 := bt bw b2; have H2 := Lib.hid h2; clear h2; clear z0 z1 z2; have F1 := HA.out.on (b2); have z0 := F1.cell (k := 0) (by simp); have z1 := F1.cell (k := 1) (by simp); have z2 := F1.cell (k := 2) (by simp); simp only [List.getElem_cons_zero, List.getElem_cons_succ] at z0 z1 z2; clear F1)
        | (go_at_call 9; refine (HEl.out _ bb2).mono ?_; rintro e w3 ⟨A3, c3, rfl, h3, b3⟩; have bb3 := bt bb2 b3; have H3 := Lib.hid h3; clear h3; clear z0 z1 z2; have F1 := HA.out.on (bt b2 b3); have z0 := F1.cell (k := 0) (by simp); have z1 := F1.cell (k := 1) (by simp); have z2 := F1.cell (k := 2) (by simp); simp only [List.getElem_cons_zero, List.getElem_cons_succ] at z0 z1 z2; clear F1)
        | (go_at_call 10; refine (HRg.out _ bb3).mono ?_; rintro e w4 ⟨rfl, b4⟩; have bb4 := bt bb3 b4; have k24 := bt b3 b4; have k3x := b4)
        | (go_at_call 13; refine (HRl.out _).mono ?_; rintro e w7 ⟨rfl, b7⟩; have bb7 := bt bb4 b7)
        | (go_at_call 7; refine (hal.out _).mono ?_; rintro e wx ⟨rfl, bx⟩; have bbx := bt bb7 bx))
      go_ret
      exact ⟨rfl, bbx⟩
    | true =>
      have HE3 := Lib.hid (show elV s x = V ∧ elF s x = 0 by rw [HV.out]; unfold elV elF; rw [hlf]; exact ⟨rfl, rfl⟩)
      rw [HE3.out.1, HE3.out.2] at HEl
      rw [hlf] at HRl
      rw [← hSB] at hsz HEl HRl HLb ⊢
      clear hSB hlf HE3
      go_enter Tryd.func3, Tryd.ntmps3
      go_wp2_with (first
        | (go_at_call 6; refine (HLi.out _ bw).mono ?_; rintro e w1 ⟨rfl, rfl⟩)
        | (go_at_call 8; refine (HEn.out _ bw).mono ?_; rintro e w2 ⟨A2, c2, rfl, h2, b2⟩; have bb2 := bt bw b2; have H2 := Lib.hid h2; clear h2; clear z0 z1 z2; have F1 := HA.out.on (b2); have z0 := F1.cell (k := 0) (by simp); have z1 := F1.cell (k := 1) (by simp); have z2 := F1.cell (k := 2) (by simp); simp only [List.getElem_cons_zero, List.getElem_cons_succ] at z0 z1 z2; clear F1)
        | (go_at_call 9; refine (HEl.out _ bb2).mono ?_; rintro e w3 ⟨A3, c3, rfl, h3, b3⟩; have bb3 := bt bb2 b3; have H3 := Lib.hid h3; clear h3; clear z0 z1 z2; have F1 := HA.out.on (bt b2 b3); have z0 := F1.cell (k := 0) (by simp); have z1 := F1.cell (k := 1) (by simp); have z2 := F1.cell (k := 2) (by simp); simp only [List.getElem_cons_zero, List.getElem_cons_succ] at z0 z1 z2; clear F1)
        | (go_at_call 10; refine (HRg.out _ bb3).mono ?_; rintro e w4 ⟨rfl, b4⟩; have bb4 := bt bb3 b4; have k24 := bt b3 b4; have k3x := b4)
        | (go_at_call 13; refine (HRl.out _).mono ?_; rintro e w7 ⟨rfl, b7⟩; have bb7 := bt bb4 b7)
        | (go_at_call 14; refine (HLb.out _ bb7).mono ?_; rintro e w8 ⟨A8, c8, rfl, h8, b8⟩; have bb8 := bt bb7 b8; have k38 := bt (bt b4 b7) b8; have H8 := Lib.hid h8; clear h8)
        | (go_at_call 11; refine (HSV.out _ A3 c3 A8 c8 ((Rd.own H3.out).on k38) (Rd.own H8.out)).mono ?_; rintro e w9 ⟨rfl, b9⟩; have bb9 := bt bb8 b9)
        | (go_at_call 7; refine (hal.out _).mono ?_; rintro e wx ⟨rfl, bx⟩; have bbx := bt bb9 bx))
      go_ret
      exact ⟨rfl, bbx⟩
  | true =>
    have HE2 := Lib.hid (show encV ga gd gl l = U ∧ encF ga gd gl l = 0 by rw [HU.out]; unfold encV encF; rw [hok]; exact ⟨rfl, rfl⟩)
    rw [HE2.out.1, HE2.out.2] at HEn
    rw [hok] at HRg
    clear hok HE2
    cases hlf : leafB nameB s x with
    | false =>
      have HE3 := Lib.hid (show elV s x = [] ∧ elF s x = 2 by unfold elV elF; rw [hlf]; exact ⟨rfl, rfl⟩)
      rw [HE3.out.1, HE3.out.2] at HEl
      rw [hlf] at HRl
      rw [← hSB] at hsz HEl HRl HLb ⊢
      clear hSB hlf HE3
      go_enter Tryd.func3, Tryd.ntmps3
      go_wp2_with (first
        | (go_at_call 6; refine (HLi.out _ bw).mono ?_; rintro e w1 ⟨rfl, rfl⟩)
        | (go_at_call 8; refine (HEn.out _ bw).mono ?_; rintro e w2 ⟨A2, c2, rfl, h2, b2⟩; have bb2 := bt bw b2; have H2 := Lib.hid h2; clear h2; clear z0 z1 z2; have F1 := HA.out.on (b2); have z0 := F1.cell (k := 0) (by simp); have z1 := F1.cell (k := 1) (by simp); have z2 := F1.cell (k := 2) (by simp); simp only [List.getElem_cons_zero, List.getElem_cons_succ] at z0 z1 z2; clear F1)
        | (go_at_call 9; refine (HEl.out _ bb2).mono ?_; rintro e w3 ⟨A3, c3, rfl, h3, b3⟩; have bb3 := bt bb2 b3; have H3 := Lib.hid h3; clear h3; clear z0 z1 z2; have F1 := HA.out.on (bt b2 b3); have z0 := F1.cell (k := 0) (by simp); have z1 := F1.cell (k := 1) (by simp); have z2 := F1.cell (k := 2) (by simp); simp only [List.getElem_cons_zero, List.getElem_cons_succ] at z0 z1 z2; clear F1)
        | (go_at_call 10; refine (HRg.out _ bb3).mono ?_; rintro e w4 ⟨rfl, b4⟩; have bb4 := bt bb3 b4; have k24 := bt b3 b4; have k3x := b4)
        | (go_at_call 12; refine (HBy.out _ bb4).mono ?_; rintro e w5 ⟨A5, c5, rfl, h5, b5⟩; have bb5 := bt bb4 b5; have k25 := bt k24 b5; have H5 := Lib.hid h5; clear h5)
        | (go_at_call 11; refine (HSU.out _ A2 c2 A5 c5 ((Rd.own H2.out).on k25) (Rd.own H5.out)).mono ?_; rintro e w6 ⟨rfl, b6⟩; have bb6 := bt bb5 b6; have k36 := bt (bt b4 b5) b6; clear HSU)
        | (go_at_call 13; refine (HRl.out _).mono ?_; rintro e w7 ⟨rfl, b7⟩; have bb7 := bt bb6 b7)
        | (go_at_call 7; refine (hal.out _).mono ?_; rintro e wx ⟨rfl, bx⟩; have bbx := bt bb7 bx))
      go_ret
      exact ⟨rfl, bbx⟩
    | true =>
      have HE3 := Lib.hid (show elV s x = V ∧ elF s x = 0 by rw [HV.out]; unfold elV elF; rw [hlf]; exact ⟨rfl, rfl⟩)
      rw [HE3.out.1, HE3.out.2] at HEl
      rw [hlf] at HRl
      rw [← hSB] at hsz HEl HRl HLb ⊢
      clear hSB hlf HE3
      go_enter Tryd.func3, Tryd.ntmps3
      go_wp2_with (first
        | (go_at_call 6; refine (HLi.out _ bw).mono ?_; rintro e w1 ⟨rfl, rfl⟩)
        | (go_at_call 8; refine (HEn.out _ bw).mono ?_; rintro e w2 ⟨A2, c2, rfl, h2, b2⟩; have bb2 := bt bw b2; have H2 := Lib.hid h2; clear h2; clear z0 z1 z2; have F1 := HA.out.on (b2); have z0 := F1.cell (k := 0) (by simp); have z1 := F1.cell (k := 1) (by simp); have z2 := F1.cell (k := 2) (by simp); simp only [List.getElem_cons_zero, List.getElem_cons_succ] at z0 z1 z2; clear F1)
        | (go_at_call 9; refine (HEl.out _ bb2).mono ?_; rintro e w3 ⟨A3, c3, rfl, h3, b3⟩; have bb3 := bt bb2 b3; have H3 := Lib.hid h3; clear h3; clear z0 z1 z2; have F1 := HA.out.on (bt b2 b3); have z0 := F1.cell (k := 0) (by simp); have z1 := F1.cell (k := 1) (by simp); have z2 := F1.cell (k := 2) (by simp); simp only [List.getElem_cons_zero, List.getElem_cons_succ] at z0 z1 z2; clear F1)
        | (go_at_call 10; refine (HRg.out _ bb3).mono ?_; rintro e w4 ⟨rfl, b4⟩; have bb4 := bt bb3 b4; have k24 := bt b3 b4; have k3x := b4)
        | (go_at_call 12; refine (HBy.out _ bb4).mono ?_; rintro e w5 ⟨A5, c5, rfl, h5, b5⟩; have bb5 := bt bb4 b5; have k25 := bt k24 b5; have H5 := Lib.hid h5; clear h5)
        | (go_at_call 11; refine (HSU.out _ A2 c2 A5 c5 ((Rd.own H2.out).on k25) (Rd.own H5.out)).mono ?_; rintro e w6 ⟨rfl, b6⟩; have bb6 := bt bb5 b6; have k36 := bt (bt b4 b5) b6; clear HSU)
        | (go_at_call 13; refine (HRl.out _).mono ?_; rintro e w7 ⟨rfl, b7⟩; have bb7 := bt bb6 b7)
        | (go_at_call 14; refine (HLb.out _ bb7).mono ?_; rintro e w8 ⟨A8, c8, rfl, h8, b8⟩; have bb8 := bt bb7 b8; have k38 := bt (bt k36 b7) b8; have H8 := Lib.hid h8; clear h8)
        | (go_at_call 11; refine (HSV.out _ A3 c3 A8 c8 ((Rd.own H3.out).on k38) (Rd.own H8.out)).mono ?_; rintro e w9 ⟨rfl, b9⟩; have bb9 := bt bb8 b9)
        | (go_at_call 7; refine (hal.out _).mono ?_; rintro e wx ⟨rfl, bx⟩; have bbx := bt bb9 bx))
      go_ret
      exact ⟨rfl, bbx⟩
set_option maxRecDepth 100000 in
theorem contract (H : Type) (enc : TypeId × Value → H) (W : World) (base : Nat) (args : Array Value) (ds gs : List (DataW H)) (before : List MemPlace)
    (hval0 : ∀ (j : Nat) t v, Tryd.f3.params[j]? = some t → args[j]? = some v → Value.okWide Tryd.prog W .any base t v)
    (hW : DataW.Whole enc Tryd.prog Tryd.f3.params.toList Rows.nodeWritesSpec.vars false W args.toList ds gs before) (hL : laidMetH Tryd.prog Rows.nodeWritesRow.laid W) :
    Calls Tryd.prog 3 args W fun e W' => ∃ v, e = .returned v ∧ Rows.nodeWritesSpec.post enc Tryd.prog Tryd.f3 false true false false W args v W' := by
  have hk := Laid.tab hL
  have hval : ∀ (j : Nat) t v, Tryd.f3.params[j]? = some t → args[j]? = some v → Value.okWide Tryd.prog W .any base t v := hval0
  have hW' := hW
  obtain ⟨p, q, hA0, hV, rfl, hfz, hnd⟩ := hW
  have hA : DataW.TrodAll enc Tryd.prog W 0 (fun _ => true) true Tryd.f3.params.toList args.toList ds p := hA0
  rw [Tryd.params3] at hA hval
  obtain ⟨v0, vs0, d0, ds0, p0, q0, hargs, rfl, rfl, h0, r0⟩ := trodAll_cons hA
  obtain ⟨v1, vs1, d1, ds1, p1, q1, rfl, rfl, rfl, h1, r1⟩ := trodAll_cons r0
  obtain ⟨v2, vs2, d2, ds2, p2, q2, rfl, rfl, rfl, h2, r2⟩ := trodAll_cons r1
  obtain ⟨v3, vs3, d3, ds3, p3, q3, rfl, rfl, rfl, h3, r3⟩ := trodAll_cons r2
  obtain ⟨rfl, rfl, rfl⟩ := trodAll_nil r3
  obtain rfl : args = #[v0, v1, v2, v3] := by cases args; simp_all
  obtain ⟨rfl, rfl⟩ := trodVars_none hV
  have k0 := h0
  have lt0 := places_lt k0
  obtain ⟨c0a, c0b, c0c, y0a, y0b, y0c, m0, rfl, _, _, hy0a, hy0b, hy0c⟩ := open_agg3 Tryd.underlying23 (by kernel_rfl) (by kernel_rfl) (hval 0 23 v0 rfl rfl) h0
  obtain ⟨n0a, e0a, _, w0a⟩ := DataW.trod_int Tryd.underlying3 hy0a
  simp only [List.cons.injEq, and_true] at e0a
  subst e0a
  obtain ⟨n0b, e0b, _, w0b⟩ := DataW.trod_int Tryd.underlying3 hy0b
  simp only [List.cons.injEq, and_true] at e0b
  subst e0b
  obtain ⟨n0c, e0c, _, w0c⟩ := DataW.trod_int Tryd.underlying3 hy0c
  simp only [List.cons.injEq, and_true] at e0c
  subst e0c
  have k1 := h1
  have lt1 := places_lt k1
  obtain ⟨a1, len1, cap1, rfl⟩ := okWide_slice Tryd.underlying24 (hval 1 24 v1 rfl rfl)
  obtain ⟨fuel1, hf1⟩ := h1
  obtain ⟨l1, rfl, rr1, rc1, rm1⟩ := rows_of hf1
  have k2 := h2
  have lt2 := places_lt k2
  obtain ⟨s2, rfl, _, _, ws2⟩ := open_string Tryd.underlying9 (hval 2 9 v2 rfl rfl) h2
  obtain ⟨⟨t2⟩⟩ := s2
  have k3 := h3
  have lt3 := places_lt k3
  obtain ⟨a3, len3, cap3, rfl⟩ := okWide_slice Tryd.underlying25 (hval 3 25 v3 rfl rfl)
  obtain ⟨fuel3, hf3⟩ := h3
  obtain ⟨l3, rfl, rr3, rc3, rm3⟩ := bytes_of rfl Tryd.underlying25 Tryd.underlying5 (by kernel_rfl) hf3
  clear hA0 hval0
  refine (walk n0a n0b n0c a1 l1 cap1 t2 a3 l3 cap3 W (wfi w0a).1 (wfi w0a).2 (wfi w0b).1 (wfi w0b).2 (wfi w0c).1 (wfi w0c).2 rr1 rc1 rm1 rr3 rc3 rm3 hk).mono fun e W' ⟨he, bel⟩ => ?_
  subst he
  exact ⟨_, rfl, _, _, _, [], _, [], hW', trodAll_mk1 (shut_bool Tryd.underlying4 _), (trodAll_cons_mk (Below.trod laidOut (by kernel_rfl) (of_decide_eq_true (by kernel_rfl)) k0 bel lt0) (trodAll_cons_mk (Below.trod laidOut (by kernel_rfl) (of_decide_eq_true (by kernel_rfl)) k1 bel lt1) (trodAll_cons_mk (Below.trod laidOut (by kernel_rfl) (of_decide_eq_true (by kernel_rfl)) k2 bel lt2) (trodAll_cons_mk (Below.trod laidOut (by kernel_rfl) (of_decide_eq_true (by kernel_rfl)) k3 bel lt3) trodAll_mk0)))), rfl, bel.frame _, fun h => by cases h⟩

theorem laid_met (os : Os) : laidMet Tryd.prog Rows.nodeWritesRow.laid ((Laid.laidWorld os).forCall (fun _ _ => 0) ⟨#[], #[.agg #[.int .i64 0, .int .i64 0, .int .i64 0], .slice none 0 0, .string ⟨#[]⟩, .slice none 0 0], []⟩).memory :=
  laidMet_of_run' 8 (by kernel_rfl) (by kernel_rfl)
set_option maxRecDepth 100000 in
theorem lifted (os : Os) (started : os.Started) (H : Type) (enc : TypeId × Value → H) (F : Stop.Interp) :
    ReturnsInHanded {} Tryd.checked os 3 .any ((OpenSpec.ofChange Rows.nodeWritesSpec).preRow enc Tryd.prog Tryd.f3 Rows.nodeWritesRow.domain false Rows.nodeWritesRow.laid) (((OpenSpec.ofChange Rows.nodeWritesSpec).at F).post enc Tryd.prog Tryd.f3 false true false false) := by
  obtain ⟨x, hx⟩ := Option.isSome_iff_exists.1 (show (DataW.whole enc Tryd.prog ((Laid.laidWorld os).forCall (fun _ _ => 0) ⟨#[], #[.agg #[.int .i64 0, .int .i64 0, .int .i64 0], .slice none 0 0, .string ⟨#[]⟩, .slice none 0 0], []⟩).memory Tryd.f3.params.toList Rows.nodeWritesSpec.vars false (#[.agg #[.int .i64 0, .int .i64 0, .int .i64 0], .slice none 0 0, .string ⟨#[]⟩, .slice none 0 0] : Array Value).toList 8).isSome = true by kernel_rfl)
  refine returnsInHanded_of_row (C := Tryd.checked) (s := OpenSpec.ofChange Rows.nodeWritesSpec) own started (by kernel_rfl) Tryd.func3
    (witness_row_at (enc := enc) (C := Tryd.checked) false (Laid.laidWorld os) #[.agg #[.int .i64 0, .int .i64 0, .int .i64 0], .slice none 0 0, .string ⟨#[]⟩, .slice none 0 0] rfl (by kernel_rfl) (by kernel_rfl) (by kernel_rfl)
      (OpenSpec.preRow_of_cond 8 hx (by rfl) (fun k hk => by cases hk) (by kernel_rfl) (laid_met os))) ?_
  intro W base args ds gs before hval hW _ _ _ hL _ _
  exact contract H enc W base args ds gs before hval hW hL
theorem said : Rows.NodeWritesSaid :=
  OpenClaim.holds_of_cond 3 Tryd.f3 rfl rfl rfl rfl rfl rfl rfl ⟨rfl, rfl, rfl, rfl, rfl⟩ rfl rfl rfl rfl rfl (by kernel_rfl) Tryd.func3 (by kernel_rfl)
    (of_decide_eq_true (by kernel_rfl)) (by unfold Func.isWrapper; first | (rw [if_pos (by decide +kernel)]; kernel_rfl) | (rw [if_neg (by decide +kernel)]; exact ⟨rfl, rfl⟩))
    (fun os started H enc _ F => by rw [OpenClaim.pre_eq_preRow]; exact lifted os started H enc F)
theorem plain (f : FuncId) (fn : Func) (hf : Tryd.pinned.checked.prog.funcNamed "oubliette/oubliettelaw28.NodeWrites" = some f) (hfn : Tryd.pinned.checked.prog.funcs[f]? = some fn) :
    true = Tryd.pinned.checked.prog.looks [] ∧ ∀ (j : Nat) t, fn.params[j]? = some t → Tryd.pinned.checked.prog.wantsStandIn t = false := by
  obtain rfl : f = 3 := Option.some.inj ((show Tryd.prog.funcNamed "oubliette/oubliettelaw28.NodeWrites" = some 3 by kernel_rfl).symm.trans hf) |>.symm
  obtain rfl : fn = Tryd.f3 := (Option.some.inj (Tryd.func3.symm.trans hfn)).symm
  refine ⟨by kernel_rfl, fun j t ht => ?_⟩
  rw [Tryd.params3] at ht
  have hm : t ∈ ([9, 23, 24, 25] : List TypeId) := by have := Array.mem_of_getElem? ht; simp at this; first | (subst this; simp; done) | (rcases this with h | h <;> (simp [h]; done)) | (rcases this with h | h | h <;> (simp [h]; done)) | (rcases this with h | h | h | h <;> (simp [h]; done)) | (rcases this with h | h | h | h | h <;> (simp [h]; done))
  have hall : (([9, 23, 24, 25] : List TypeId).all fun u => !Tryd.prog.wantsStandIn u) = true := by kernel_rfl
  exact (show Tryd.prog.wantsStandIn t = false by simpa using List.all_eq_true.1 hall t hm)
theorem proved : Rows.NodeWritesCardSaid :=
  Claim7.holds_tied_plain_at .later [] _ _ _ _ said (fun _ h => by cases h) (by kernel_rfl) (fun _ h => by cases h) nodeWrites_row_tie rfl ⟨rfl, rfl⟩ (by kernel_rfl) rfl plain (by kernel_rfl)
#print axioms proved
end Go.Proofs.YtnfhlnkbkfgihaaDoor.NodeWrites
