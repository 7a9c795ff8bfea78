/- Texts of this claim, joined: Eto12Q, Eto13Q, Eto14Q, Eto15Q, Eto16Q, StoPQ, Eto17Q, Eto18Q, EtoL1Q, EtoL2Q, EtoL3Q, EtoM1Q, EtoM2Q, OpenTxnsQ, OpenActsQ, StoA1Q. -/
import Derived.Test.YtchcmklelmlbgaaGreatStoreAnewG
import Derived.Deep.RegionHeld3
import Derived.Deep.DeepCutAuto
import Derived.Test.YtchcmklelmlbgaaGreatStoreAnewB
import Derived.Test.YtchcmklelmlbgaaGreatStoreAnewE
/- The store: wipe. No statement is proved here. -/
namespace Go.Proofs.YtchcmklelmlbgaaGreat.Sto
open Go.RowKit
open Go.Proofs.YtchcmklelmlbgaaGreat.Geom
open Go.Proofs.YtchcmklelmlbgaaGreat.Disk (St DAt Did write flush zero512)
open Go.Proofs.YtchcmklelmlbgaaGreat.Sup (Gb gv gcell gthree)
set_option linter.unusedVariables false
set_option maxRecDepth 100000
theorem wipeL_append : ∀ (a b : List Int) (s : St), wipeL (a ++ b) s = if (wipeL a s).2 = 0 then wipeL b (wipeL a s).1 else wipeL a s
  | [], b, s => by simp [wipeL]
  | p :: a, b, s => by
    show (if _ then _ else _) = _
    by_cases h : (write s p zero512).2 = 0
    · have e : wipeL (p :: a) s = wipeL a (write s p zero512).1 := if_pos h
      rw [if_pos h, e, ← wipeL_append a b]; rfl
    · have e : wipeL (p :: a) s = write s p zero512 := if_neg h
      rw [if_neg h, e, if_neg h]
theorem wipeL_sz : ∀ (a : List Int) (s : St), (wipeL a s).1.sz ≤ s.sz + 2 * a.length
  | [], s => by simp [wipeL]
  | p :: a, s => by
    have h1 := Disk.sz_write s p zero512
    by_cases h : (write s p zero512).2 = 0
    · have e : wipeL (p :: a) s = wipeL a (write s p zero512).1 := if_pos h
      have := wipeL_sz a (write s p zero512).1
      rw [e, List.length_cons]; omega
    · have e : wipeL (p :: a) s = write s p zero512 := if_neg h
      rw [e, List.length_cons]; omega
def wpl (k : Nat) : List Int := (List.range k).map fun i : Nat => 4 + (i : Int)
theorem wpl_succ (k : Nat) : wpl (k + 1) = wpl k ++ [4 + (k : Int)] := by unfold wpl; rw [List.range_succ]; simp
theorem wpl_le (k : Nat) : (wpl k).length = k := by simp [wpl]
theorem wpl_app (k j : Nat) : ∃ b, wpl (k + j) = wpl k ++ b := by
  induction j with
  | zero => exact ⟨[], by simp⟩
  | succ j ih => obtain ⟨b, h⟩ := ih; exact ⟨b ++ [4 + ((k + j : Nat) : Int)], by rw [← Nat.add_assoc, wpl_succ, h]; simp⟩
theorem wipe_fail {N k : Nat} {s : St} (hk : k < N) (h : (wipeL (wpl (k + 1)) s).2 ≠ 0) : wipeL (wpl N) s = wipeL (wpl (k + 1)) s := by
  obtain ⟨b, e⟩ := wpl_app (k + 1) (N - (k + 1))
  rw [show N = k + 1 + (N - (k + 1)) by omega, e, wipeL_append, if_neg h]
theorem wipe_step {k : Nat} {s : St} (h : (wipeL (wpl k) s).2 = 0) : wipeL (wpl (k + 1)) s = write (wipeL (wpl k) s).1 (4 + (k : Int)) zero512 := by
  rw [wpl_succ, wipeL_append, if_pos h]
  show (if _ then _ else _) = _
  by_cases h2 : (write (wipeL (wpl k) s).1 (4 + (k : Int)) zero512).2 = 0
  · rw [if_pos h2]; exact Prod.ext rfl h2.symm
  · rw [if_neg h2]
set_option maxHeartbeats 1000000 in
theorem wipe_any (X g : Nat) (fp : List Nat) (gS : Nat) (ga gd gl : Int) (z : Z) (lv pv : Value) (s : St) (w : World) (hG : Gb ga gd gl) (hX : Blk w X (xc g gS ga gd gl z lv pv)) (hn : X ∉ fp) (h : DAt w g fp s) (hs : s.sz ≤ 70000000) (hr : right ga gd gl = true) :
    Calls Tryz.prog 41 #[.pointer (some ⟨X, 0, none⟩)] w (Did w g fp (wipeF gl s)) := by
  have hy := right_yes hr
  obtain ⟨N, hN⟩ : ∃ N : Nat, gl = (N : Int) := ⟨gl.toNat, by omega⟩
  have hN64 : N ≤ 64 := by omega
  have HLg := Lib.hid (fun (k : Nat) (hk : k < N) W => show Calls Tryz.prog 76 #[gv ga gd gl, .int .i64 (k : Int)] W fun e w' => e = .returned (.int .i64 (4 + (k : Int))) ∧ Below W.heap.size W w' from by
    have := Geom.log_any ga gd gl (k : Int) W hG.a0 hG.a1 hG.d0 hG.d1 hG.g0 hG.g1 (by unfold Geom.lo; omega) (by unfold Geom.hi; omega)
    rw [show logAt ga gd gl (k : Int) = 4 + (k : Int) from by unfold logAt; rw [if_pos ⟨hr, by omega⟩, Int.emod_eq_of_lt (by omega) (by omega)]] at this
    exact this)
  have hB := fun W => Sec.blank_any W
  have hW := fun fp s (k : Nat) A c W hD hs hr => Disk.write_any g fp s (4 + (k : Int)) A 512 c Disk.zero512 W hD hs Disk.zero512_len.symm hr
  rw [show Sec.zero512 = Disk.zero512 from rfl] at hB
  have HWf := Lib.hid (show wipeF gl s = if (wipeL (wpl N) s).2 = 0 then flush (wipeL (wpl N) s).1 else wipeL (wpl N) s from by unfold wipeF wpl; rw [hN]; simp)
  have Hst := Lib.hid (fun k (h : (wipeL (wpl k) s).2 = 0) => wipe_step h)
  have Hfl := Lib.hid (fun k (hk : k < N) (h : (wipeL (wpl (k + 1)) s).2 ≠ 0) => wipe_fail hk h)
  have Hsz := Lib.hid (fun k (hk : k ≤ N) => show (wipeL (wpl k) s).1.sz ≤ 80000000 from by have := wipeL_sz (wpl k) s; rw [wpl_le] at this; omega)
  obtain ⟨F, hF⟩ : ∃ F, F = fun k => wipeL (wpl k) s := ⟨_, rfl⟩
  have hF' : ∀ k, wipeL (wpl k) s = F k := fun k => by rw [hF]
  simp only [hF'] at HWf Hst Hfl Hsz
  have hF0 : F 0 = (s, 0) := by rw [hF]; rfl
  obtain ⟨Z5, hz⟩ : ∃ z, z = Disk.zero512 := ⟨_, rfl⟩
  have hzl : Z5.length = 512 := by rw [hz]; exact Disk.zero512_len
  simp only [← hz] at hW hB Hst
  unfold RetB at hB
  rw [hzl] at hB
  have HB := Lib.hid hB
  have HW := Lib.hid hW
  obtain ⟨R, hR⟩ : ∃ R, R = wipeF gl s := ⟨_, rfl⟩
  rw [← hR] at HWf ⊢
  have HX := Lib.hid hX
  have HD := Lib.hid h
  have HF0 := Lib.hid hF0
  have Hn := Lib.hid hn
  rw [hN] at HX
  clear hB hW hz hzl hR hF hF' hF0 hX h hs hr hy hG hn
  obtain ⟨z0, z1, z2, z3, z4, z5, z6, z7, z8, z9, z10, z11, z12⟩ := thirteen HX.out
  subst hN
  clear z0 z1 z2 z3 z5 z6 z7 z8 z9 z10 z11 z12
  go_enter Tryz.func41, Tryz.ntmps41
  go_wp2_with fail
  go_loopw [10] (fun i wr => ∃ k : Nat, k ≤ N ∧ i = .int .i64 (k : Int) ∧ (F k).2 = 0 ∧ ∃ fp1, DAt wr g fp1 (F k).1 ∧ Keep fp w wr ∧ Fresh w fp fp1) (fun i _ => N - (intOf i).toNat)
  case atStart => exact ⟨0, by omega, rfl, by rw [HF0.out], fp, by rw [HF0.out]; exact HD.out, Keep.refl _ _, Fresh.refl _ _⟩
  case round =>
    obtain ⟨k, hk, rfl, h0, fp1, hD1, hK1, hF1⟩ := hrel
    by_cases hlt : k < N
    · have hkn : (k : Int) < (N : Int) := by omega
      have hXr := HX.out.keepK hK1 Hn.out
      have hn1 : X ∉ fp1 := hF1.out HX.out.lt Hn.out
      have HS := Lib.hid (fun W (kW : Keep fp1 wr W) => show W.cell? ⟨X, 0, none⟩ = some (.pointer (some ⟨g, 0, none⟩)) ∧ W.cell? ⟨X, 2, none⟩ = some (.int .i64 ga) ∧ W.cell? ⟨X, 3, none⟩ = some (.int .i64 gd) ∧ W.cell? ⟨X, 4, none⟩ = some (.int .i64 (N : Int)) from by
        obtain ⟨u0, _, u2, u3, u4, _⟩ := thirteen (hXr.keepK kW hn1)
        exact ⟨u0, u2, u3, u4⟩)
      have HLk := Lib.hid (fun W => HLg.out k hlt W)
      have HWk := Lib.hid (fun A c W (hD : DAt W g fp1 (F k).1) hr => HW.out fp1 (F k).1 k A c W hD (by have := Hsz.out k hk; omega) hr)
      obtain ⟨V, hV⟩ : ∃ V, V = write (F k).1 (4 + (k : Int)) Z5 := ⟨_, rfl⟩
      have hFk : F (k + 1) = V := by rw [hV]; exact Hst.out k h0
      rw [← hV] at HWk
      have HDW := Lib.hid (fun W (bW : Below wr.heap.size wr W) => hD1.on bW)
      have Hlt1 := Lib.hid hD1.lt
      have cz : Below wr.heap.size wr wr.drew := (Below.refl _ _).drew
      have HFk := Lib.hid hFk
      have HK1 := Lib.hid hK1
      have HF1 := Lib.hid hF1
      clear hV hFk hXr hn1 hD1 hK1 hF1
      by_cases hv : V.2 = 0
      · have t0 := bne_no hv
        have Hv := Lib.hid hv
        clear hv
        go_upto_region 4 with (fail)
        go_region_held3 (fun W => W.cell? ⟨X, 0, none⟩ = some (.pointer (some ⟨g, 0, none⟩)) ∧ W.cell? ⟨X, 2, none⟩ = some (.int .i64 ga) ∧ W.cell? ⟨X, 3, none⟩ = some (.int .i64 gd) ∧ W.cell? ⟨X, 4, none⟩ = some (.int .i64 (N : Int)))
          (first | exact HS.out _ (Keep.of_below cz _) | exact HS.out _ (Keep.of_below cl _) | exact HS.out _ (Keep.of_below cb _) | exact HS.out _ k6)
          ((first
            | (go_at_call 76; refine (HLk.out _).mono ?_; rintro e q1 ⟨rfl, c1⟩; first | (have cl := bt cb c1) | (have cl := bt cz c1))
            | (go_at_call 74; refine (HB.out _).mono ?_; rintro e q2 ⟨A4, c4, rfl, own4, c2⟩; first | (have cb := bt cl c2) | (have cb := bt cz c2))
            | (go_at_call 73; first | (refine (HWk.out A4 c4 _ (HDW.out _ cl) ((RdN.own own4 (fun j hj => Nat.lt_of_lt_of_le (Hlt1.out j hj) (Nat.le_trans (Nat.le_refl _) cz.size))).on c1)).mono ?_; rintro e q3 ⟨rfl, fp5, hD5, k5, f5⟩; have k6 := (Keep.of_below cl fp1).trans k5 (Fresh.refl _ _); have f6 : Fresh wr fp1 fp5 := fun j hj => (f5 j hj).imp id (fun h => Nat.le_trans cl.size h)) | (refine (HWk.out A4 c4 _ (HDW.out _ cb) (RdN.own own4 (fun j hj => Nat.lt_of_lt_of_le (Hlt1.out j hj) cl.size))).mono ?_; rintro e q3 ⟨rfl, fp5, hD5, k5, f5⟩; have k6 := (Keep.of_below cb fp1).trans k5 (Fresh.refl _ _); have f6 : Fresh wr fp1 fp5 := fun j hj => (f5 j hj).imp id (fun h => Nat.le_trans cb.size h)))))
        have K6 := Lib.hid (HK1.out.trans k6 HF1.out)
        have F6 := Lib.hid (HF1.out.trans HK1.out.size f6)
        have D5 := Lib.hid hD5
        clear k6 f6 hD5 k5 f5
        go_wp2_with fail
        case roundEnd =>
          refine ⟨⟨k + 1, by omega, by go_num, by rw [HFk.out]; exact Hv.out, fp5, by rw [HFk.out]; exact D5.out, K6.out, F6.out⟩, by simp only [intOf]; omega⟩
      · have t0 := bne_yes hv
        have Hv := Lib.hid hv
        clear hv
        go_upto_region 4 with (fail)
        go_region_held3 (fun W => W.cell? ⟨X, 0, none⟩ = some (.pointer (some ⟨g, 0, none⟩)) ∧ W.cell? ⟨X, 2, none⟩ = some (.int .i64 ga) ∧ W.cell? ⟨X, 3, none⟩ = some (.int .i64 gd) ∧ W.cell? ⟨X, 4, none⟩ = some (.int .i64 (N : Int)))
          (first | exact HS.out _ (Keep.of_below cz _) | exact HS.out _ (Keep.of_below cl _) | exact HS.out _ (Keep.of_below cb _) | exact HS.out _ k6)
          ((first
            | (go_at_call 76; refine (HLk.out _).mono ?_; rintro e q1 ⟨rfl, c1⟩; first | (have cl := bt cb c1) | (have cl := bt cz c1))
            | (go_at_call 74; refine (HB.out _).mono ?_; rintro e q2 ⟨A4, c4, rfl, own4, c2⟩; first | (have cb := bt cl c2) | (have cb := bt cz c2))
            | (go_at_call 73; first | (refine (HWk.out A4 c4 _ (HDW.out _ cl) ((RdN.own own4 (fun j hj => Nat.lt_of_lt_of_le (Hlt1.out j hj) (Nat.le_trans (Nat.le_refl _) cz.size))).on c1)).mono ?_; rintro e q3 ⟨rfl, fp5, hD5, k5, f5⟩; have k6 := (Keep.of_below cl fp1).trans k5 (Fresh.refl _ _); have f6 : Fresh wr fp1 fp5 := fun j hj => (f5 j hj).imp id (fun h => Nat.le_trans cl.size h)) | (refine (HWk.out A4 c4 _ (HDW.out _ cb) (RdN.own own4 (fun j hj => Nat.lt_of_lt_of_le (Hlt1.out j hj) cl.size))).mono ?_; rintro e q3 ⟨rfl, fp5, hD5, k5, f5⟩; have k6 := (Keep.of_below cb fp1).trans k5 (Fresh.refl _ _); have f6 : Fresh wr fp1 fp5 := fun j hj => (f5 j hj).imp id (fun h => Nat.le_trans cb.size h)))))
        have K6 := Lib.hid (HK1.out.trans k6 HF1.out)
        have F6 := Lib.hid (HF1.out.trans HK1.out.size f6)
        have D5 := Lib.hid hD5
        clear k6 f6 hD5 k5 f5
        go_wp2_with fail
        try rw [Exit.noGoto_ret]
        go_ret
        have hR1 : R = V := by
          rw [HWf.out]
          have e1 := Hfl.out k hlt (by rw [HFk.out]; exact Hv.out)
          rw [e1, HFk.out, if_neg Hv.out]
        rw [hR1]
        exact ⟨rfl, fp5, D5.out, K6.out, F6.out⟩
    · obtain rfl : k = N := by omega
      have hkn : ¬ (k : Int) < (k : Int) := by omega
      have hXr := (HX.out.keepK hK1 Hn.out).cell (k := 0) (by simp)
      have HFl := Lib.hid (Disk.flush_any g fp1 (F k).1 wr hD1 (by have := Hsz.out k (Nat.le_refl _); omega))
      have hR1 : R = flush (F k).1 := by rw [HWf.out, if_pos h0]
      rw [← hR1] at HFl
      have HK1 := Lib.hid hK1
      have HF1 := Lib.hid hF1
      clear hK1 hF1 hD1 hR1 h0
      go_wp2_with (go_at_call 75; refine HFl.out.mono ?_; rintro e q1 ⟨rfl, fp5, hD5, k5, f5⟩)
      go_ret
      exact ⟨rfl, fp5, hD5, HK1.out.trans k5 HF1.out, HF1.out.trans HK1.out.size f5⟩
end Go.Proofs.YtchcmklelmlbgaaGreat.Sto

/- The store: Format. No statement is proved here. -/
namespace Go.Proofs.YtchcmklelmlbgaaGreat.Sto
open Go.RowKit
open Go.Proofs.YtchcmklelmlbgaaGreat.Geom
open Go.Proofs.YtchcmklelmlbgaaGreat.Disk (St DAt Did write flush zero512)
open Go.Proofs.YtchcmklelmlbgaaGreat.Sup (Gb gv gcell gthree srightF splace sB sL wf sv scell)
open Go.Proofs.YtchcmklelmlbgaaGreat.Snap (snapF)
set_option linter.unusedVariables false
set_option maxRecDepth 100000
theorem pages_pos {ga gd gl : Int} (h : right ga gd gl = true) : 0 < pagesOf ga gd gl := by
  obtain ⟨h1, h2, h3, h4, h5, h6⟩ := right_yes h
  have ha : ga = 2 ∨ ga = 3 ∨ ga = 4 := by omega
  have hd : gd = 1 ∨ gd = 2 ∨ gd = 3 := by omega
  unfold pagesOf nodesOf leavesOf
  rw [if_pos h, if_pos h]
  rcases ha with rfl | rfl | rfl <;> rcases hd with rfl | rfl | rfl <;> decide
def z0 (n : Nat) : Z := ⟨0, 0, 0, 0, List.replicate n [], false, false, 0, false⟩
/-- a store that was made, before its life begins -/
def FMid (w0 : World) (g gS : Nat) (ga gd gl : Int) (n : Nat) (v : Value) (wx : World) : Prop :=
  ∃ X R bx c, v = .pointer (some ⟨bx, 0, none⟩) ∧ Box wx bx (.pointer (some ⟨X, 0, none⟩)) ∧ Blk wx X (xc g gS ga gd gl (z0 n) (.pointer none) (.slice (some ⟨R, 0, none⟩) n c)) ∧
    wx.ownsRow w0.heap.size 51 1 (.slice (some ⟨R, 0, none⟩) n c) n (List.replicate n (.slice none 0 0)) ∧ Below w0.heap.size w0 wx ∧ w0.heap.size ≤ X ∧ w0.heap.size ≤ R ∧ w0.heap.size ≤ bx ∧ X ≠ R ∧ X ≠ bx ∧ R ≠ bx
theorem fmid1 {w3 w4 : World} {g gS : Nat} {ga gd gl : Int} {n c : Nat} {A : Option Addr} (o : w4.ownsRow w3.heap.size 51 1 (.slice A n c) n (List.replicate n (.slice none 0 0))) (be : Below w3.heap.size w3 w4) (hn : 0 < n) :
    FMid w3 g gS ga gd gl n (.pointer (some ⟨w4.heap.size + 1, 0, none⟩)) ((w4.alloc (.cells #[.pointer (some ⟨g, 0, none⟩), .pointer (some ⟨gS, 0, none⟩), .int .i64 ga, .int .i64 gd, .int .i64 gl, .int .u64 0, .int .i64 0, .int .u64 0, .pointer none, .int .i64 0, .slice A n c, .bool false, .bool false] 93)).alloc (.cells #[.pointer (some ⟨w4.heap.size, 0, none⟩)] 35)) := by
  obtain ⟨R, c', e, hR⟩ := own_some o hn
  injection e with e1 e2 e3
  subst e1 e3
  have hlt := (o.lt R rfl).2
  have hs := be.size
  have o2 := own_on o (b2alloc w4 (.cells #[.pointer (some ⟨g, 0, none⟩), .pointer (some ⟨gS, 0, none⟩), .int .i64 ga, .int .i64 gd, .int .i64 gl, .int .u64 0, .int .i64 0, .int .u64 0, .pointer none, .int .i64 0, .slice (some ⟨R, 0, none⟩) n c, .bool false, .bool false] 93) (.cells #[.pointer (some ⟨w4.heap.size, 0, none⟩)] 35))
  refine ⟨w4.heap.size, R, w4.heap.size + 1, c, rfl, ?_, (Blk.new w4 (xc g gS ga gd gl (z0 n) (.pointer none) (.slice (some ⟨R, 0, none⟩) n c)) 93).alloc _, o2, bt be (b2alloc _ _ _), hs, hR, by omega, by omega, by omega, by omega⟩
  simpa using Box.new (w4.alloc (.cells #[.pointer (some ⟨g, 0, none⟩), .pointer (some ⟨gS, 0, none⟩), .int .i64 ga, .int .i64 gd, .int .i64 gl, .int .u64 0, .int .i64 0, .int .u64 0, .pointer none, .int .i64 0, .slice (some ⟨R, 0, none⟩) n c, .bool false, .bool false] 93)) 35 (.pointer (some ⟨w4.heap.size, 0, none⟩))
theorem fmid2 {w3 w4 : World} {g gS : Nat} {ga gd gl : Int} {n c : Nat} {A : Option Addr} (o : w4.ownsRow w3.heap.size 51 1 (.slice A n c) n (List.replicate n (.slice none 0 0))) (be : Below w3.heap.size w3 w4) (hn : 0 < n) :
    FMid w3 g gS ga gd gl n (.pointer (some ⟨w4.heap.size, 0, none⟩)) ((w4.alloc (.cells #[.pointer (some ⟨w4.heap.size + 1, 0, none⟩)] 35)).alloc (.cells #[.pointer (some ⟨g, 0, none⟩), .pointer (some ⟨gS, 0, none⟩), .int .i64 ga, .int .i64 gd, .int .i64 gl, .int .u64 0, .int .i64 0, .int .u64 0, .pointer none, .int .i64 0, .slice A n c, .bool false, .bool false] 93)) := by
  obtain ⟨R, c', e, hR⟩ := own_some o hn
  injection e with e1 e2 e3
  subst e1 e3
  have hlt := (o.lt R rfl).2
  have hs := be.size
  have o2 := own_on o (b2alloc w4 (.cells #[.pointer (some ⟨w4.heap.size + 1, 0, none⟩)] 35) (.cells #[.pointer (some ⟨g, 0, none⟩), .pointer (some ⟨gS, 0, none⟩), .int .i64 ga, .int .i64 gd, .int .i64 gl, .int .u64 0, .int .i64 0, .int .u64 0, .pointer none, .int .i64 0, .slice (some ⟨R, 0, none⟩) n c, .bool false, .bool false] 93))
  have hb := Blk.new (w4.alloc (.cells #[.pointer (some ⟨w4.heap.size + 1, 0, none⟩)] 35)) (xc g gS ga gd gl (z0 n) (.pointer none) (.slice (some ⟨R, 0, none⟩) n c)) 93
  rw [show (w4.alloc (.cells #[.pointer (some ⟨w4.heap.size + 1, 0, none⟩)] 35)).heap.size = w4.heap.size + 1 by simp] at hb
  exact ⟨w4.heap.size + 1, R, w4.heap.size, c, rfl, (Box.new w4 35 (.pointer (some ⟨w4.heap.size + 1, 0, none⟩))).alloc _, hb, o2, bt be (b2alloc _ _ _), by omega, hR, by omega, by omega, by omega, by omega⟩
theorem fmid3 {w3 w4 : World} {g gS : Nat} {ga gd gl : Int} {n c B : Nat} {A : Option Addr} {v : Value} (o : w4.ownsRow B 51 1 (.slice A n c) n (List.replicate n (.slice none 0 0))) (hB : w3.heap.size + 1 ≤ B) (hv : Box w4 w3.heap.size v) (be : Below w3.heap.size w3 w4) (hn : 0 < n) :
    FMid w3 g gS ga gd gl n (.pointer (some ⟨w3.heap.size, 0, none⟩)) ((w4.setCell ⟨w3.heap.size, 0, none⟩ (.pointer (some ⟨w4.heap.size, 0, none⟩))).alloc (.cells #[.pointer (some ⟨g, 0, none⟩), .pointer (some ⟨gS, 0, none⟩), .int .i64 ga, .int .i64 gd, .int .i64 gl, .int .u64 0, .int .i64 0, .int .u64 0, .pointer none, .int .i64 0, .slice A n c, .bool false, .bool false] 93)) := by
  obtain ⟨R, c', e, hR⟩ := own_some o hn
  injection e with e1 e2 e3
  subst e1 e3
  have hlt := (o.lt R rfl).2
  have hs := be.size
  have hbl := hv.lt
  have hsz : (w4.setCell ⟨w3.heap.size, 0, none⟩ (.pointer (some ⟨w4.heap.size, 0, none⟩))).heap.size = w4.heap.size := by simp [World.setCell]
  have hb := Blk.new (w4.setCell ⟨w3.heap.size, 0, none⟩ (.pointer (some ⟨w4.heap.size, 0, none⟩))) (xc g gS ga gd gl (z0 n) (.pointer none) (.slice (some ⟨R, 0, none⟩) n c)) 93
  rw [hsz] at hb
  have o1 := own_keep o ((Keep.refl [w3.heap.size] w4).set (p := ⟨w3.heap.size, 0, none⟩) (.inl (by simp)) (.pointer (some ⟨w4.heap.size, 0, none⟩))) (fun j hj => by simp [Value.ownBlock] at hj; simp; omega)
  have o2 := own_base (own_on o1 (b1alloc _ (.cells #[.pointer (some ⟨g, 0, none⟩), .pointer (some ⟨gS, 0, none⟩), .int .i64 ga, .int .i64 gd, .int .i64 gl, .int .u64 0, .int .i64 0, .int .u64 0, .pointer none, .int .i64 0, .slice (some ⟨R, 0, none⟩) n c, .bool false, .bool false] 93))) (show w3.heap.size ≤ B by omega)
  exact ⟨w4.heap.size, R, w3.heap.size, c, rfl, (hv.set _).alloc _, hb, o2, bt (bset be (Nat.le_refl _) _) (b1alloc _ _), by omega, by omega, by omega, by omega, by omega, by omega⟩
theorem new_cell (w : World) (o : Obj) (v : Value) (t : TypeId) : ((w.alloc o).alloc (.cells #[v] t)).cell? ⟨w.heap.size + 1, 0, none⟩ = some v ∧ ((w.alloc o).alloc (.cells #[v] t)).frozen? ⟨w.heap.size + 1, 0, none⟩ = false := by
  have h := Box.new (w.alloc o) t v
  rw [show (w.alloc o).heap.size = w.heap.size + 1 by simp] at h
  exact ⟨h.cell, h.free⟩
theorem new_cell0 (w : World) (o : Obj) (v : Value) (t : TypeId) : ((w.alloc (.cells #[v] t)).alloc o).cell? ⟨w.heap.size, 0, none⟩ = some v ∧ ((w.alloc (.cells #[v] t)).alloc o).frozen? ⟨w.heap.size, 0, none⟩ = false := by
  have h := (Box.new w t v).alloc o
  exact ⟨h.cell, h.free⟩
/-- a new store comes back -/
def NewStore (w : World) (g : Nat) (fp : List Nat) (gS bS : Nat) (ga gd gl : Int) (z : Z) (s : St) (l : List (List UInt8)) (X : Nat) (w' : World) : Prop :=
  ∃ R L fp', SAt [] w' X R L g fp' gS bS ga gd gl z s l ∧ Keep (bS :: fp) w w' ∧ Fresh w fp fp' ∧ w.heap.size ≤ X ∧ w.heap.size ≤ R ∧ w.heap.size ≤ L
theorem format1_any (g : Nat) (fp : List Nat) (s : St) (gS bS : Nat) (l : List (List UInt8)) (ga gd gl : Int) (bD bG : Nat) (w : World) (hG : Gb ga gd gl) (h : Both w g fp s gS bS l) (hs : s.sz ≤ 90000000) (hf : srightF s ga gd gl = 0) (hD : Box w bD (.pointer (some ⟨g, 0, none⟩))) (hB : Blk w bG (gcell ga gd gl)) :
    Calls Tryz.prog 39 #[.pointer (some ⟨bD, 0, none⟩), .pointer (some ⟨bG, 0, none⟩)] w fun e w' => e = .returned (.int .i64 (Sup.clr s).2) ∧ Turn w g fp gS bS (Sup.clr s).1 l w' := by
  have HC := Sup.clear_any g fp s ga gd gl w hG h.disk hs hf
  obtain ⟨V, hV⟩ : ∃ V, V = Sup.clr s := ⟨_, rfl⟩
  rw [← hV] at HC ⊢
  have HC' := Lib.hid HC
  have HT := Lib.hid (fun e w' d => Turn.ofDid (r := V) (e := e) (w' := w') h d)
  have y0 := hD.cell
  obtain ⟨y1, y2, y3⟩ := gthree hB
  clear HC hV h hs hf hD hB hG
  go_enter Tryz.func39, Tryz.ntmps39
  go_wp2_with (go_at_call 40; refine HC'.out.mono ?_; rintro e w1 hd; obtain ⟨rfl, t⟩ := HT.out e w1 hd)
  go_ret
  exact ⟨rfl, t⟩
theorem format2_any (X R L g : Nat) (fp : List Nat) (gS bS : Nat) (ga gd gl : Int) (z : Z) (s : St) (l : List (List UInt8)) (bx : Nat) (w : World) (hG : Gb ga gd gl) (h : SAt [] w X R L g fp gS bS ga gd gl z s l) (hX : Box w bx (.pointer (some ⟨X, 0, none⟩)))
    (hl : l.length ≤ 800000) (hs : s.sz ≤ 70000000) (hf : srightF s ga gd gl = 0) (hn : (z.pages.length : Int) = pagesOf ga gd gl) (hlong : Snap.longB z.pages = false) :
    Calls Tryz.prog 42 #[.pointer (some ⟨bx, 0, none⟩)] w fun e w' => e = .returned (.int .i64 (begF ga gd gl 1 0 0 z.pages l s).2.2) ∧
      STurn [] w X R L g fp gS bS ga gd gl (if (begF ga gd gl 1 0 0 z.pages l s).2.2 = 0 then z.begun 1 0 0 else z) (begF ga gd gl 1 0 0 z.pages l s).2.1 (begF ga gd gl 1 0 0 z.pages l s).1 w' := by
  have HB := begin_any X R L g fp gS bS ga gd gl z s l 1 0 0 w hG h hl hs hf hn hlong (by omega) (by omega)
  obtain ⟨V, hV⟩ : ∃ V, V = begF ga gd gl 1 0 0 z.pages l s := ⟨_, rfl⟩
  rw [← hV] at HB ⊢
  obtain ⟨z', hz'⟩ : ∃ q, q = (if V.2.2 = 0 then z.begun 1 0 0 else z) := ⟨_, rfl⟩
  rw [← hz'] at HB ⊢
  have HB' := Lib.hid (show Calls Tryz.prog 43 #[.pointer (some ⟨X, 0, none⟩), .agg #[.int .u64 1, .int .i64 0, .int .u64 0]] w fun e w' => e = .returned (.int .i64 V.2.2) ∧ STurn [] w X R L g fp gS bS ga gd gl z' V.2.1 V.1 w' from HB)
  have y0 := hX.cell
  clear HB hz' hV h hl hs hf hn hlong hG hX
  go_enter Tryz.func42, Tryz.ntmps42
  go_wp2_with (go_at_call 43; refine HB'.out.mono ?_; rintro e w1 ⟨rfl, t⟩)
  go_ret
  exact ⟨rfl, t⟩
def FIn (w5 : World) (X R g : Nat) (fp : List Nat) (gS bS : Nat) (ga gd gl : Int) (z' : Z) (l : List (List UInt8)) (s1 s2 : St) (B : Out) : Nat → World → Prop
  | 0, W => W = w5
  | 1, W => Turn w5 g fp gS bS s1 l W
  | 2, W => Turn w5 g fp gS bS s2 l W
  | _, W => STurn [] w5 X R X g fp gS bS ga gd gl z' B.2.1 B.1 W
def fks : Nat → FuncId
  | 0 => 39
  | 1 => 41
  | _ => 42
def frs (X : Nat) : Nat → Array Value
  | 1 => #[.pointer (some ⟨X, 0, none⟩)]
  | _ => #[]
def fcs (bD bG bx : Nat) : Nat → Array Value
  | 0 => #[.pointer (some ⟨bD, 0, none⟩), .pointer (some ⟨bG, 0, none⟩)]
  | 1 => #[]
  | _ => #[.pointer (some ⟨bx, 0, none⟩)]
theorem format_steps (X R g : Nat) (fp : List Nat) (gS bS : Nat) (ga gd gl : Int) (n : Nat) (s : St) (l : List (List UInt8)) (bD bG bx bF : Nat) (w : World) (hG : Gb ga gd gl) (h : SAt [] w X R X g fp gS bS ga gd gl (z0 n) s l)
    (hD : Box w bD (.pointer (some ⟨g, 0, none⟩))) (hB : Blk w bG (gcell ga gd gl)) (hX : Box w bx (.pointer (some ⟨X, 0, none⟩)))
    (hF : Blk w bF [.func (.func 39) #[] (fcs bD bG bx 0), .func (.func 41) (frs X 1) #[], .func (.func 42) #[] (fcs bD bG bx 2)])
    (nX : bx ∉ bS :: fp) (nF : bF ∉ bS :: fp) (hl : l.length ≤ 800000) (hs : s.sz ≤ 60000000) (hf : srightF s ga gd gl = 0) (hn : (n : Int) = pagesOf ga gd gl)
    (o1 : (Sup.clr s).2 = 0) (o2 : (wipeF gl (Sup.clr s).1).2 = 0) (o3 : (begF ga gd gl 1 0 0 (List.replicate n []) l (wipeF gl (Sup.clr s).1).1).2.2 = 0) :
    Calls Tryz.prog 38 #[.slice (some ⟨bF, 0, none⟩) 3 3] w fun e w' => e = .returned (.int .i64 0) ∧ STurn [] w X R X g fp gS bS ga gd gl ((z0 n).begun 1 0 0) (begF ga gd gl 1 0 0 (List.replicate n []) l (wipeF gl (Sup.clr s).1).1).2.1 (begF ga gd gl 1 0 0 (List.replicate n []) l (wipeF gl (Sup.clr s).1).1).1 w' := by
  have hr := (Sup.srightF_yes hf).1
  have hy := right_yes hr
  have hcz : (Sup.clr s).1.sz ≤ s.sz + 5 ∧ (Sup.clr s).1.size = s.size := by
    have a1 := Disk.sz_write s 2 zero512
    have a2 := Disk.sz_write (write s 2 zero512).1 3 zero512
    have a3 := Disk.sz_flush (write (write s 2 zero512).1 3 zero512).1
    have b1 := write_size s 2 zero512
    have b2 := write_size (write s 2 zero512).1 3 zero512
    have b3 := flush_size (write (write s 2 zero512).1 3 zero512).1
    unfold Sup.clr
    split
    · split
      · exact ⟨by omega, by omega⟩
      · exact ⟨by omega, by omega⟩
    · exact ⟨by omega, by omega⟩
  have hws : (wipeF gl (Sup.clr s).1).1.sz ≤ (Sup.clr s).1.sz + 200 ∧ (wipeF gl (Sup.clr s).1).1.size = (Sup.clr s).1.size := by
    have key : ∀ (a : List Int) (s : St), (wipeL a s).1.size = s.size := by
      intro a
      induction a with
      | nil => intro s; rfl
      | cons p a ih =>
        intro s
        show (if _ then _ else _ : St × Int).1.size = _
        split
        · exact (ih _).trans (write_size _ _ _)
        · exact write_size _ _ _
    have a1 := wipeL_sz ((List.range gl.toNat).map fun i : Nat => 4 + (i : Int)) (Sup.clr s).1
    rw [List.length_map, List.length_range] at a1
    have a2 := Disk.sz_flush (wipeL ((List.range gl.toNat).map fun i : Nat => 4 + (i : Int)) (Sup.clr s).1).1
    have a3 := key ((List.range gl.toNat).map fun i : Nat => 4 + (i : Int)) (Sup.clr s).1
    have a4 := flush_size (wipeL ((List.range gl.toNat).map fun i : Nat => 4 + (i : Int)) (Sup.clr s).1).1
    unfold wipeF
    split
    · exact ⟨by omega, by omega⟩
    · exact ⟨by omega, by omega⟩
  have hlen : ((z0 n).pages.length : Int) = pagesOf ga gd gl := by show ((List.replicate n []).length : Int) = _; rw [List.length_replicate]; exact hn
  have hlong : Snap.longB (z0 n).pages = false := Snap.longB_no (fun j hj => by simp [z0])
  obtain ⟨B, hBe⟩ : ∃ B, B = begF ga gd gl 1 0 0 (List.replicate n []) l (wipeF gl (Sup.clr s).1).1 := ⟨_, rfl⟩
  rw [← hBe] at o3 ⊢
  refine Calls.mono (steps_any 3 3 bF 0 fks (frs X) (fcs bD bG bx) (FIn w X R g fp gS bS ga gd gl ((z0 n).begun 1 0 0) l (Sup.clr s).1 (wipeF gl (Sup.clr s).1).1 B) (fun _ _ => False) w (by omega) rfl ?_ ?_ ?_) ?_
  · intro i hi W hI
    have hk : Keep (bS :: fp) w W := by
      match i, hi, hI with
      | 0, _, hI => rw [show W = w from hI]; exact Keep.refl _ _
      | 1, _, hI => exact Turn.keepOf hI
      | 2, _, hI => exact Turn.keepOf hI
    have hF' := hF.keepK hk nF
    match i, hi with
    | 0, _ => exact hF'.cell (k := 0) (by simp)
    | 1, _ => exact hF'.cell (k := 1) (by simp)
    | 2, _ => exact hF'.cell (k := 2) (by simp)
  · intro i hi x W
    match i, hi with
    | 0, _ => simp [go_sem, fks]
    | 1, _ => simp [go_sem, fks]
    | 2, _ => simp [go_sem, fks]
  · intro i hi W hI
    match i, hi, hI with
    | 0, _, hI =>
      have hw : W = w := hI
      rw [hw, show frs X 0 ++ fcs bD bG bx 0 = #[.pointer (some ⟨bD, 0, none⟩), .pointer (some ⟨bG, 0, none⟩)] from by simp [frs, fcs]]
      refine Calls.mono (format1_any g fp s gS bS l ga gd gl bD bG w hG h.both (by omega) hf hD hB) ?_
      rintro e w' ⟨rfl, t⟩
      exact ⟨_, rfl, fun _ => t, fun e => absurd o1 e⟩
    | 1, _, hI =>
      obtain ⟨fp1, hB1, k1, f1⟩ := hI
      have hS := h.turned hB1 k1 f1
      obtain ⟨lv, c, x1, _, _⟩ := hS.blk
      rw [show frs X 1 ++ fcs bD bG bx 1 = #[.pointer (some ⟨X, 0, none⟩)] from by simp [frs, fcs]]
      refine Calls.mono (wipe_any X g fp1 gS ga gd gl (z0 n) lv _ (Sup.clr s).1 W hG x1 hS.nX.2.2.2 hB1.disk (by omega) hr) ?_
      rintro e w' hd
      obtain ⟨rfl, t⟩ := Turn.ofDid hB1 hd
      exact ⟨_, rfl, fun _ => Turn.trans k1 f1 t, fun e => absurd o2 e⟩
    | 2, _, hI =>
      obtain ⟨fp1, hB1, k1, f1⟩ := hI
      have hS := h.turned hB1 k1 f1
      rw [show frs X 2 ++ fcs bD bG bx 2 = #[.pointer (some ⟨bx, 0, none⟩)] from by simp [frs, fcs]]
      have hc := format2_any X R X g fp1 gS bS ga gd gl (z0 n) (wipeF gl (Sup.clr s).1).1 l bx W hG hS (hX.keep k1 nX) hl (by omega) (sright_of hf (by omega)) hlen hlong
      rw [show (z0 n).pages = List.replicate n [] from rfl, ← hBe, if_pos o3] at hc
      refine Calls.mono hc ?_
      rintro e w' ⟨rfl, t⟩
      refine ⟨_, rfl, fun _ => STurn.trans (k1.more (fun j hj => by simp only [List.mem_cons] at hj ⊢; rcases hj with e | e <;> simp [e])) ⟨f1, .inl rfl⟩ t, fun e => absurd o3 e⟩
  · rintro e w' ⟨f, rfl, r1, r2⟩
    by_cases hf0 : f = 0
    · exact ⟨by rw [hf0], r1 hf0⟩
    · exact absurd (r2 hf0) id
end Go.Proofs.YtchcmklelmlbgaaGreat.Sto

/- The store: Format. No statement is proved here. -/
namespace Go.Proofs.YtchcmklelmlbgaaGreat.Sto
open Go.RowKit
open Go.Proofs.YtchcmklelmlbgaaGreat.Geom
open Go.Proofs.YtchcmklelmlbgaaGreat.Disk (St DAt Did write flush zero512)
open Go.Proofs.YtchcmklelmlbgaaGreat.Sup (Gb gv gcell gthree srightF splace sB sL wf sv scell)
open Go.Proofs.YtchcmklelmlbgaaGreat.Snap (snapF)
set_option linter.unusedVariables false
set_option maxRecDepth 100000
set_option maxHeartbeats 2000000 in
theorem format_any (g : Nat) (fp : List Nat) (s : St) (gS bS : Nat) (l : List (List UInt8)) (ga gd gl : Int) (n : Nat) (w : World) (hG : Gb ga gd gl) (h : Both w g fp s gS bS l) (hl : l.length ≤ 800000) (hs : s.sz ≤ 60000000) (hf : srightF s ga gd gl = 0) (hn : (n : Int) = pagesOf ga gd gl)
    (o1 : (Sup.clr s).2 = 0) (o2 : (wipeF gl (Sup.clr s).1).2 = 0) (o3 : (begF ga gd gl 1 0 0 (List.replicate n []) l (wipeF gl (Sup.clr s).1).1).2.2 = 0) :
    Calls Tryz.prog 14 #[.pointer (some ⟨g, 0, none⟩), .pointer (some ⟨gS, 0, none⟩), gv ga gd gl] w fun e w' => ∃ X, e = .returned (.tuple #[.pointer (some ⟨X, 0, none⟩), .int .i64 0]) ∧
      NewStore w g fp gS bS ga gd gl ((z0 n).begun 1 0 0) (begF ga gd gl 1 0 0 (List.replicate n []) l (wipeF gl (Sup.clr s).1).1).2.1 (begF ga gd gl 1 0 0 (List.replicate n []) l (wipeF gl (Sup.clr s).1).1).1 X w' := by
  have hr := (Sup.srightF_yes hf).1
  have hy := right_yes hr
  obtain ⟨w2, hw2⟩ : ∃ w2, w2 = (w.alloc (.cells #[.pointer (some ⟨g, 0, none⟩)] 28)).alloc (.cells #[.int .i64 ga, .int .i64 gd, .int .i64 gl] 23) := ⟨_, rfl⟩
  have b2 : Below w.heap.size w w2 := by rw [hw2]; exact b2alloc _ _ _
  have q0 : Box w2 w.heap.size (.pointer (some ⟨g, 0, none⟩)) := by rw [hw2]; exact (Box.new w _ _).alloc _
  have q1 : Blk w2 (w.heap.size + 1) (gcell ga gd gl) := by rw [hw2]; simpa using Blk.new (w.alloc (.cells #[.pointer (some ⟨g, 0, none⟩)] 28)) (gcell ga gd gl) 23
  have HR := Lib.hid (fun W (bW : Below w.heap.size w W) => right_any g fp s gS ga gd gl W hG (h.disk.on bW))
  rw [hf] at HR
  have HN0 := Lib.hid (show 0 < n from by have := pages_pos hr; omega)
  have HE := Lib.hid (fun W => Snap.empty_any ga gd gl W hG)
  have hnn : (pagesOf ga gd gl).toNat = n := by omega
  rw [hnn] at HE
  have HST := Lib.hid (fun X R bx bF W hS hD hB hX hF nX nF => format_steps X R g fp gS bS ga gd gl n s l w.heap.size (w.heap.size + 1) bx bF W hG hS hD hB hX hF nX nF hl hs hf hn o1 o2 o3)
  obtain ⟨B, hBe⟩ : ∃ B, B = begF ga gd gl 1 0 0 (List.replicate n []) l (wipeF gl (Sup.clr s).1).1 := ⟨_, rfl⟩
  rw [← hBe] at HST ⊢
  have HH := Lib.hid h
  have HW := Lib.hid hw2
  have HB2 := Lib.hid b2
  have y0 := q0.cell
  obtain ⟨y1, y2, y3⟩ := gthree q1
  have HQ := Lib.hid (show _ ∧ _ from ⟨q0, q1⟩)
  have e0 := q0.lt
  have e1 := q1.lt
  clear hw2 q0 q1 hnn b2 hBe o1 o2 o3 hl hs hf hn h hG hr hy
  go_enter Tryz.func14, Tryz.ntmps14
  go_upto_region 1 with (fail)
  rw [← HW.out]
  go_upto_region 4 with (go_at_call 36; refine (HR.out _ HB2.out).mono ?_; rintro e w3 ⟨rfl, b3⟩)
  have HS := Lib.hid (fun W (bW : Below w3.heap.size w3 W) => show W.cell? ⟨w.heap.size, 0, none⟩ = some (.pointer (some ⟨g, 0, none⟩)) ∧ W.cell? ⟨w.heap.size + 1, 0, none⟩ = some (.int .i64 ga) ∧ W.cell? ⟨w.heap.size + 1, 1, none⟩ = some (.int .i64 gd) ∧ W.cell? ⟨w.heap.size + 1, 2, none⟩ = some (.int .i64 gl) from
    ⟨(HQ.out.1.on' (bt b3 bW)).cell, gthree (HQ.out.2.on (bt b3 bW))⟩)
  have cz : Below w3.heap.size w3 w3.drew := (Below.refl _ _).drew
  go_cut [9] (fun v wx => FMid w3 g gS ga gd gl n v wx)
  case first =>
    go_region_held3 (fun W => W.cell? ⟨w.heap.size, 0, none⟩ = some (.pointer (some ⟨g, 0, none⟩)) ∧ W.cell? ⟨w.heap.size + 1, 0, none⟩ = some (.int .i64 ga) ∧ W.cell? ⟨w.heap.size + 1, 1, none⟩ = some (.int .i64 gd) ∧ W.cell? ⟨w.heap.size + 1, 2, none⟩ = some (.int .i64 gl))
      (first | exact HS.out _ cz | exact HS.out _ be | exact HS.out _ (bt cz (b1alloc _ _)) | exact HS.out _ (bt be (b1alloc _ _)) | exact HS.out _ (bt be (b2alloc _ _ _)) | exact HS.out _ (bt (bset be (Nat.le_refl _) _) (b1alloc _ _)) | exact HS.out _ (bt (bset (bt be (b1alloc _ _)) be.size _) (b1alloc _ _)) | exact HS.out _ (bset (bt be (b2alloc _ _ _)) (Nat.le_succ_of_le be.size) _) | exact HS.out _ (bset (bt be (b2alloc _ _ _)) be.size _) | exact HS.out _ (bset (bt be (b1alloc _ _)) (Nat.le_refl _) _))
      ((go_at_call 37; refine (HE.out _).mono ?_; rintro e w4 ⟨A4, c4, rfl, own4, b4⟩; first | (have be := bt (bt cz (b1alloc _ _)) b4; have n1 : w4.cell? ⟨w3.heap.size, 0, none⟩ = some (.pointer none) := ((Box.new w3.drew 35 (.pointer none)).on' b4).cell; have n2 : w4.frozen? ⟨w3.heap.size, 0, none⟩ = false := ((Box.new w3.drew 35 (.pointer none)).on' b4).free; have n3 : ∀ o, (w4.alloc o).cell? ⟨w3.heap.size, 0, none⟩ = some (.pointer none) := fun o => (((Box.new w3.drew 35 (.pointer none)).on' b4).alloc o).cell; have n4 : ∀ o, (w4.alloc o).frozen? ⟨w3.heap.size, 0, none⟩ = false := fun o => (((Box.new w3.drew 35 (.pointer none)).on' b4).alloc o).free; have n6 := (Box.new w3.drew 35 (.pointer none)).on' b4; have n5 : w3.heap.size < w4.heap.size := Nat.lt_of_lt_of_le (Box.new w3.drew 35 (.pointer none)).lt b4.size) | (have be := bt cz b4; have n1 := fun o => (new_cell w4 o (.pointer none) 35).1; have n2 := fun o => (new_cell w4 o (.pointer none) 35).2; have n3 := fun o => (new_cell0 w4 o (.pointer none) 35).1; have n4 := fun o => (new_cell0 w4 o (.pointer none) 35).2)))
    all_goals (go_wp2_with fail; go_meet)
    all_goals (case rel => first | exact fmid1 own4 be HN0.out | exact fmid2 own4 be HN0.out | exact fmid3 own4 (by show _ ≤ (World.alloc _ _).heap.size; simp) n6 be HN0.out)
  case rest =>
    obtain ⟨X, R, bx, c, rfl, hbx, hX, own, bel, x1, x2, x3, x4, x5, x6⟩ := hcut
    have bw := bt HB2.out (bt b3 bel)
    have hS : SAt [] wc X R X g fp gS bS ga gd gl (z0 n) s l := by
      have hlt := HH.out.disk.lt
      have hls := HH.out.sym.lt
      have hw3 := (bt HB2.out b3).size
      refine ⟨HH.out.on bw, ⟨.pointer none, c, ?_, fun e => (by cases e), ⟨List.replicate n (.slice none 0 0), ?_, fun i hi => ?_⟩⟩, fun e => (by cases e), ⟨x4, by omega, by omega, fun e => by have := hlt _ e; omega⟩, ⟨fun e => x4 e.symm, by omega, by omega, fun e => by have := hlt _ e; omega⟩, ⟨by omega, by omega, fun e => by have := hlt _ e; omega⟩, hX.lt, fun j hj => by cases hj⟩
      · have e : (z0 n).pages.length = n := by simp [z0]
        rw [e]; exact hX
      · have e : (z0 n).pages.length = n := by simp [z0]
        rw [e]; exact own_base own (Nat.zero_le _)
      · have e : (z0 n).pages[i] = [] := by simp [z0]
        have hi' : i < n := by simpa [z0] using hi
        refine ⟨none, 0, ?_, ?_, ?_, by unfold maxLen; omega⟩
        · rw [e]; simp [hi']
        · rw [e]; exact RdQ.nil _ _ _
        · rw [e]; simp
    have HSt := Lib.hid hS
    have HBx := Lib.hid hbx
    have Hbw := Lib.hid bw
    have HBel := Lib.hid (bt b3 bel)
    have Hx := Lib.hid (show _ ∧ _ ∧ _ from ⟨x1, x2, x3⟩)
    have v0 := hbx.cell
    have Hbxn := Lib.hid (show bx ∉ X :: R :: X :: bS :: fp from fun e => by
      simp only [List.mem_cons] at e
      have hls := HH.out.sym.lt
      have hw3 := (bt HB2.out b3).size
      rcases e with e | e | e | e | e
      · exact x5 e.symm
      · exact x6 e.symm
      · exact x5 e.symm
      · omega
      · have := HH.out.disk.lt _ e; omega)
    have hw3 := Lib.hid (bt HB2.out b3).size
    have HnX := Lib.hid (fun j (hj : w.heap.size ≤ j) => show j ∉ bS :: fp from fun e => by
      have hls := HH.out.sym.lt
      rcases List.mem_cons.1 e with e | e
      · omega
      · have := HH.out.disk.lt _ e; omega)
    clear hS hbx hX own bel x1 x2 x3 x4 x5 x6 bw
    go_wp2_with (go_at_call 38; refine (HST.out X R bx wc.heap.size _ (HSt.out.on (b1alloc _ _)) (HQ.out.1.on' (bt HBel.out (b1alloc _ _))) (HQ.out.2.on (bt HBel.out (b1alloc _ _))) (HBx.out.alloc _) (Blk.new wc _ _) (HnX.out _ (Nat.le_trans hw3.out Hx.out.2.2)) (HnX.out _ Hbw.out.size)).mono ?_; rintro e w6 ⟨rfl, t6⟩; have hbxn : bx ∉ X :: R :: X :: bS :: fp := Hbxn.out; have v1 := ((HBx.out.alloc _).keep t6.keepOf hbxn).cell)
    go_ret2
    obtain ⟨L', fp', s1, s2, s3⟩ := t6
    have hls := HH.out.sym.lt
    have hlt := HH.out.disk.lt
    have k0 : Keep (bS :: fp) w w6 := (Keep.of_below (bt Hbw.out (b1alloc _ _)) (bS :: fp)).trans s2 (fun j hj => by
      simp only [List.mem_cons] at hj ⊢
      have := Hx.out
      have := hw3.out
      rcases hj with e | e | e | e | e
      · exact .inr (by omega)
      · exact .inr (by omega)
      · exact .inr (by omega)
      · exact .inl (.inl e)
      · exact .inl (.inr e))
    have hge : ∀ j ∈ L' :: fp', j ∈ fp ∨ w.heap.size ≤ j := fun j hj => by
      have := Hx.out
      have := hw3.out
      rcases s3.all j hj with e | e
      · rcases List.mem_cons.1 e with e | e
        · exact .inr (by omega)
        · exact .inl e
      · exact .inr (by have := Hbw.out.size; have := (b1alloc wc (.cells #[] 0)).size; simp at e; omega)
    refine ⟨X, rfl, R, L', fp', s1, k0, fun j hj => hge j (List.mem_cons_of_mem _ hj), by have := Hx.out; have := hw3.out; omega, by have := Hx.out; have := hw3.out; omega, ?_⟩
    have := Hx.out
    have := hw3.out
    rcases s3.2 with e | e
    · omega
    · exact Nat.le_trans (bt Hbw.out (b1alloc wc _)).size e
end Go.Proofs.YtchcmklelmlbgaaGreat.Sto

/- The store: Pages, Page. No statement is proved here. -/
namespace Go.Proofs.YtchcmklelmlbgaaGreat.Sto
open Go.RowKit
open Go.Proofs.YtchcmklelmlbgaaGreat.Geom
open Go.Proofs.YtchcmklelmlbgaaGreat.Disk (St DAt Did)
open Go.Proofs.YtchcmklelmlbgaaGreat.Sup (Gb gv)
set_option linter.unusedVariables false
variable {ex : List Nat}
set_option maxRecDepth 100000
theorem set_self {P : List (List UInt8)} {k : Nat} (h : k < P.length) : P.set k P[k] = P := by
  apply List.ext_getElem
  · simp
  · intro i h1 h2
    rw [List.getElem_set]
    split
    · rename_i e; subst e; rfl
    · rfl
theorem infoSl : (Tryz.prog.info? 51).map (·.size) = some 1 := by kernel_rfl
set_option maxHeartbeats 1000000 in
theorem pages_any (X R L g : Nat) (fp : List Nat) (gS bS : Nat) (ga gd gl : Int) (z : Z) (s : St) (l : List (List UInt8)) (w : World) (h : SAt ex w X R L g fp gS bS ga gd gl z s l) (hn0 : 0 < z.pages.length) (hn1 : z.pages.length ≤ 1000) (hb : ∀ b ∈ z.pages, b.length ≤ 1000000) :
    Calls Tryz.prog 19 #[.pointer (some ⟨X, 0, none⟩)] w fun e w' => ∃ G c, e = .returned (.slice (some ⟨G, 0, none⟩) z.pages.length c) ∧ SRow w' G c z.pages (fun j => j ≠ G) ∧ Below w.heap.size w w' ∧ w.heap.size ≤ G := by
  obtain ⟨i0, hi0, hz0, hz1, hz2⟩ := info_parts Snap.infoS
  obtain ⟨lv, c, h1, _, h3⟩ := h.blk
  obtain ⟨y0, y1, y2, y3, y4, y5, y6, y7, y8, y9, y10, y11, y12⟩ := thirteen h1
  have hlX := h1.lt
  obtain ⟨xs, o, hx⟩ := h3
  obtain ⟨P, hP⟩ : ∃ P, P = z.pages := ⟨_, rfl⟩
  rw [← hP] at y10 o hx hn0 hn1 hb ⊢
  have hcap := own_cap o
  have hxl : xs.length = P.length := by have := o.1; omega
  have HO := Lib.hid o
  have HX := Lib.hid hx
  have Hxl := Lib.hid hxl
  have Hb := Lib.hid hb
  have HR := Lib.hid (show ∀ W, Below w.heap.size w W → Rd W W.heap.size (some ⟨R, 0, none⟩) xs from fun W bW => (Rd.own o).on bW)
  have H1 := Lib.hid (show ∀ v ∈ xs, v.oneCell' = true from fun v hv => by
    obtain ⟨i, hi, rfl⟩ := List.mem_iff_getElem.1 hv
    obtain ⟨Ai, ci, e, _⟩ := hx i (by omega)
    rw [List.getElem?_eq_getElem hi] at e
    injection e with e
    rw [e]; simp [Value.oneCell'])
  clear h h1 hP o hx hxl hb y0 y1 y2 y3 y4 y5 y6 y7 y8 y9 y11 y12
  go_enter Tryz.func19, Tryz.ntmps19
  go_wp2_with (first
    | (at_make; refine wpList_make_full _ rfl _ _ _ rfl w.heap.size 51 i0 _ 1 Tryz.underlying47 hi0 hz0 hz1 _ _ _ _ P.length rfl rfl rfl rfl (by rw [hz2]; omega) (by simp only [maxLen]; omega) (Nat.le_refl _) ?_; intro w3 own3 b3; have bel := (Below.refl w.heap.size w).grown b3 (Nat.le_refl _) (by simp); have u10 := (World.cell?_of_block (bel.block _ hlX)).trans y10)
    | ((with_reducible show wpList _ _ _ (⟨some 19, _, _, _, _, _⟩ :: _) _ _); refine Mac.wpList_copyO rfl _ _ _ _ rfl rfl rfl Tryz.underlying47 infoSl own3 Hxl.out (HR.out _ bel) H1.out ?_; intro w4 r4 own4 g4))
  have bel4 := bel.grown g4 bel.size (fun r e => by injection e with e; omega)
  have hS : SRow w4 w.heap.size P.length P (fun j => j ≠ w.heap.size) := by
    refine ⟨xs, ?_, fun i hi => ?_⟩
    · have e : xs.take P.length ++ (madeCells (Value.slice none 0 0).cells (P.length * 1)).toList.drop (xs.take P.length).length = xs := by
        rw [List.take_of_length_le (by rw [Hxl.out]; exact Nat.le_refl _), Snap.made_nil, Hxl.out, List.drop_of_length_le (by simp), List.append_nil]
      have o5 := own4
      rw [e] at o5
      exact own_base o5 (Nat.zero_le _)
    · obtain ⟨Ai, ci, a, b, d⟩ := HX.out i hi
      exact ⟨Ai, ci, a, b.move (Keep.of_below bel4 []) (fun j _ hlt => ⟨by simp, by omega⟩), d⟩
  have HS := Lib.hid hS
  have HB := Lib.hid bel4
  clear hS bel4 own4 g4 own3 b3 bel u10 y10 hlX hcap
  go_loopw [22] (fun i wr => ∃ k : Nat, k ≤ P.length ∧ i = .int .i64 (k : Int) ∧ Below w.heap.size w wr ∧ SRow wr w.heap.size P.length P (fun j => j ≠ w.heap.size)) (fun i _ => P.length - (intOf i).toNat)
  case atStart => exact ⟨0, by omega, rfl, HB.out, HS.out⟩
  case round =>
    obtain ⟨k, hk, rfl, bw, hS⟩ := hrel
    by_cases hlt : k < P.length
    · have hkn : (k : Int) < (P.length : Int) := by omega
      obtain ⟨Ai, ci, c0, rd, hci, hcm⟩ := hS.get hlt
      have h6 := Hb.out _ (List.getElem_mem hlt)
      have HPk := Lib.hid (set_self hlt)
      obtain ⟨m, hm⟩ : ∃ m, m = P[k] := ⟨_, rfl⟩
      rw [← hm] at c0 rd hci h6 HPk
      have fR := hS.free k
      have hlR := hS.lt
      have HC := Lib.hid (Sl.clone_any Ai m _ ci wr rfl rd.rd (by omega))
      have Hbw := Lib.hid bw
      have HSr := Lib.hid hS
      clear hm hS bw rd
      go_wp2_with (go_at_call 57; refine HC.out.mono ?_; rintro e w5 ⟨A5, c5, rfl, o5, b5⟩; have d0 := (World.cell?_of_block (b5.block _ hlR)).trans c0; have d1 := (World.frozen?_of_block (b5.block _ hlR)).trans fR; have O5 := Lib.hid o5; have B5 := Lib.hid b5; clear o5 b5)
      case roundEnd =>
        have hS5 := (HSr.out.on B5.out).set (fun h => h rfl) k (m := m) (A := A5) (ci := c5) ((RdQ.own O5.out).imp (fun j _ hj => by omega)) (own_cap O5.out).1 (own_cap O5.out).2
        rw [HPk.out] at hS5
        exact ⟨⟨k + 1, by omega, by go_num, bset (bt Hbw.out B5.out) (Nat.le_refl _) _, hS5⟩, by simp only [intOf]; omega⟩
    · obtain rfl : k = P.length := by omega
      have hkn : ¬ (P.length : Int) < (P.length : Int) := by omega
      have Hbw := Lib.hid bw
      have HSr := Lib.hid hS
      clear hS bw
      go_wp2_with fail
      go_ret
      exact ⟨_, _, rfl, HSr.out, Hbw.out, Nat.le_refl _⟩
theorem page_in (X R L g : Nat) (fp : List Nat) (gS bS : Nat) (ga gd gl : Int) (z : Z) (s : St) (l : List (List UInt8)) (n : Nat) (w : World) (h : SAt ex w X R L g fp gS bS ga gd gl z s l) (hn : n < z.pages.length) (hm : z.pages.length ≤ 1000) (hb : z.pages[n].length ≤ 1000000) :
    Calls Tryz.prog 27 #[.pointer (some ⟨X, 0, none⟩), .int .i64 (n : Int)] w fun e w' => RetB 5 w z.pages[n] e w' := by
  obtain ⟨lv, c, h1, _, h3⟩ := h.blk
  obtain ⟨y0, y1, y2, y3, y4, y5, y6, y7, y8, y9, y10, y11, y12⟩ := thirteen h1
  obtain ⟨Ai, ci, c0, rd, hci, hcm⟩ := h3.get hn
  have HC := Sl.clone_any Ai z.pages[n] _ ci w rfl rd.rd (by omega)
  obtain ⟨m, hm'⟩ : ∃ m, m = z.pages[n] := ⟨_, rfl⟩
  rw [← hm'] at c0 HC ⊢
  have HC' := Lib.hid HC
  have h0 : ¬ (n : Int) < 0 := by omega
  have h2 : ¬ (z.pages.length : Int) ≤ (n : Int) := by omega
  have h4 : (n : Int) < (z.pages.length : Int) := by omega
  clear h h1 h3 HC hm' rd hci hb
  go_enter Tryz.func27, Tryz.ntmps27
  go_wp2_with (go_at_call 57; refine HC'.out.mono ?_; rintro e w5 ⟨A5, c5, rfl, o5, b5⟩)
  go_ret
  exact ⟨A5, c5, rfl, o5, b5⟩
end Go.Proofs.YtchcmklelmlbgaaGreat.Sto

/- The store: the three steps of Open. No statement is proved here. -/
namespace Go.Proofs.YtchcmklelmlbgaaGreat.Sto
open Go.RowKit
open Go.Proofs.YtchcmklelmlbgaaGreat.Geom
open Go.Proofs.YtchcmklelmlbgaaGreat.Disk (St DAt Did)
open Go.Proofs.YtchcmklelmlbgaaGreat.Sup (Gb gv gcell gthree srightF SV atR best rdV oV)
open Go.Proofs.YtchcmklelmlbgaaGreat.Snap (snapR OwnRows RetRows It)
open Go.Proofs.YtchcmklelmlbgaaGreat.Wal (scanTx OwnTx wrightF Tx Txs)
set_option linter.unusedVariables false
set_option maxRecDepth 100000
/-- what Open's steps share -/
structure OEnv (w : World) (bD bE bG bx X g gS : Nat) (ga gd gl : Int) : Prop where
  d : Box w bD (.pointer (some ⟨g, 0, none⟩))
  s : Box w bE (.pointer (some ⟨gS, 0, none⟩))
  g : Blk w bG (gcell ga gd gl)
  x : Box w bx (.pointer (some ⟨X, 0, none⟩))
  nD : bD ≠ X
  nE : bE ≠ X
  nG : bG ≠ X
  nx : bx ≠ X
theorem OEnv.keep {w w' : World} {bD bE bG bx X g gS : Nat} {ga gd gl : Int} (h : OEnv w bD bE bG bx X g gS ga gd gl) (k : Keep [X] w w') : OEnv w' bD bE bG bx X g gS ga gd gl :=
  ⟨h.d.keep k (by simpa using h.nD), h.s.keep k (by simpa using h.nE), h.g.keepK k (by simpa using h.nG), h.x.keep k (by simpa using h.nx), h.nD, h.nE, h.nG, h.nx⟩
theorem OEnv.cells {w : World} {bD bE bG bx X g gS : Nat} {ga gd gl : Int} (h : OEnv w bD bE bG bx X g gS ga gd gl) : w.cell? ⟨bD, 0, none⟩ = some (.pointer (some ⟨g, 0, none⟩)) ∧ w.cell? ⟨bE, 0, none⟩ = some (.pointer (some ⟨gS, 0, none⟩)) ∧ w.cell? ⟨bG, 0, none⟩ = some (.int .i64 ga) ∧ w.cell? ⟨bG, 1, none⟩ = some (.int .i64 gd) ∧ w.cell? ⟨bG, 2, none⟩ = some (.int .i64 gl) ∧ w.cell? ⟨bx, 0, none⟩ = some (.pointer (some ⟨X, 0, none⟩)) := by
  obtain ⟨a, b, c⟩ := gthree h.g
  exact ⟨h.d.cell, h.s.cell, a, b, c, h.x.cell⟩
def Z.sup (z : Z) (v : SV) : Z := { z with life := v.life, base := v.base, gen := v.gen }
def supF (o : Option SV) : Int := if o.isSome = true then 0 else 11
theorem rdV_is (o : Option SV) : rdV o = .tuple #[.agg #[.int .u64 ((oV o).life.toNat : Int), .int .i64 (oV o).base, .int .u64 ((oV o).gen.toNat : Int)], .int .i64 (supF o)] := by
  cases o <;> rfl
theorem set_sup {w w1 : World} {X g gS : Nat} {ga gd gl : Int} {z : Z} {lv pv : Value} (h : Blk w X (xc g gS ga gd gl z lv pv)) (b : Below w.heap.size w w1) (v : SV) :
    Blk (((w1.setCell ⟨X, 5, none⟩ (.int .u64 (v.life.toNat : Int))).setCell ⟨X, 6, none⟩ (.int .i64 v.base)).setCell ⟨X, 7, none⟩ (.int .u64 (v.gen.toNat : Int))) X (xc g gS ga gd gl (z.sup v) lv pv) ∧
      Keep [X] w (((w1.setCell ⟨X, 5, none⟩ (.int .u64 (v.life.toNat : Int))).setCell ⟨X, 6, none⟩ (.int .i64 v.base)).setCell ⟨X, 7, none⟩ (.int .u64 (v.gen.toNat : Int))) :=
  ⟨((((h.on b).set (k := 5) (.int .u64 (v.life.toNat : Int))).set (k := 6) (.int .i64 v.base)).set (k := 7) (.int .u64 (v.gen.toNat : Int)) : Blk _ X _),
    (((Keep.of_below b [X]).set (p := ⟨X, 5, none⟩) (.inl (by simp)) _).set (p := ⟨X, 6, none⟩) (.inl (by simp)) _).set (p := ⟨X, 7, none⟩) (.inl (by simp)) _⟩
abbrev oS (bD bE bG bx X g gS : Nat) (ga gd gl : Int) (W : World) : Prop := W.cell? ⟨bD, 0, none⟩ = some (.pointer (some ⟨g, 0, none⟩)) ∧ W.cell? ⟨bE, 0, none⟩ = some (.pointer (some ⟨gS, 0, none⟩)) ∧ W.cell? ⟨bG, 0, none⟩ = some (.int .i64 ga) ∧ W.cell? ⟨bG, 1, none⟩ = some (.int .i64 gd) ∧ W.cell? ⟨bG, 2, none⟩ = some (.int .i64 gl) ∧ W.cell? ⟨bx, 0, none⟩ = some (.pointer (some ⟨X, 0, none⟩))
theorem ownRows_srow {w : World} {base n c : Nat} {A : Option Addr} {P : List (List UInt8)} (h : OwnRows w base (.slice A n c) P) (hn : n = P.length) (h0 : 0 < n) : ∃ R, A = some ⟨R, 0, none⟩ ∧ base ≤ R ∧ SRow w R c P (fun j => base ≤ j ∧ j ≠ R) := by
  obtain ⟨its, o, e, ok⟩ := h
  have hil : its.length = n := by
    rw [hn, ← e, List.length_map]
  rw [hil] at o
  obtain ⟨R, c', ev, hR⟩ := own_some o h0
  injection ev with e1 e2 e3
  subst e1 e3
  have hRt : ∃ cur, w.heap[R]? = some (.cells cur 51 (0, 0)) := by
    rcases o.2 with ⟨hv, hz⟩ | ⟨g, cap, cur, hv, hg, hh, _⟩
    · omega
    · injection hv with a1 _ _
      injection a1 with a1
      injection a1 with a1
      exact ⟨cur, by rw [a1]; exact hh⟩
  refine ⟨R, rfl, hR, its.map It.sl, by rw [← hn]; exact own_base o (Nat.zero_le _), fun i hi => ?_⟩
  have hi' : i < its.length := by omega
  have hP : P[i] = its[i].body := by simp [← e]
  obtain ⟨ho, hl⟩ := ok its[i] (List.getElem_mem hi')
  refine ⟨its[i].A, its[i].c, ?_, ?_, ?_, ?_⟩
  · rw [List.getElem?_map, List.getElem?_eq_getElem hi', hP]; rfl
  · rw [hP]
    intro hne
    rcases ho.2 with ⟨hv, hz⟩ | ⟨g, cap, cur, hv, hg, hh, hnc, hcm, hcs, ht⟩
    · exact absurd (List.eq_nil_of_length_eq_zero (by have := ho.1; omega)) hne
    · injection hv with hA _ _
      rw [hA]
      refine ⟨g, 0, rfl, lt_of_block hh, ⟨hg, fun e => ?_⟩, fun k hk => ?_⟩
      · obtain ⟨cur', hh'⟩ := hRt
        rw [← e, hh] at hh'
        injection hh' with h1
        injection h1 with _ h2 _
        cases h2
      · have hc := ho
        rw [hA] at hc
        have := World.ownsRow.cellAt (j := k) hc (by have := ho.1; omega)
        rw [Nat.zero_add, this]; exact List.getElem?_eq_getElem hk
  · rw [hP]; exact (own_cap ho).1
  · exact (own_cap ho).2
set_option maxHeartbeats 1000000 in
theorem open1_any (bD bE bG bx X g : Nat) (fp : List Nat) (s : St) (gS bS : Nat) (l : List (List UInt8)) (ga gd gl : Int) (z : Z) (lv pv : Value) (w : World) (hG : Gb ga gd gl) (hE : OEnv w bD bE bG bx X g gS ga gd gl) (hX : Blk w X (xc g gS ga gd gl z lv pv)) (h : Both w g fp s gS bS l)
    (hl : l.length ≤ 1000000) (hs : s.sz ≤ 90000000) (hf : srightF s ga gd gl = 0) (hd : s.down = false) (o : Option SV) (ho : best (best none (atR l s ga gd gl 2)) (atR l s ga gd gl 3) = o) :
    Calls Tryz.prog 50 #[.pointer (some ⟨bD, 0, none⟩), .pointer (some ⟨bE, 0, none⟩), .pointer (some ⟨bG, 0, none⟩), .pointer (some ⟨bx, 0, none⟩)] w fun e w' => e = .returned (.int .i64 (supF o)) ∧ Blk w' X (xc g gS ga gd gl (z.sup (oV o)) lv pv) ∧ Keep [X] w w' := by
  have HR := Lib.hid (fun W (bW : Below w.heap.size w W) => Sup.readSup_any g fp s gS bS l ga gd gl W hG (h.on bW) hl hs hf hd)
  rw [ho, rdV_is] at HR
  obtain ⟨q0, q1, q2, q3, q4, q5⟩ := hE.cells
  have cz : Below w.heap.size w w.drew := (Below.refl _ _).drew
  have hlX := hX.lt
  have hXc := Lib.hid (fun W (bW : Below w.heap.size w W) => show (W.cell? ⟨X, 5, none⟩ = some (.int .u64 (z.life.toNat : Int)) ∧ W.cell? ⟨X, 6, none⟩ = some (.int .i64 z.base) ∧ W.cell? ⟨X, 7, none⟩ = some (.int .u64 (z.gen.toNat : Int))) ∧ (∀ k, W.frozen? ⟨X, k, none⟩ = false) from
    ⟨⟨(hX.on bW).cell (k := 5) (by simp), (hX.on bW).cell (k := 6) (by simp), (hX.on bW).cell (k := 7) (by simp)⟩, (hX.on bW).free⟩)
  have HS := Lib.hid (fun W (kW : Keep [X] w W) => (hE.keep kW).cells)
  have HF := Lib.hid (fun W (bW : Below w.heap.size w W) => set_sup hX bW (oV o))
  obtain ⟨v, hv⟩ : ∃ v, v = oV o := ⟨_, rfl⟩
  obtain ⟨f, hf0⟩ : ∃ v, v = supF o := ⟨_, rfl⟩
  rw [← hv] at HF HR ⊢
  rw [← hf0] at HR ⊢
  clear hv hf0 ho h hl hs hf hd hE hX hG
  go_enter Tryz.func50, Tryz.ntmps50
  go_wp2_with fail
  go_region_held3 (fun W => oS bD bE bG bx X g gS ga gd gl W) (first | exact HS.out _ (Keep.refl _ _) | exact HS.out _ (Keep.of_below cz _) | exact HS.out _ (Keep.of_below c1 _) | exact HS.out _ k2) ((go_at_call 51; refine (HR.out _ cz).mono ?_; rintro e w1 ⟨rfl, b1⟩; have c1 := bt cz b1; obtain ⟨⟨x5, x6, x7⟩, fx⟩ := hXc.out w1 c1; have k2 := (HF.out w1 c1).2))
  have fin := Lib.hid (HF.out w1 c1)
  clear k2 x5 x6 x7 fx
  go_wp2_with fail
  go_ret
  exact ⟨rfl, fin.out⟩
set_option maxHeartbeats 1000000 in
theorem open2_any (bD bE bG bx X g : Nat) (fp : List Nat) (s : St) (gS bS : Nat) (l : List (List UInt8)) (ga gd gl : Int) (z : Z) (lv pv : Value) (w : World) (hG : Gb ga gd gl) (hE : OEnv w bD bE bG bx X g gS ga gd gl) (hX : Blk w X (xc g gS ga gd gl z lv pv)) (h : Both w g fp s gS bS l)
    (hl : l.length ≤ 1000000) (hs : s.sz ≤ 90000000) (hf : srightF s ga gd gl = 0) (hd : s.down = false) (P0 : List (List UInt8)) (hn : (P0.length : Int) = pagesOf ga gd gl) (h0 : 0 < P0.length) (hp : snapR l s ga gd gl z.life P0.length = some P0) :
    Calls Tryz.prog 52 #[.pointer (some ⟨bD, 0, none⟩), .pointer (some ⟨bE, 0, none⟩), .pointer (some ⟨bG, 0, none⟩), .pointer (some ⟨bx, 0, none⟩)] w fun e w' => e = .returned (.int .i64 0) ∧ ∃ R c, Blk w' X (xc g gS ga gd gl z lv (.slice (some ⟨R, 0, none⟩) P0.length c)) ∧ SRow w' R c P0 (fun j => w.heap.size ≤ j ∧ j ≠ R) ∧ w.heap.size ≤ R ∧ Keep [X] w w' := by
  have HR := Lib.hid (fun W (bW : Below w.heap.size w W) => Snap.read_any g fp s gS bS l ga gd gl z.life W hG (h.on bW) hl hs hf hd P0.length hn)
  rw [hp] at HR
  obtain ⟨q0, q1, q2, q3, q4, q5⟩ := hE.cells
  have cz : Below w.heap.size w w.drew := (Below.refl _ _).drew
  have hlX := hX.lt
  have hXc := Lib.hid (fun W (bW : Below w.heap.size w W) => show W.cell? ⟨X, 10, none⟩ = some pv ∧ W.cell? ⟨X, 5, none⟩ = some (.int .u64 (z.life.toNat : Int)) ∧ (∀ k, W.frozen? ⟨X, k, none⟩ = false) from
    ⟨(hX.on bW).cell (k := 10) (by simp), (hX.on bW).cell (k := 5) (by simp), (hX.on bW).free⟩)
  have HS := Lib.hid (fun W (kW : Keep [X] w W) => (hE.keep kW).cells)
  have HF := Lib.hid (fun W (bW : Below w.heap.size w W) (v : Value) => show Blk (W.setCell ⟨X, 10, none⟩ v) X (xc g gS ga gd gl z lv v) ∧ Keep [X] w (W.setCell ⟨X, 10, none⟩ v) from
    ⟨((hX.on bW).set (k := 10) v : Blk _ X _), (Keep.of_below bW [X]).set (p := ⟨X, 10, none⟩) (.inl (by simp)) _⟩)
  have HX5 := Lib.hid (fun W (bW : Below w.heap.size w W) (v : Value) => show (W.setCell ⟨X, 10, none⟩ v).cell? ⟨X, 5, none⟩ = some (.int .u64 (z.life.toNat : Int)) from ((HF.out W bW v).1).cell (k := 5) (by simp))
  have H0 := Lib.hid h0
  have x5 := (hXc.out w (Below.refl _ _)).2.1
  clear hp h hl hs hf hd hE hX hG hn h0
  go_enter Tryz.func52, Tryz.ntmps52
  go_wp2_with fail
  go_region_held3 (fun W => oS bD bE bG bx X g gS ga gd gl W ∧ W.cell? ⟨X, 5, none⟩ = some (.int .u64 (z.life.toNat : Int))) (first | exact ⟨HS.out _ (Keep.refl _ _), x5⟩ | exact ⟨HS.out _ (Keep.of_below cz _), (hXc.out _ cz).2.1⟩ | exact ⟨HS.out _ (Keep.of_below c1 _), (hXc.out _ c1).2.1⟩ | exact ⟨HS.out _ (HF.out _ c1 _).2, HX5.out _ c1 _⟩) ((go_at_call 53; refine (HR.out _ cz).mono ?_; rintro e w1 ⟨⟨A1, c1', rfl, own1⟩, b1⟩; have c1 := bt cz b1; obtain ⟨x10, _, fx⟩ := hXc.out w1 c1))
  obtain ⟨R, rfl, r1, r2⟩ := ownRows_srow own1 rfl H0.out
  have fin := Lib.hid (HF.out w1 c1 (.slice (some ⟨R, 0, none⟩) P0.length c1'))
  have hRX : R ≠ X := fun e => by have := (show w.heap.size ≤ R from r1); omega
  have fin2 := Lib.hid (r2.move ((Keep.refl [X] w1).set (p := ⟨X, 10, none⟩) (.inl (by simp)) (.slice (some ⟨R, 0, none⟩) P0.length c1')) (by simpa using hRX) (fun j hj _ => ⟨by simp; have := hj.1; have h9 : w.heap.size ≤ j := hj.1; omega, hj⟩))
  have fin3 := Lib.hid (show w.heap.size ≤ R from r1)
  clear x10 fx own1 r1 r2
  go_wp2_with fail
  go_ret
  exact ⟨rfl, R, c1', fin.out.1, fin2.out, fin3.out, fin.out.2⟩
set_option maxHeartbeats 1000000 in
theorem open3_any (bD bE bG bx bl X g : Nat) (fp : List Nat) (s : St) (gS bS : Nat) (l : List (List UInt8)) (ga gd gl : Int) (z : Z) (lv pv v0 : Value) (w : World) (hG : Gb ga gd gl) (hE : OEnv w bD bE bG bx X g gS ga gd gl) (hX : Blk w X (xc g gS ga gd gl z lv pv)) (h : Both w g fp s gS bS l) (hB : Box w bl v0)
    (nl : bl ≠ bD ∧ bl ≠ bE ∧ bl ≠ bG ∧ bl ≠ bx ∧ bl ≠ X) (hl : l.length ≤ 1000000) (hs : s.sz ≤ 90000000) (hf : wrightF s ga gd gl z.base = 0) (hd : s.down = false) (ts : List Tx) (hp : scanTx l s ga gd gl z.base z.life = ts) :
    Calls Tryz.prog 54 #[.pointer (some ⟨bD, 0, none⟩), .pointer (some ⟨bE, 0, none⟩), .pointer (some ⟨bG, 0, none⟩), .pointer (some ⟨bx, 0, none⟩), .pointer (some ⟨bl, 0, none⟩)] w fun e w' => e = .returned (.int .i64 0) ∧ ∃ A c, Box w' bl (.slice A ts.length c) ∧ Txs w' (fun j => w.heap.size ≤ j) A ts ∧ ts.length ≤ c ∧ c ≤ maxLen ∧ Keep [bl] w w' := by
  have HR := Lib.hid (fun W (bW : Below w.heap.size w W) => Wal.scan_any g fp s gS bS l ga gd gl z.life z.base W hG (h.on bW) hl hs hf hd)
  rw [hp] at HR
  obtain ⟨q0, q1, q2, q3, q4, q5⟩ := hE.cells
  have cz : Below w.heap.size w w.drew := (Below.refl _ _).drew
  have hlB := hB.lt
  have hlX := hX.lt
  have HS := Lib.hid (fun W (kW : Keep [bl] w W) => show oS bD bE bG bx X g gS ga gd gl W ∧ W.cell? ⟨X, 5, none⟩ = some (.int .u64 (z.life.toNat : Int)) ∧ W.cell? ⟨X, 6, none⟩ = some (.int .i64 z.base) from by
    obtain ⟨n1, n2, n3, n4, n5⟩ := nl
    obtain ⟨a, b, c⟩ := gthree (hE.g.keepK kW (by simp; exact fun e => n3 e.symm))
    have hx := hX.keepK kW (by simp; exact fun e => n5 e.symm)
    exact ⟨⟨(hE.d.keep kW (by simp; exact fun e => n1 e.symm)).cell, (hE.s.keep kW (by simp; exact fun e => n2 e.symm)).cell, a, b, c, (hE.x.keep kW (by simp; exact fun e => n4 e.symm)).cell⟩, hx.cell (k := 5) (by simp), hx.cell (k := 6) (by simp)⟩)
  have hXc := Lib.hid (fun W (bW : Below w.heap.size w W) => show W.cell? ⟨bl, 0, none⟩ = some v0 ∧ W.frozen? ⟨bl, 0, none⟩ = false from ⟨(hB.on' bW).cell, (hB.on' bW).free⟩)
  have HF := Lib.hid (fun W (bW : Below w.heap.size w W) (v : Value) => show Box (W.setCell ⟨bl, 0, none⟩ v) bl v ∧ Keep [bl] w (W.setCell ⟨bl, 0, none⟩ v) from
    ⟨(hB.on' bW).set v, (Keep.of_below bW [bl]).set (p := ⟨bl, 0, none⟩) (.inl (by simp)) _⟩)
  obtain ⟨_, x5, x6⟩ := HS.out w (Keep.refl _ _)
  clear hp h hl hs hf hd hE hX hG hB nl
  go_enter Tryz.func54, Tryz.ntmps54
  go_wp2_with fail
  go_region_held3 (fun W => oS bD bE bG bx X g gS ga gd gl W ∧ W.cell? ⟨X, 5, none⟩ = some (.int .u64 (z.life.toNat : Int)) ∧ W.cell? ⟨X, 6, none⟩ = some (.int .i64 z.base)) (first | exact HS.out _ (Keep.refl _ _) | exact HS.out _ (Keep.of_below cz _) | exact HS.out _ (Keep.of_below c1 _) | exact HS.out _ (HF.out _ c1 _).2) ((go_at_call 55; refine (HR.out _ cz).mono ?_; rintro e w1 ⟨⟨v1, rfl, own1⟩, b1⟩; obtain ⟨A1, c1', rfl, t1, t2, t3⟩ := own1.txs; have c1 := bt cz b1; obtain ⟨xb, fx⟩ := hXc.out w1 c1))
  have fin := Lib.hid (HF.out w1 c1 (.slice A1 ts.length c1'))
  have fin2 := Lib.hid (show Txs (w1.setCell ⟨bl, 0, none⟩ (.slice A1 ts.length c1')) (fun j => w.heap.size ≤ j) A1 ts from t1.keep ((Keep.refl [bl] w1).set (p := ⟨bl, 0, none⟩) (.inl (by simp)) (.slice A1 ts.length c1')) (fun j hj _ => by simp; have h9 : w.heap.size ≤ j := hj; omega))
  clear xb fx own1 t1
  go_wp2_with fail
  go_ret
  exact ⟨rfl, A1, c1', fin.out.1, fin2.out, t2, t3, fin.out.2⟩
end Go.Proofs.YtchcmklelmlbgaaGreat.Sto

/- The store and the document's state beside each other while the power is there, in plain Lean. No statement is proved here. -/
namespace Go.Proofs.YtchcmklelmlbgaaGreat.Sto
open Go.RowKit
open Go.Proofs.YtchcmklelmlbgaaGreat.Geom
open Go.Proofs.YtchcmklelmlbgaaGreat.Disk (St Wr write flush kept new zero512)
open Go.Proofs.YtchcmklelmlbgaaGreat.Sup (splace sB sL wf UpN atR best SV)
open Go.Proofs.YtchcmklelmlbgaaGreat.Snap (snapF snapR PagesOk)
open Go.Proofs.YtchcmklelmlbgaaGreat.Wal (Tx badB putF whyF whyF_zero fitsB allSecs allSecs_snoc tSecs tSecs_len scanTx)
set_option linter.unusedVariables false
/-- the document's state -/
structure RS where
  pages : List (List UInt8)
  gen : UInt64
  life : UInt64
  base : Int
  began : UInt64
  seq : Nat
  due : Bool
def RS.renew (gl : Int) (y : RS) : RS := ⟨y.pages, y.gen, y.life + 1, (y.base + (y.seq : Int)) % gl, y.gen, 0, false⟩
def RS.put (y : RS) (l : List Pg) (gen : UInt64) : RS := ⟨putP y.pages l, gen, y.life, y.base, y.began, y.seq + (l.length + 1), y.due⟩
def RS.commit (ga gd gl : Int) (y : RS) (l : List Pg) (gen : UInt64) : RS × Int :=
  if y.due = true then (y, 14) else
  if whyF ga gd gl y.seq l = 0 then (y.put l gen, 0)
  else if whyF ga gd gl y.seq l = 5 then ((y.renew gl).put l gen, 0)
  else (y, whyF ga gd gl y.seq l)
/-- a store on a disk, as the document has it -/
structure PInv (ga gd gl : Int) (n : Nat) (sm : List (List UInt8)) (st : St) (z : Z) (y : RS) : Prop where
  ex : ∃ (P0 : List (List UInt8)) (ts : List Tx) (gen0 : UInt64), InvN ga gd gl n sm st z.life z.base gen0 P0 ts ∧ z.gen = genT gen0 ts ∧ z.pages = applyT P0 ts ∧
    (z.due = false → z.seq = (allSecs z.life 0 ts).length) ∧ (z.due = true → z.next = (z.base + ((allSecs z.life 0 ts).length : Int)) % gl) ∧
    y = ⟨z.pages, z.gen, z.life, z.base, gen0, (allSecs z.life 0 ts).length, z.due⟩
  alive : z.dead = false
  has : z.due = false → z.has = true
theorem snocLen (life : UInt64) (ts : List Tx) (t : Tx) : (allSecs life 0 (ts ++ [t])).length = (allSecs life 0 ts).length + (t.pages.length + 1) := by
  rw [allSecs_snoc, Nat.zero_add, List.length_append, tSecs_len]
theorem PInv.pagesOk {ga gd gl : Int} {n : Nat} {sm : List (List UInt8)} {st : St} {z : Z} {y : RS} (h : PInv ga gd gl n sm st z y) : PagesOk ga gd gl n z.pages := by
  obtain ⟨P0, ts, gen0, hI, _, hp, _⟩ := h.ex
  rw [hp]
  exact applyT_ok ts P0 hI.pages hI.bad
theorem PInv.up {ga gd gl : Int} {n : Nat} {sm : List (List UInt8)} {st : St} {z : Z} {y : RS} (h : PInv ga gd gl n sm st z y) : UpN st n := by
  obtain ⟨P0, ts, gen0, hI, _⟩ := h.ex
  exact hI.up
theorem PInv.hb {ga gd gl : Int} {n : Nat} {sm : List (List UInt8)} {st : St} {z : Z} {y : RS} (h : PInv ga gd gl n sm st z y) : 0 ≤ z.base ∧ z.base ≤ 1073741824 := by
  obtain ⟨P0, ts, gen0, hI, _⟩ := h.ex
  exact hI.hb
theorem PInv.next {ga gd gl : Int} {n : Nat} {sm : List (List UInt8)} {st : St} {z : Z} {y : RS} (h : PInv ga gd gl n sm st z y) : baseN gl z = (y.base + (y.seq : Int)) % gl := by
  obtain ⟨P0, ts, gen0, hI, _, _, h1, h2, rfl⟩ := h.ex
  unfold baseN
  cases hd : z.due with
  | true => rw [if_pos rfl, h2 hd]
  | false => rw [if_neg (by simp), h1 hd]
theorem PInv.seqIs {ga gd gl : Int} {n : Nat} {sm : List (List UInt8)} {st : St} {z : Z} {y : RS} (h : PInv ga gd gl n sm st z y) (hd : z.due = false) : z.seq = y.seq ∧ (y.seq : Int) ≤ gl := by
  obtain ⟨P0, ts, gen0, hI, _, _, h1, h2, rfl⟩ := h.ex
  exact ⟨h1 hd, hI.len⟩
/-- a life begins, of any pages -/
theorem first_inv {ga gd gl : Int} {n : Nat} {sm : List (List UInt8)} {st : St} {life : UInt64} {base : Int} {gen : UInt64} {P : List (List UInt8)} {l : List (List UInt8)} (h : PreN ga gd gl n sm st life) (hr : right ga gd gl = true) (hP : PagesOk ga gd gl n P) (hb : 0 ≤ base ∧ base ≤ 1073741824) :
    (begF ga gd gl life base gen P sm st).2.2 = 0 ∧ InvN ga gd gl n (begF ga gd gl life base gen P sm st).1 (begF ga gd gl life base gen P sm st).2.1 life base gen P [] := by
  obtain ⟨h1, h2, h3⟩ := h.begin hr hP base gen hb
  unfold begF
  rw [if_pos h1]
  exact ⟨h2, h3⟩
theorem next_bd {ga gd gl : Int} {n : Nat} {sm : List (List UInt8)} {st : St} {z : Z} {y : RS} (h : PInv ga gd gl n sm st z y) (hr : right ga gd gl = true) : 0 ≤ baseN gl z ∧ baseN gl z < gl := by
  have hy := right_yes hr
  rw [h.next]
  exact ⟨Int.emod_nonneg _ (by omega), Int.emod_lt_of_pos _ (by omega)⟩
theorem PInv.renew {ga gd gl : Int} {n : Nat} {sm : List (List UInt8)} {st : St} {z : Z} {y : RS} (h : PInv ga gd gl n sm st z y) (hr : right ga gd gl = true) (hl : z.life.toNat ≠ 18446744073709551615) :
    (renO ga gd gl z sm st).2.2 = 0 ∧ PInv ga gd gl n (renO ga gd gl z sm st).1 (renO ga gd gl z sm st).2.1 (renF ga gd gl z sm st).1 (y.renew gl) := by
  have hy := right_yes hr
  have hP := h.pagesOk
  have hb := next_bd h hr
  have hn := h.next
  have hd := h.alive
  obtain ⟨P0, ts, gen0, hI, hg, hp, h1, h2, rfl⟩ := h.ex
  obtain ⟨e1, e2⟩ := first_inv (l := sm) (gen := z.gen) (hI.pre hl) hr hP (base := baseN gl z) ⟨hb.1, by omega⟩
  refine ⟨e1, ⟨z.pages, [], z.gen, ?_, ?_⟩, ?_, fun _ => by unfold renF Z.renew; simp only; rw [if_pos (show (renO ga gd gl z sm st).2.2 = 0 from e1)]; rfl⟩
  · show InvN ga gd gl n _ _ (z.renew gl (renO ga gd gl z sm st).2.2).life (z.renew gl (renO ga gd gl z sm st).2.2).base _ _ _
    unfold Z.renew
    rw [if_pos (show (renO ga gd gl z sm st).2.2 = 0 from e1)]
    exact e2
  · unfold renF Z.renew
    simp only
    rw [if_pos (show (renO ga gd gl z sm st).2.2 = 0 from e1)]
    refine ⟨rfl, rfl, fun _ => rfl, fun h => (by cases h), ?_⟩
    unfold RS.renew Z.begun
    simp only
    rw [hn]
    rfl
  · unfold renF Z.renew
    simp only
    rw [if_pos (show (renO ga gd gl z sm st).2.2 = 0 from e1)]
    exact hd
theorem PInv.append {ga gd gl : Int} {n : Nat} {sm : List (List UInt8)} {st : St} {z : Z} {y : RS} (h : PInv ga gd gl n sm st z y) (hr : right ga gd gl = true) (hd : z.due = false) {l : List Pg} (gen : UInt64) (hw : whyF ga gd gl z.seq l = 0) :
    (appO ga gd gl z l gen sm st).2.2 = 0 ∧ PInv ga gd gl n (appO ga gd gl z l gen sm st).1 (appO ga gd gl z l gen sm st).2.1 (appF ga gd gl z l gen sm st).1 (y.put l gen) := by
  obtain ⟨w1, w2, w3⟩ := whyF_zero hw
  have ha := h.alive
  have hh := h.has
  obtain ⟨P0, ts, gen0, hI, hg, hp, h1, h2, rfl⟩ := h.ex
  have hq := h1 hd
  obtain ⟨e1, e2⟩ := hI.append (t := ⟨l, gen⟩) hr (by rw [← hq]; exact w3) w1
  rw [← hq] at e1 e2
  have e3 : (appO ga gd gl z l gen sm st).2.2 = 0 := e1
  refine ⟨e1, ⟨P0, ts ++ [⟨l, gen⟩], gen0, ?_, ?_⟩, ?_, fun _ => by unfold appF Z.append; simp only; rw [if_pos e3]; exact hh hd⟩
  · show InvN ga gd gl n _ _ (z.append l gen (appO ga gd gl z l gen sm st).2.2).life (z.append l gen (appO ga gd gl z l gen sm st).2.2).base _ _ _
    unfold Z.append
    rw [if_pos e3]
    exact e2
  · unfold appF Z.append
    simp only
    rw [if_pos e3]
    simp only
    refine ⟨by rw [genT_snoc], by rw [applyT_snoc, hp], fun _ => by rw [snocLen, hq], fun h => (by rw [hd] at h; cases h), ?_⟩
    unfold RS.put
    simp only
    rw [snocLen]
  · unfold appF Z.append
    simp only
    rw [if_pos e3]
    exact ha
theorem PInv.commit {ga gd gl : Int} {n : Nat} {sm : List (List UInt8)} {st : St} {z : Z} {y : RS} (h : PInv ga gd gl n sm st z y) (hr : right ga gd gl = true) (hd : z.due = false) (hl : z.life.toNat ≠ 18446744073709551615) (l : List Pg) (gen : UInt64) :
    (comF ga gd gl z l gen sm st).2.2.2 = (y.commit ga gd gl l gen).2 ∧ PInv ga gd gl n (comF ga gd gl z l gen sm st).2.1 (comF ga gd gl z l gen sm st).2.2.1 (comF ga gd gl z l gen sm st).1 (y.commit ga gd gl l gen).1 := by
  have hyd : y.due = false := by obtain ⟨P0, ts, gen0, hI, hg, hp, h1, h2, rfl⟩ := h.ex; exact hd
  have hq := (h.seqIs hd).1
  have hnd : ¬ y.due = true := by rw [hyd]; decide
  unfold comF RS.commit
  rw [if_neg hnd, ← hq]
  by_cases hw : whyF ga gd gl z.seq l = 0
  · rw [if_pos hw, if_pos hw]
    obtain ⟨e1, e2⟩ := h.append hr hd gen hw
    exact ⟨e1, e2⟩
  · rw [if_neg hw, if_neg hw]
    by_cases h5 : whyF ga gd gl z.seq l = 5
    · obtain ⟨r1, r2⟩ := h.renew hr hl
      rw [if_pos h5, if_pos h5, if_pos r1]
      have hd2 : (renF ga gd gl z sm st).1.due = false ∧ (renF ga gd gl z sm st).1.seq = 0 := by
        unfold renF Z.renew
        simp only
        rw [if_pos r1]
        exact ⟨rfl, rfl⟩
      obtain ⟨e1, e2⟩ := r2.append hr hd2.1 (l := l) gen (by rw [hd2.2]; exact why_first h5)
      exact ⟨e1, e2⟩
    · rw [if_neg h5, if_neg h5]
      exact ⟨rfl, h⟩
/-- what Open has in mind -/
def opened (gl : Int) (life : UInt64) (base : Int) (gen0 : UInt64) (P0 : List (List UInt8)) (ts : List Tx) : Z :=
  ⟨life, base, genT gen0 ts, (base + ((allSecs life 0 ts).length : Int)) % gl, applyT P0 ts, true, false, 0, false⟩
def RS.isDue (y : RS) : RS := ⟨y.pages, y.gen, y.life, y.base, y.began, y.seq, true⟩
theorem PInv.opens {ga gd gl : Int} {n : Nat} {sm : List (List UInt8)} {st : St} {z : Z} {y : RS} (h : PInv ga gd gl n sm st z y) (hr : right ga gd gl = true) (hn : 4 ≤ n) :
    ∃ (gen0 : UInt64) (P0 : List (List UInt8)) (ts : List Tx), best (best none (atR sm st ga gd gl 2)) (atR sm st ga gd gl 3) = some ⟨z.life, z.base, gen0⟩ ∧ snapR sm st ga gd gl z.life P0.length = some P0 ∧ (P0.length : Int) = pagesOf ga gd gl ∧ PagesOk ga gd gl n P0 ∧ scanTx sm st ga gd gl z.base z.life = ts ∧
      (∀ t ∈ ts, badB ga gd gl t.pages = false) ∧ ((allSecs z.life 0 ts).length : Int) ≤ gl ∧ y.began = gen0 ∧ PInv ga gd gl n sm st (opened gl z.life z.base gen0 P0 ts) y.isDue := by
  obtain ⟨P0, ts, gen0, hI, hg, hp, h1, h2, rfl⟩ := h.ex
  refine ⟨gen0, P0, ts, hI.super hn, hI.read, hI.pages.len, hI.pages, hI.scan hr, hI.bad, hI.len, rfl, ⟨P0, ts, gen0, hI, rfl, rfl, fun h => (by cases h), fun _ => rfl, ?_⟩, rfl, fun h => by cases h⟩
  unfold RS.isDue opened
  simp only
  rw [hg, hp]
end Go.Proofs.YtchcmklelmlbgaaGreat.Sto

/- The store: Open's steps together. No statement is proved here. -/
namespace Go.Proofs.YtchcmklelmlbgaaGreat.Sto
open Go.RowKit
open Go.Proofs.YtchcmklelmlbgaaGreat.Geom
open Go.Proofs.YtchcmklelmlbgaaGreat.Disk (St DAt Did)
open Go.Proofs.YtchcmklelmlbgaaGreat.Sup (Gb gv gcell gthree srightF SV atR best rdV oV)
open Go.Proofs.YtchcmklelmlbgaaGreat.Snap (snapR OwnRows RetRows It)
open Go.Proofs.YtchcmklelmlbgaaGreat.Wal (scanTx OwnTx wrightF Tx Txs allSecs LAt)
set_option linter.unusedVariables false
set_option maxRecDepth 100000
def zi : Z := ⟨0, 0, 0, 0, [], true, false, 0, false⟩
/-- where Open's steps stand -/
def OIn (w5 : World) (bl X g gS : Nat) (ga gd gl : Int) (v : SV) (P0 : List (List UInt8)) (ts : List Tx) : Nat → World → Prop
  | 0, W => W = w5
  | 1, W => Blk W X (xc g gS ga gd gl (zi.sup v) (.pointer none) (.slice none 0 0)) ∧ Keep [X] w5 W
  | 2, W => ∃ R c, Blk W X (xc g gS ga gd gl (zi.sup v) (.pointer none) (.slice (some ⟨R, 0, none⟩) P0.length c)) ∧ SRow W R c P0 (fun j => w5.heap.size ≤ j ∧ j ≠ R) ∧ w5.heap.size ≤ R ∧ Keep [X] w5 W
  | _, W => ∃ R c A c', Blk W X (xc g gS ga gd gl (zi.sup v) (.pointer none) (.slice (some ⟨R, 0, none⟩) P0.length c)) ∧ SRow W R c P0 (fun j => w5.heap.size ≤ j ∧ j ≠ R) ∧ w5.heap.size ≤ R ∧ Box W bl (.slice A ts.length c') ∧ Txs W (fun j => w5.heap.size ≤ j ∧ j ≠ R) A ts ∧ ts.length ≤ c' ∧ c' ≤ maxLen ∧ Keep [X, bl] w5 W
def oks : Nat → FuncId
  | 0 => 50
  | 1 => 52
  | _ => 54
def ocs (bD bE bG bx bl : Nat) : Nat → Array Value
  | 0 => #[.pointer (some ⟨bD, 0, none⟩), .pointer (some ⟨bE, 0, none⟩), .pointer (some ⟨bG, 0, none⟩), .pointer (some ⟨bx, 0, none⟩)]
  | 1 => #[.pointer (some ⟨bD, 0, none⟩), .pointer (some ⟨bE, 0, none⟩), .pointer (some ⟨bG, 0, none⟩), .pointer (some ⟨bx, 0, none⟩)]
  | _ => #[.pointer (some ⟨bD, 0, none⟩), .pointer (some ⟨bE, 0, none⟩), .pointer (some ⟨bG, 0, none⟩), .pointer (some ⟨bx, 0, none⟩), .pointer (some ⟨bl, 0, none⟩)]
theorem both1 {w w' : World} {X g : Nat} {fp : List Nat} {s : St} {gS bS : Nat} {l : List (List UInt8)} (h : Both w g fp s gS bS l) (k : Keep [X] w w') (hX : X ∉ bS :: gS :: fp) : Both w' g fp s gS bS l := by
  simp only [List.mem_cons, not_or] at hX
  exact ⟨h.disk.keep k (fun j hj e => hX.2.2 (by rw [List.mem_singleton] at e; exact e ▸ hj)), h.sym.keepK k (by simp; exact fun e => hX.2.1 e.symm) (by simp; exact fun e => hX.1 e.symm), h.nS, h.nB⟩
theorem open_steps (bD bE bG bx bl bF X g : Nat) (fp : List Nat) (s : St) (gS bS : Nat) (l : List (List UInt8)) (ga gd gl : Int) (w : World) (hG : Gb ga gd gl) (hE : OEnv w bD bE bG bx X g gS ga gd gl) (hX : Blk w X (xc g gS ga gd gl zi (.pointer none) (.slice none 0 0))) (h : Both w g fp s gS bS l) (hB : Box w bl (.slice none 0 0))
    (hF : Blk w bF [.func (.func 50) #[] (ocs bD bE bG bx bl 0), .func (.func 52) #[] (ocs bD bE bG bx bl 1), .func (.func 54) #[] (ocs bD bE bG bx bl 2)])
    (nl : bl ≠ bD ∧ bl ≠ bE ∧ bl ≠ bG ∧ bl ≠ bx ∧ bl ≠ X) (nF : bF ≠ X ∧ bF ≠ bl) (nX : X ∉ bS :: gS :: fp) (hl : l.length ≤ 1000000) (hs : s.sz ≤ 90000000) (hf : srightF s ga gd gl = 0) (hd : s.down = false)
    (v : SV) (ho : best (best none (atR l s ga gd gl 2)) (atR l s ga gd gl 3) = some v) (hb : 0 ≤ v.base ∧ v.base ≤ 1073741824) (P0 : List (List UInt8)) (hn : (P0.length : Int) = pagesOf ga gd gl) (h0 : 0 < P0.length) (hp : snapR l s ga gd gl v.life P0.length = some P0) (ts : List Tx) (ht : scanTx l s ga gd gl v.base v.life = ts) :
    Calls Tryz.prog 38 #[.slice (some ⟨bF, 0, none⟩) 3 3] w fun e w' => e = .returned (.int .i64 0) ∧ OIn w bl X g gS ga gd gl v P0 ts 3 w' := by
  refine Calls.mono (steps_any 3 3 bF 0 oks (fun _ => #[]) (ocs bD bE bG bx bl) (OIn w bl X g gS ga gd gl v P0 ts) (fun _ _ => False) w (by omega) rfl ?_ ?_ ?_) ?_
  · intro i hi W hI
    have hk : Keep [X] w W := by
      match i, hi, hI with
      | 0, _, hI => rw [show W = w from hI]; exact Keep.refl _ _
      | 1, _, hI => exact hI.2
      | 2, _, hI => obtain ⟨_, _, _, _, _, k⟩ := hI; exact k
    have hF' := hF.keepK hk (by simpa using nF.1)
    match i, hi with
    | 0, _ => exact hF'.cell (k := 0) (by simp)
    | 1, _ => exact hF'.cell (k := 1) (by simp)
    | 2, _ => exact hF'.cell (k := 2) (by simp)
  · intro i hi x W
    match i, hi with
    | 0, _ => simp [go_sem, oks]
    | 1, _ => simp [go_sem, oks]
    | 2, _ => simp [go_sem, oks]
  · intro i hi W hI
    match i, hi, hI with
    | 0, _, hI =>
      have hw : W = w := hI
      rw [hw, show (#[] : Array Value) ++ ocs bD bE bG bx bl 0 = #[.pointer (some ⟨bD, 0, none⟩), .pointer (some ⟨bE, 0, none⟩), .pointer (some ⟨bG, 0, none⟩), .pointer (some ⟨bx, 0, none⟩)] from by simp [ocs]]
      refine Calls.mono (open1_any bD bE bG bx X g fp s gS bS l ga gd gl zi _ _ w hG hE hX h hl hs hf hd (some v) ho) ?_
      rintro e w' ⟨rfl, x, k⟩
      exact ⟨_, rfl, fun _ => ⟨x, k⟩, fun e => absurd rfl e⟩
    | 1, _, hI =>
      obtain ⟨x, k⟩ := hI
      rw [show (#[] : Array Value) ++ ocs bD bE bG bx bl 1 = #[.pointer (some ⟨bD, 0, none⟩), .pointer (some ⟨bE, 0, none⟩), .pointer (some ⟨bG, 0, none⟩), .pointer (some ⟨bx, 0, none⟩)] from by simp [ocs]]
      refine Calls.mono (open2_any bD bE bG bx X g fp s gS bS l ga gd gl (zi.sup v) _ _ W hG (hE.keep k) x (both1 h k nX) hl hs hf hd P0 hn h0 hp) ?_
      rintro e w' ⟨rfl, R, c, y1, y2, y3, y4⟩
      exact ⟨_, rfl, fun _ => ⟨R, c, y1, y2.imp (fun j _ hj => ⟨Nat.le_trans k.size hj.1, hj.2⟩), Nat.le_trans k.size y3, k.trans y4 (Fresh.refl _ _)⟩, fun e => absurd rfl e⟩
    | 2, _, hI =>
      obtain ⟨R, c, x, y, z, k⟩ := hI
      rw [show (#[] : Array Value) ++ ocs bD bE bG bx bl 2 = #[.pointer (some ⟨bD, 0, none⟩), .pointer (some ⟨bE, 0, none⟩), .pointer (some ⟨bG, 0, none⟩), .pointer (some ⟨bx, 0, none⟩), .pointer (some ⟨bl, 0, none⟩)] from by simp [ocs]]
      have hbl := hB.lt
      refine Calls.mono (open3_any bD bE bG bx bl X g fp s gS bS l ga gd gl (zi.sup v) _ _ _ W hG (hE.keep k) x (both1 h k nX) (hB.keep k (by simpa using nl.2.2.2.2)) nl hl hs (wright_of hf hb.1 hb.2) hd ts ht) ?_
      rintro e w' ⟨rfl, A, c', y1, y2, y3, y4, y5⟩
      have hRl := y.lt
      refine ⟨_, rfl, fun _ => ⟨R, c, A, c', x.keepK y5 (by simp; exact fun e => nl.2.2.2.2 e.symm), y.keep y5 (by simp; omega) (fun j hj _ => by simp; have := hj.1; omega), z, y1, y2.imp (fun j _ hj => ⟨by have h9 : W.heap.size ≤ j := hj; have := k.size; omega, by have h9 : W.heap.size ≤ j := hj; omega⟩), y3, y4, ?_⟩, fun e => absurd rfl e⟩
      exact (k.more (fp' := [X, bl]) (fun j hj => by simp at hj ⊢; exact .inl hj)).trans (y5.more (fp' := [X, bl]) (fun j hj => by simp at hj ⊢; exact .inr hj)) (Fresh.refl _ _)
  · rintro e w' ⟨f, rfl, r1, r2⟩
    by_cases hf0 : f = 0
    · exact ⟨by rw [hf0], r1 hf0⟩
    · exact absurd (r2 hf0) id
end Go.Proofs.YtchcmklelmlbgaaGreat.Sto

/- The store: Open. No statement is proved here. -/
namespace Go.Proofs.YtchcmklelmlbgaaGreat.Sto
open Go.RowKit
open Go.Proofs.YtchcmklelmlbgaaGreat.Geom
open Go.Proofs.YtchcmklelmlbgaaGreat.Disk (St DAt Did)
open Go.Proofs.YtchcmklelmlbgaaGreat.Sup (Gb gv gcell gthree srightF SV atR best rdV oV)
open Go.Proofs.YtchcmklelmlbgaaGreat.Snap (snapR OwnRows RetRows It)
open Go.Proofs.YtchcmklelmlbgaaGreat.Wal (scanTx OwnTx wrightF Tx Txs allSecs LAt badB)
set_option linter.unusedVariables false
set_option maxRecDepth 100000
/-- Open's store behind so many transactions -/
def zk (life : UInt64) (base : Int) (gen0 : UInt64) (P0 : List (List UInt8)) (ts : List Tx) : Z :=
  ⟨life, base, genT gen0 ts, base + ((allSecs life 0 ts).length : Int), applyT P0 ts, true, false, 0, false⟩
def Z.setNext (z : Z) (n : Int) : Z := { z with next := n }
theorem zk_snoc (life : UInt64) (base : Int) (gen0 : UInt64) (P0 : List (List UInt8)) (ts : List Tx) (t : Tx) :
    (((zk life base gen0 P0 ts).put t.pages).setGen t.gen).setNext ((zk life base gen0 P0 ts).next + ((t.pages.length : Int) + 1)) = zk life base gen0 P0 (ts ++ [t]) := by
  unfold zk Z.put Z.setGen Z.setNext
  simp only
  rw [genT_snoc, applyT_snoc, snocLen]
  congr 1
  omega
theorem SAt.next {w w1 : World} {X R L g : Nat} {fp : List Nat} {gS bS : Nat} {ga gd gl : Int} {z : Z} {s : St} {l : List (List UInt8)} (h0 : SAt [] w X R L g fp gS bS ga gd gl z s l) (b : Below w.heap.size w w1) (n : Int) : SAt [] (w1.setCell ⟨X, 9, none⟩ (.int .i64 n)) X R L g fp gS bS ga gd gl (z.setNext n) s l ∧ Keep [X] w (w1.setCell ⟨X, 9, none⟩ (.int .i64 n)) := by
  have h := h0.on b
  obtain ⟨lv, c, h1, h2, h3⟩ := h.blk
  obtain ⟨x1, x2, x3, x4⟩ := h.nX
  have hk : Keep [X] w1 (w1.setCell ⟨X, 9, none⟩ (.int .i64 n)) := (Keep.refl _ _).set (.inl (by simp)) _
  refine ⟨⟨both1 h.both hk (by simp only [List.mem_cons, not_or]; exact ⟨x2, x3, x4⟩), ⟨lv, c, (h1.set (k := 9) _ : Blk _ X (xc g gS ga gd gl (z.setNext n) lv (.slice (some ⟨R, 0, none⟩) z.pages.length c))), h2, h3.move hk (by simp; exact fun e => x1 e.symm) (fun j hj hlt => ⟨by simp; exact hj.1, hj⟩)⟩,
    fun hd => ⟨Blk.other (h.log hd).1 _ (h.log hd).2, (h.log hd).2⟩, h.nX, h.nR, h.nL, Nat.lt_of_lt_of_le h.lt hk.size, fun j hj => Nat.lt_of_lt_of_le (h.exl j hj) hk.size⟩, (Keep.of_below b [X]).trans hk (Fresh.refl _ _)⟩
theorem w64 {k : Nat} (h : k ≤ 1000000) : Value.int .i64 (wrap64 ((k : Int) + 1)) = Value.int .i64 ((k + 1 : Nat) : Int) := by
  have e : wrap64 ((k : Int) + 1) = ((k + 1 : Nat) : Int) := by unfold wrap64; omega
  rw [e]
theorem msr {n k : Nat} (h : k < n) (h6 : n ≤ 64) : n - (intOf (Value.int .i64 (wrap64 ((k : Int) + 1)))).toNat < n - (intOf (Value.int .i64 (k : Int))).toNat := by
  rw [w64 (by omega)]; simp only [intOf]; omega
theorem secs_take (life : UInt64) : ∀ (ts : List Tx) (k q : Nat), (allSecs life q (ts.take k)).length ≤ (allSecs life q ts).length ∧ ts.length ≤ (allSecs life q ts).length
  | [], k, q => by simp [allSecs]
  | t :: r, 0, q => by
    have := (secs_take life r 0 (q + (t.pages.length + 1))).2
    refine ⟨by simp [allSecs], ?_⟩
    show _ ≤ (Wal.tSecs life q t ++ allSecs life (q + (t.pages.length + 1)) r).length
    rw [List.length_append, Wal.tSecs_len, List.length_cons]; omega
  | t :: r, k + 1, q => by
    have := secs_take life r k (q + (t.pages.length + 1))
    refine ⟨?_, ?_⟩
    · show (Wal.tSecs life q t ++ allSecs life (q + (t.pages.length + 1)) (r.take k)).length ≤ (Wal.tSecs life q t ++ allSecs life (q + (t.pages.length + 1)) r).length
      rw [List.length_append, List.length_append]; omega
    · show _ ≤ (Wal.tSecs life q t ++ allSecs life (q + (t.pages.length + 1)) r).length
      rw [List.length_append, Wal.tSecs_len, List.length_cons]; omega
theorem SAt.raw {W : World} {X R g : Nat} {fp : List Nat} {gS bS : Nat} {ga gd gl : Int} {z : Z} {s : St} {l : List (List UInt8)} {c N B : Nat} (hb : Both W g fp s gS bS l) (hX : Blk W X (xc g gS ga gd gl z (.pointer none) (.slice (some ⟨R, 0, none⟩) z.pages.length c))) (hS : SRow W R c z.pages (fun j => B ≤ j ∧ j ≠ R)) (hh : z.has = false)
    (hN : ∀ j ∈ bS :: gS :: fp, j < N) (h1 : N ≤ X) (h2 : X < B) (h3 : B ≤ R) : SAt [] W X R X g fp gS bS ga gd gl z s l := by
  have n : ∀ j, N ≤ j → j ≠ bS ∧ j ≠ gS ∧ j ∉ fp := fun j hj => ⟨fun e => by have := hN bS (by simp); omega, fun e => by have := hN gS (by simp); omega, fun e => by have := hN j (by simp [e]); omega⟩
  obtain ⟨x1, x2, x3⟩ := n X h1
  obtain ⟨r1, r2, r3⟩ := n R (by omega)
  exact ⟨hb, ⟨.pointer none, c, hX, fun e => by (rw [hh] at e; cases e), hS.imp (fun j _ hj => by
    obtain ⟨a, b, d⟩ := n j (by omega)
    exact ⟨by omega, hj.2, by omega, a, ⟨b, by simp⟩, d⟩)⟩, fun e => by (rw [hh] at e; cases e), ⟨by omega, x1, x2, x3⟩, ⟨by omega, r1, r2, r3⟩, ⟨x1, x2, x3⟩, hX.lt, fun j hj => by cases hj⟩
theorem zk_first (v : SV) (P0 : List (List UInt8)) : ({ zi.sup v with pages := P0 } : Z).setNext v.base = zk v.life v.base v.gen P0 [] := by
  unfold zk Z.setNext Z.sup zi
  simp only
  congr 1
  simp [allSecs]
set_option maxHeartbeats 2000000 in
theorem open_any (g : Nat) (fp : List Nat) (s : St) (gS bS : Nat) (l : List (List UInt8)) (ga gd gl : Int) (w : World) (hG : Gb ga gd gl) (h : Both w g fp s gS bS l) (hl : l.length ≤ 1000000) (hs : s.sz ≤ 90000000) (hf : srightF s ga gd gl = 0) (hd : s.down = false)
    (v : SV) (ho : best (best none (atR l s ga gd gl 2)) (atR l s ga gd gl 3) = some v) (hb : 0 ≤ v.base ∧ v.base ≤ 1073741824) (P0 : List (List UInt8)) (hn : (P0.length : Int) = pagesOf ga gd gl) (h0 : 0 < P0.length) (hp : snapR l s ga gd gl v.life P0.length = some P0) (ts : List Tx) (ht : scanTx l s ga gd gl v.base v.life = ts)
    (hbd : ∀ t ∈ ts, badB ga gd gl t.pages = false) (hlen : ((allSecs v.life 0 ts).length : Int) ≤ gl) :
    Calls Tryz.prog 17 #[.pointer (some ⟨g, 0, none⟩), .pointer (some ⟨gS, 0, none⟩), gv ga gd gl] w fun e w' => ∃ X R, e = .returned (.tuple #[.pointer (some ⟨X, 0, none⟩), .int .i64 0]) ∧ SAt [] w' X R X g fp gS bS ga gd gl (opened gl v.life v.base v.gen P0 ts) s l ∧ Below w.heap.size w w' ∧ w.heap.size ≤ X ∧ w.heap.size ≤ R := by
  obtain ⟨w3, hw3⟩ : ∃ q, q = ((w.alloc (.cells #[.pointer (some ⟨g, 0, none⟩)] 28)).alloc (.cells #[.pointer (some ⟨gS, 0, none⟩)] 33)).alloc (.cells #[.int .i64 ga, .int .i64 gd, .int .i64 gl] 23) := ⟨_, rfl⟩
  have b3 : Below w.heap.size w w3 := by rw [hw3]; exact b3alloc _ _ _ _
  have q0 : Box w3 w.heap.size (.pointer (some ⟨g, 0, none⟩)) := by rw [hw3]; exact ((Box.new w _ _).alloc _).alloc _
  have q1 : Box w3 (w.heap.size + 1) (.pointer (some ⟨gS, 0, none⟩)) := by rw [hw3]; simpa using (Box.new (w.alloc (.cells #[.pointer (some ⟨g, 0, none⟩)] 28)) 33 (.pointer (some ⟨gS, 0, none⟩))).alloc _
  have q2 : Blk w3 (w.heap.size + 1 + 1) (gcell ga gd gl) := by rw [hw3]; simpa using Blk.new ((w.alloc (.cells #[.pointer (some ⟨g, 0, none⟩)] 28)).alloc (.cells #[.pointer (some ⟨gS, 0, none⟩)] 33)) (gcell ga gd gl) 23
  have HR := Lib.hid (fun W (bW : Below w.heap.size w W) => right_any g fp s gS ga gd gl W hG (h.disk.on bW))
  rw [hf] at HR
  have HW := Lib.hid hw3
  have HB3 := Lib.hid b3
  have HQ := Lib.hid (show _ ∧ _ ∧ _ from ⟨q0, q1, q2⟩)
  have y0 := q0.cell
  have y1 := q1.cell
  obtain ⟨y2, y3, y4⟩ := gthree q2
  have e0 := q0.lt
  have e1 := q1.lt
  have e2 := q2.lt
  have HST := Lib.hid (fun bx bl bF X W hE hX hB hF nl nF nX hBo => open_steps w.heap.size (w.heap.size + 1) (w.heap.size + 1 + 1) bx bl bF X g fp s gS bS l ga gd gl W hG hE hX hBo hB hF nl nF nX hl hs hf hd v ho hb P0 hn h0 hp ts ht)
  have HH := Lib.hid h
  have Hbd := Lib.hid hbd
  have Hr := Lib.hid (right_yes (Sup.srightF_yes hf).1)
  have Hlen := Lib.hid hlen
  have Hb := Lib.hid hb
  have Hn := Lib.hid hn
  clear hw3 q0 q1 q2 b3 hl hs hf hd ho hb hn h0 hp ht hbd hlen h
  go_enter Tryz.func17, Tryz.ntmps17
  go_upto_region 1 with (fail)
  rw [← HW.out]
  go_upto_region 6 with (go_at_call 36; refine (HR.out _ HB3.out).mono ?_; rintro e w4 ⟨rfl, b4⟩; have u0 := (HQ.out.1.on' b4).cell; have u1 := (HQ.out.2.1.on' b4).cell; obtain ⟨u2, u3, u4⟩ := gthree (HQ.out.2.2.on b4); have l0 := Nat.lt_of_lt_of_le e0 b4.size; have l1 := Nat.lt_of_lt_of_le e1 b4.size; have l2 := Nat.lt_of_lt_of_le e2 b4.size)
  obtain ⟨w7, hw7⟩ : ∃ q, q = (((w4.alloc (.cells #[.pointer (some ⟨g, 0, none⟩), .pointer (some ⟨gS, 0, none⟩), .int .i64 ga, .int .i64 gd, .int .i64 gl, .int .u64 0, .int .i64 0, .int .u64 0, .pointer none, .int .i64 0, .slice none 0 0, .bool true, .bool false] 93)).alloc (.cells #[.pointer (some ⟨w4.heap.size, 0, none⟩)] 35)).alloc (.cells #[.slice none 0 0] 99)) := ⟨_, rfl⟩
  have b7 : Below w4.heap.size w4 w7 := by rw [hw7]; exact b3alloc _ _ _ _
  have s7 : w7.heap.size = w4.heap.size + 1 + 1 + 1 := by rw [hw7]; simp
  have hX7 : Blk w7 w4.heap.size (xc g gS ga gd gl zi (.pointer none) (.slice none 0 0)) := by rw [hw7]; exact ((Blk.new w4 (xc g gS ga gd gl zi (.pointer none) (.slice none 0 0)) 93).alloc _).alloc _
  have hx7 : Box w7 (w4.heap.size + 1) (.pointer (some ⟨w4.heap.size, 0, none⟩)) := by rw [hw7]; simpa using (Box.new (w4.alloc (.cells #[.pointer (some ⟨g, 0, none⟩), .pointer (some ⟨gS, 0, none⟩), .int .i64 ga, .int .i64 gd, .int .i64 gl, .int .u64 0, .int .i64 0, .int .u64 0, .pointer none, .int .i64 0, .slice none 0 0, .bool true, .bool false] 93)) 35 (.pointer (some ⟨w4.heap.size, 0, none⟩))).alloc _
  have hl7 : Box w7 (w4.heap.size + 1 + 1) (.slice none 0 0) := by rw [hw7]; simpa using Box.new ((w4.alloc (.cells #[.pointer (some ⟨g, 0, none⟩), .pointer (some ⟨gS, 0, none⟩), .int .i64 ga, .int .i64 gd, .int .i64 gl, .int .u64 0, .int .i64 0, .int .u64 0, .pointer none, .int .i64 0, .slice none 0 0, .bool true, .bool false] 93)).alloc (.cells #[.pointer (some ⟨w4.heap.size, 0, none⟩)] 35)) 99 (.slice none 0 0)
  have HW7 := Lib.hid hw7
  have B4 := Lib.hid (bt HB3.out b4)
  have hw4 := Lib.hid (bt HB3.out b4).size
  have Hq7 := Lib.hid (show _ ∧ _ ∧ _ ∧ _ ∧ _ from ⟨hX7, hx7, hl7, b7, s7⟩)
  have E7 := Lib.hid (show ∀ W, Below w7.heap.size w7 W → OEnv W w.heap.size (w.heap.size + 1) (w.heap.size + 1 + 1) (w4.heap.size + 1) w4.heap.size g gS ga gd gl from fun W bW =>
    ⟨HQ.out.1.on' (bt b4 (bt b7 bW)), HQ.out.2.1.on' (bt b4 (bt b7 bW)), HQ.out.2.2.on (bt b4 (bt b7 bW)), hx7.on' bW, by omega, by omega, by omega, by omega⟩)
  have HN := Lib.hid (show ∀ j ∈ bS :: gS :: fp, j < w.heap.size from fun j hj => by
    have hls := HH.out.sym.lt
    simp only [List.mem_cons] at hj
    rcases hj with e | e | e
    · omega
    · omega
    · exact HH.out.disk.lt _ e)
  obtain ⟨X, hXd⟩ : ∃ X, X = w4.heap.size := ⟨_, rfl⟩
  have HXd := Lib.hid hXd
  have Hl2 := Lib.hid l2
  clear hw7 hX7 hx7 hl7 b7 s7 hXd u0 u1 u2 u3 u4 l0 l1 l2 b4 e0 e1 e2 y0 y1 y2 y3 y4
  rw [← HW7.out]
  have HST2 := Lib.hid (HST.out (w4.heap.size + 1) (w4.heap.size + 1 + 1) w7.heap.size w4.heap.size (w7.alloc (.cells #[.func (.func 50) #[] #[.pointer (some ⟨w.heap.size, 0, none⟩), .pointer (some ⟨w.heap.size + 1, 0, none⟩), .pointer (some ⟨w.heap.size + 1 + 1, 0, none⟩), .pointer (some ⟨w4.heap.size + 1, 0, none⟩)], .func (.func 52) #[] #[.pointer (some ⟨w.heap.size, 0, none⟩), .pointer (some ⟨w.heap.size + 1, 0, none⟩), .pointer (some ⟨w.heap.size + 1 + 1, 0, none⟩), .pointer (some ⟨w4.heap.size + 1, 0, none⟩)], .func (.func 54) #[] #[.pointer (some ⟨w.heap.size, 0, none⟩), .pointer (some ⟨w.heap.size + 1, 0, none⟩), .pointer (some ⟨w.heap.size + 1 + 1, 0, none⟩), .pointer (some ⟨w4.heap.size + 1, 0, none⟩), .pointer (some ⟨w4.heap.size + 1 + 1, 0, none⟩)]] 122)) (E7.out _ (b1alloc _ _)) (Hq7.out.1.on (b1alloc _ _)) (Hq7.out.2.2.1.on' (b1alloc _ _)) (Blk.new w7 _ _) ⟨by have := Hl2.out; omega, by have := Hl2.out; omega, by have := Hl2.out; omega, by omega, by omega⟩ ⟨by have := Hq7.out.2.2.2.2; omega, by have := Hq7.out.2.2.2.2; omega⟩ (fun e => by have := HN.out _ e; have := hw4.out; omega) (HH.out.on (bt B4.out (bt Hq7.out.2.2.2.1 (b1alloc _ _)))))
  go_upto_region 9 with (go_at_call 38; refine HST2.out.mono ?_; rintro e w8 ⟨rfl, hO⟩; have HO := Lib.hid hO; clear hO)
  have hls := HH.out.sym.lt
  obtain ⟨X8, hX8d⟩ : ∃ X, X = w4.heap.size := ⟨_, rfl⟩
  obtain ⟨bl8, hbl8d⟩ : ∃ X, X = w4.heap.size + 1 + 1 := ⟨_, rfl⟩
  obtain ⟨R, c, A, c', hX8, hS8, hR8, hl8, hT8, hc1, hc2, k8⟩ := HO.out
  have bs8 : ∀ o : Obj, w7.heap.size < (w7.alloc o).heap.size := fun o => by simp
  have hB8 := bs8 (.cells #[.func (.func 50) #[] #[.pointer (some ⟨w.heap.size, 0, none⟩), .pointer (some ⟨w.heap.size + 1, 0, none⟩), .pointer (some ⟨w.heap.size + 1 + 1, 0, none⟩), .pointer (some ⟨w4.heap.size + 1, 0, none⟩)], .func (.func 52) #[] #[.pointer (some ⟨w.heap.size, 0, none⟩), .pointer (some ⟨w.heap.size + 1, 0, none⟩), .pointer (some ⟨w.heap.size + 1 + 1, 0, none⟩), .pointer (some ⟨w4.heap.size + 1, 0, none⟩)], .func (.func 54) #[] #[.pointer (some ⟨w.heap.size, 0, none⟩), .pointer (some ⟨w.heap.size + 1, 0, none⟩), .pointer (some ⟨w.heap.size + 1 + 1, 0, none⟩), .pointer (some ⟨w4.heap.size + 1, 0, none⟩), .pointer (some ⟨w4.heap.size + 1 + 1, 0, none⟩)]] 122)
  have hE8 := E7.out _ (b1alloc w7 (.cells #[.func (.func 50) #[] #[.pointer (some ⟨w.heap.size, 0, none⟩), .pointer (some ⟨w.heap.size + 1, 0, none⟩), .pointer (some ⟨w.heap.size + 1 + 1, 0, none⟩), .pointer (some ⟨w4.heap.size + 1, 0, none⟩)], .func (.func 52) #[] #[.pointer (some ⟨w.heap.size, 0, none⟩), .pointer (some ⟨w.heap.size + 1, 0, none⟩), .pointer (some ⟨w.heap.size + 1 + 1, 0, none⟩), .pointer (some ⟨w4.heap.size + 1, 0, none⟩)], .func (.func 54) #[] #[.pointer (some ⟨w.heap.size, 0, none⟩), .pointer (some ⟨w.heap.size + 1, 0, none⟩), .pointer (some ⟨w.heap.size + 1 + 1, 0, none⟩), .pointer (some ⟨w4.heap.size + 1, 0, none⟩), .pointer (some ⟨w4.heap.size + 1 + 1, 0, none⟩)]] 122))
  have bb7 := bt B4.out (bt Hq7.out.2.2.2.1 (b1alloc w7 (.cells #[.func (.func 50) #[] #[.pointer (some ⟨w.heap.size, 0, none⟩), .pointer (some ⟨w.heap.size + 1, 0, none⟩), .pointer (some ⟨w.heap.size + 1 + 1, 0, none⟩), .pointer (some ⟨w4.heap.size + 1, 0, none⟩)], .func (.func 52) #[] #[.pointer (some ⟨w.heap.size, 0, none⟩), .pointer (some ⟨w.heap.size + 1, 0, none⟩), .pointer (some ⟨w.heap.size + 1 + 1, 0, none⟩), .pointer (some ⟨w4.heap.size + 1, 0, none⟩)], .func (.func 54) #[] #[.pointer (some ⟨w.heap.size, 0, none⟩), .pointer (some ⟨w.heap.size + 1, 0, none⟩), .pointer (some ⟨w.heap.size + 1 + 1, 0, none⟩), .pointer (some ⟨w4.heap.size + 1, 0, none⟩), .pointer (some ⟨w4.heap.size + 1 + 1, 0, none⟩)]] 122)))
  obtain ⟨B, hBd⟩ : ∃ B, B = (w7.alloc (.cells #[.func (.func 50) #[] #[.pointer (some ⟨w.heap.size, 0, none⟩), .pointer (some ⟨w.heap.size + 1, 0, none⟩), .pointer (some ⟨w.heap.size + 1 + 1, 0, none⟩), .pointer (some ⟨w4.heap.size + 1, 0, none⟩)], .func (.func 52) #[] #[.pointer (some ⟨w.heap.size, 0, none⟩), .pointer (some ⟨w.heap.size + 1, 0, none⟩), .pointer (some ⟨w.heap.size + 1 + 1, 0, none⟩), .pointer (some ⟨w4.heap.size + 1, 0, none⟩)], .func (.func 54) #[] #[.pointer (some ⟨w.heap.size, 0, none⟩), .pointer (some ⟨w.heap.size + 1, 0, none⟩), .pointer (some ⟨w.heap.size + 1 + 1, 0, none⟩), .pointer (some ⟨w4.heap.size + 1, 0, none⟩), .pointer (some ⟨w4.heap.size + 1 + 1, 0, none⟩)]] 122)).heap.size := ⟨_, rfl⟩
  rw [← hBd] at hB8 hS8 hR8 hT8
  have s7 := Hq7.out.2.2.2.2
  have h42 := Hl2.out
  have hX4 := hw4.out
  have bb8 : Below w.heap.size w w8 := bb7.trans (k8.below (fun j hj => by simp only [List.mem_cons, List.not_mem_nil, or_false] at hj; rcases hj with e | e <;> omega) bb7.size)
  have hSA : SAt [] w8 w4.heap.size R w4.heap.size g fp gS bS ga gd gl ({ zi.sup v with pages := P0 } : Z) s l := SAt.raw (HH.out.on bb8) hX8 hS8 rfl HN.out hX4 (by omega) hR8
  have HC := Lib.hid (fun W (kW : Keep [w4.heap.size, R] w8 W) => show W.cell? ⟨w4.heap.size + 1, 0, none⟩ = some (.pointer (some ⟨w4.heap.size, 0, none⟩)) ∧ W.cell? ⟨w4.heap.size + 1 + 1, 0, none⟩ = some (.slice A ts.length c') ∧ W.cell? ⟨w.heap.size + 1 + 1, 2, none⟩ = some (.int .i64 gl) ∧ Txs W (fun j => B ≤ j ∧ j ≠ R) A ts from by
    have a1 := (hE8.x.keep k8 (by simp)).keep kW (by simp; omega)
    have a2 := hl8.keep kW (by simp; omega)
    have a3 := (hE8.g.keepK k8 (by simp; omega)).keepK kW (by simp; omega)
    exact ⟨a1.cell, a2.cell, (gthree a3).2.2, hT8.keep kW (fun j hj _ => by simp; omega)⟩)
  have HS8 := Lib.hid hSA
  have HF8 := Lib.hid (fun W (bW : Below w8.heap.size w8 W) => (zk_first v P0) ▸ hSA.next bW v.base)
  obtain ⟨lv8, c8, x8, _, _⟩ := hSA.blk
  obtain ⟨o0, o1, o2, o3, o4, o5, o6, o7, o8, o9, o10, o11, o12⟩ := thirteen x8
  obtain ⟨v0, v1, v2, _⟩ := HC.out w8 (Keep.refl _ _)
  have HX9 := Lib.hid (fun W (bW : Below w8.heap.size w8 W) => show W.cell? ⟨w4.heap.size, 9, none⟩ = some (.int .i64 0) ∧ W.frozen? ⟨w4.heap.size, 9, none⟩ = false from ⟨(x8.on bW).cell (k := 9) (by simp), (x8.on bW).free 9⟩)
  replace o6 : w8.cell? ⟨w4.heap.size, 6, none⟩ = some (.int .i64 v.base) := o6
  have hlX8 := x8.lt
  have hlx8 := (hE8.x.keep k8 (by simp)).lt
  have HR8 := Lib.hid hR8
  have Hbb8 := Lib.hid bb8
  have hXB := Lib.hid (show w4.heap.size < B by omega)
  have HT8 := Lib.hid (show ts.length ≤ maxLen from Nat.le_trans hc1 hc2)
  clear hX8 hS8 hl8 hT8 k8 bs8 hB8 hE8 bb7 hBd s7 h42 hX4 bb8 hSA x8 hR8 hc1 hc2 hX8d hbl8d
  refine region_inb_tail 8 (by kernel_rfl) (by kernel_rfl) ?_
  simp only [List.take_succ_cons, List.take_zero, List.drop_succ_cons, List.drop_zero]
  have inbNe := InB.some
  have inbW := @wrap_small
  have inbU := IntKind.wrap_u8'
  repeat (refine wpQuiet_step (fun K hK => ?_); go_simp; first | (refine hK _ ?_; clear hK K) | (apply Exists.intro; refine ⟨?_, hK _ ?_⟩; (· (intro w' hw'; first | (have hcw := hw'.cell; go_simp; exact rfl))); clear hK K))
  refine wpQuiet_nil ?_
  intro wq hq
  clear inbNe inbW inbU
  have HF9 := Lib.hid (HF8.out wq hq.below)
  obtain ⟨x9, f9⟩ := HX9.out wq hq.below
  have Hz := Lib.hid hq
  clear o0 o1 o2 o3 o4 o5 o6 o7 o8 o9 o10 o11 o12
  have kq : Keep [w4.heap.size, R] w8 (wq.setCell ⟨w4.heap.size, 9, none⟩ (.int .i64 v.base)) := HF9.out.2.more (fun j hj => by simp at hj ⊢; exact .inl hj)
  obtain ⟨r0, r1, r2, r3⟩ := HC.out _ kq
  go_upto_region 11 with (fail)
  have Hst := Lib.hid (fun k => (secs_take v.life ts k 0).1)
  have Hts := Lib.hid (show ts.length ≤ 64 by have := (secs_take v.life ts 0 0).2; have := Hlen.out; have := Hr.out; omega)
  have HPl := Lib.hid (show P0.length ≤ 1000 by have := Hn.out; have := pagesOf_bd ga gd gl; omega)
  have S9 := Lib.hid HF9.out.1
  have K9 := Lib.hid kq
  have hqs := Lib.hid hq.below
  clear r0 r1 r2 r3 x9 f9 kq v0 v1 v2 HF8 HX9 hq Hz
  go_loopw [44] (fun i wr => ∃ k : Nat, k ≤ ts.length ∧ i = .int .i64 (k : Int) ∧ SAt [] wr w4.heap.size R w4.heap.size g fp gS bS ga gd gl (zk v.life v.base v.gen P0 (ts.take k)) s l ∧ Keep [w4.heap.size, R] w8 wr) (fun i _ => ts.length - (intOf i).toNat)
  case atStart => exact ⟨0, by omega, rfl, S9.out, K9.out⟩
  case round =>
    obtain ⟨k, hk, rfl, hS, hK⟩ := hrel
    obtain ⟨v0, v1, v2, hT⟩ := HC.out _ hK
    by_cases hlt : k < ts.length
    · have hkn : (k : Int) < (ts.length : Int) := by omega
      obtain ⟨b, off, Ai, ci, rfl, hbl, hx⟩ := hT.get hlt
      have hbdk := Hbd.out _ (List.getElem_mem hlt)
      have hsl := Hst.out (k + 1)
      have hzs := zk_snoc v.life v.base v.gen P0 (ts.take k) ts[k]
      rw [← List.take_succ_eq_append_getElem hlt] at hzs
      have hnl : ((allSecs v.life 0 (ts.take (k + 1))).length) = (allSecs v.life 0 (ts.take k)).length + (ts[k].pages.length + 1) := by rw [List.take_succ_eq_append_getElem hlt, snocLen]
      obtain ⟨t, ht⟩ : ∃ t, t = ts[k] := ⟨_, rfl⟩
      rw [← ht] at hx hbdk hzs hnl
      have c0 := hx.c0
      have c1 := hx.c1
      have hpl : t.pages.length ≤ 64 := by have := Hlen.out; have := Hr.out; have := Hst.out (k + 1); omega
      obtain ⟨zz, hzz⟩ : ∃ zz, zz = zk v.life v.base v.gen P0 (ts.take k) := ⟨_, rfl⟩
      have hzp : zz.pages.length = P0.length := by rw [hzz]; exact applyT_len _ _
      have hzn : zz.next = v.base + ((allSecs v.life 0 (ts.take k)).length : Int) := by rw [hzz]; rfl
      rw [← hzz] at hS hzs
      obtain ⟨m, hm⟩ : ∃ m : Nat, m = t.pages.length := ⟨_, rfl⟩
      obtain ⟨wt, hwt⟩ : ∃ q, q = wr.alloc (.cells #[.slice Ai t.pages.length ci, .int .u64 (t.gen.toNat : Int)] 106) := ⟨_, rfl⟩
      have bwt : Below wr.heap.size wr wt := by rw [hwt]; exact b1alloc _ _
      have FT : Blk wt wr.heap.size [.slice Ai t.pages.length ci, .int .u64 (t.gen.toNat : Int)] := by rw [hwt]; exact Blk.new wr [.slice Ai t.pages.length ci, .int .u64 (t.gen.toNat : Int)] 106
      have HP := Lib.hid (put_any w4.heap.size R w4.heap.size g fp gS bS ga gd gl zz s l (fun j => B ≤ j ∧ j ≠ R) Ai t.pages ci wt (hS.on bwt) (hx.pgs.on bwt) (fun j hj _ => hj.2) (by omega) (fun i hi => by have := Wal.badB_of hbdk hi; rw [hzp]; have := Hn.out; exact ⟨by omega, by omega, by omega⟩) (by rw [hzp]; have := HPl.out; omega))
      have hrR := hS.ltX.2
      have hrx := Nat.lt_of_lt_of_le hlx8 hK.size
      have HCt := Lib.hid (fun W (kW : Keep [w4.heap.size, R] wt W) => show W.cell? ⟨w4.heap.size + 1, 0, none⟩ = some (.pointer (some ⟨w4.heap.size, 0, none⟩)) ∧ W.cell? ⟨wr.heap.size, 0, none⟩ = some (.slice Ai t.pages.length ci) ∧ W.cell? ⟨wr.heap.size, 1, none⟩ = some (.int .u64 (t.gen.toNat : Int)) from by
        have f2 := FT.keepK kW (by simp; have := hS.ltX.1; omega)
        exact ⟨(HC.out W (hK.trans ((Keep.of_below bwt [w4.heap.size, R]).trans kW (Fresh.refl _ _)) (Fresh.refl _ _))).1, f2.cell (k := 0) (by simp), f2.cell (k := 1) (by simp)⟩)
      obtain ⟨a0, a1, a2⟩ := HCt.out wt (Keep.refl _ _)
      have HWT := Lib.hid hwt
      have Hlt := Lib.hid hlt
      have HBt := Lib.hid bwt
      have HzS := Lib.hid hzs
      have Hzn := Lib.hid hzn
      have Hnl := Lib.hid hnl
      have HK := Lib.hid hK
      have Hpl := Lib.hid hpl
      have Hsl := Lib.hid hsl
      clear hwt bwt FT hT hx hbdk hsl hzs hnl ht hpl hzz hzp hzn hm hS hK v2
      go_upto_region 13 with (fail)
      rw [← HWT.out]
      go_upto_region 15 with (go_at_call 48; refine HP.out.mono ?_; rintro e w11 ⟨rfl, hS11, k11⟩; have K11 := Lib.hid (k11.more (fp' := [w4.heap.size, R]) (fun j hj => by simp at hj ⊢; exact .inr hj)); obtain ⟨d0, d1, d2⟩ := HCt.out w11 K11.out; obtain ⟨lv11, c11, j11, _, _⟩ := hS11.blk; have x7 := j11.cell (k := 7) (by simp); have fx7 := j11.free 7; have G11 := Lib.hid (hS11.gen t.gen); clear j11 hS11 k11 a0 a1 a2)
      obtain ⟨w12, hw12⟩ : ∃ q, q = w11.setCell ⟨w4.heap.size, 7, none⟩ (.int .u64 (t.gen.toNat : Int)) := ⟨_, rfl⟩
      have k12 : Keep [w4.heap.size, R] wt w12 := by rw [hw12]; exact K11.out.set (p := ⟨w4.heap.size, 7, none⟩) (.inl (by simp)) (.int .u64 (t.gen.toNat : Int))
      have G12 := Lib.hid (show SAt [] w12 w4.heap.size R w4.heap.size g fp gS bS ga gd gl ((zz.put t.pages).setGen t.gen) s l from by rw [hw12]; exact G11.out.1)
      obtain ⟨g0, g1, g2⟩ := HCt.out _ k12
      obtain ⟨lv12, c12, j12, _, _⟩ := G12.out.blk
      have n9 : w12.cell? ⟨w4.heap.size, 9, none⟩ = some (.int .i64 zz.next) := j12.cell (k := 9) (by simp)
      have HX9 := Lib.hid (fun W (bW : Below w12.heap.size w12 W) => show W.cell? ⟨w4.heap.size, 9, none⟩ = some (.int .i64 zz.next) ∧ W.frozen? ⟨w4.heap.size, 9, none⟩ = false from ⟨(j12.on bW).cell (k := 9) (by simp), (j12.on bW).free 9⟩)
      have l12 := j12.lt
      have lx12 : w4.heap.size + 1 < w12.heap.size := by have := k12.size; have := HBt.out.size; omega
      have lt12 : wr.heap.size < w12.heap.size := by
        have := k12.size
        have e : wt.heap.size = wr.heap.size + 1 := by rw [HWT.out]; simp
        omega
      have K12 := Lib.hid k12
      have HW12 := Lib.hid hw12
      have hbb := Hb.out
      have hll := Hlen.out
      have hgg := Hr.out.2.2.2.2.2
      have hnb : -1000000 ≤ zz.next ∧ zz.next ≤ 1073742000 := by have := Hzn.out; have := Hst.out k; omega
      obtain ⟨nx, hnx⟩ : ∃ nx, nx = zz.next := ⟨_, rfl⟩
      rw [← hnx] at n9 HX9 HzS hnb
      have hw1 : IntKind.i64.wrap ((t.pages.length : Int) + 1) = (t.pages.length : Int) + 1 := wrap_small (by omega) (by have := Hpl.out; omega)
      have hw2 : IntKind.i64.wrap (nx + ((t.pages.length : Int) + 1)) = nx + ((t.pages.length : Int) + 1) := wrap_small (by omega) (by have := Hpl.out; omega)
      clear hnx d0 d1 d2 x7 fx7 j12 k12 hw12 hbb hll hgg hnb g2
      rw [← HW12.out]
      refine region_inb_tail 11 (by kernel_rfl) (by kernel_rfl) ?_
      simp only [List.take_succ_cons, List.take_zero, List.drop_succ_cons, List.drop_zero]
      have inbNe := InB.some
      have inbW := @wrap_small
      have inbU := IntKind.wrap_u8'
      repeat (refine wpQuiet_step (fun K hK => ?_); go_simp; first | (refine hK _ ?_; clear hK K) | (apply Exists.intro; refine ⟨?_, hK _ ?_⟩; (· (intro w' hw'; first | (have hcw := hw'.cell; go_simp; exact rfl))); clear hK K))
      refine wpQuiet_nil ?_
      intro wq hq
      clear inbNe inbW inbU
      have HN9 := Lib.hid (G12.out.next hq.below (nx + ((t.pages.length : Int) + 1)))
      obtain ⟨x9, f9⟩ := HX9.out wq hq.below
      clear g0 g1 n9 hw1 hw2
      go_wp2_with fail
      case roundEnd =>
        have h64 := Hts.out
        have hl9 := Hlt.out
        refine ⟨⟨k + 1, hl9, w64 (by omega), by have := HN9.out.1; rw [HzS.out] at this; exact this, ?_⟩, msr hl9 h64⟩
        exact HK.out.trans (((Keep.of_below HBt.out [w4.heap.size, R]).trans K12.out (Fresh.refl _ _)).trans (HN9.out.2.more (fun j hj => by simp at hj ⊢; exact .inl hj)) (Fresh.refl _ _)) (Fresh.refl _ _)
    · obtain rfl : k = ts.length := by omega
      have hkn : ¬ (ts.length : Int) < (ts.length : Int) := by omega
      rw [List.take_length] at hS
      obtain ⟨lvE, cE, jE, _, _⟩ := hS.blk
      obtain ⟨nx, hnx⟩ : ∃ nx, nx = v.base + ((allSecs v.life 0 ts).length : Int) := ⟨_, rfl⟩
      have n9 : wr.cell? ⟨w4.heap.size, 9, none⟩ = some (.int .i64 nx) := by rw [hnx]; exact jE.cell (k := 9) (by simp)
      have HX9 := Lib.hid (fun W (bW : Below wr.heap.size wr W) => show W.cell? ⟨w4.heap.size, 9, none⟩ = some (.int .i64 nx) ∧ W.frozen? ⟨w4.heap.size, 9, none⟩ = false from ⟨by rw [hnx]; exact (jE.on bW).cell (k := 9) (by simp), (jE.on bW).free 9⟩)
      have lE := jE.lt
      have lxE := Nat.lt_of_lt_of_le hlx8 hK.size
      have lGE : w.heap.size + 1 + 1 < wr.heap.size := by have := Hl2.out; omega
      have hnb : 0 ≤ nx ∧ nx ≤ 1073742000 := by have := Hb.out; have := Hlen.out; have := Hr.out; omega
      have hne : ¬ gl = 0 := by have := Hr.out; omega
      have ht1 : nx.tmod gl = nx % gl := Int.tmod_eq_emod_of_nonneg (by omega)
      have hw2 : IntKind.i64.wrap (nx % gl) = nx % gl := by
        have := Hr.out
        have h1 := Int.emod_nonneg nx (show gl ≠ 0 by omega)
        have h2 := Int.emod_lt_of_pos nx (show 0 < gl by omega)
        exact wrap_small (by omega) (by omega)
      have HE := Lib.hid (show (zk v.life v.base v.gen P0 ts).setNext (nx % gl) = opened gl v.life v.base v.gen P0 ts by rw [hnx]; rfl)
      have HSE := Lib.hid hS
      have HKE := Lib.hid hK
      have HCE := Lib.hid (fun W (kW : Keep [w4.heap.size, R] wr W) => (HC.out W (hK.trans kW (Fresh.refl _ _))).1)
      have HRw := Lib.hid (show w.heap.size ≤ w4.heap.size ∧ w.heap.size ≤ R from ⟨by have := Hl2.out; omega, by have := Hl2.out; have := hXB.out; have := HR8.out; omega⟩)
      have HBE := Lib.hid (Hbb8.out.trans (hK.below (B := w.heap.size) (fun j hj => by simp only [List.mem_cons, List.not_mem_nil, or_false] at hj; have := HRw.out; rcases hj with e | e <;> omega) Hbb8.out.size))
      clear hS hK jE hnx hnb hT v1
      go_upto_region 17 with (fail)
      refine region_inb_tail 9 (by kernel_rfl) (by kernel_rfl) ?_
      simp only [List.take_succ_cons, List.take_zero, List.drop_succ_cons, List.drop_zero]
      have inbNe := InB.some
      have inbW := @wrap_small
      have inbU := IntKind.wrap_u8'
      repeat (refine wpQuiet_step (fun K hK => ?_); go_simp; first | (refine hK _ ?_; clear hK K) | (apply Exists.intro; refine ⟨?_, hK _ ?_⟩; (· (intro w' hw'; first | (have hcw := hw'.cell; go_simp; exact rfl))); clear hK K))
      refine wpQuiet_nil ?_
      intro wq hq
      clear inbNe inbW inbU
      obtain ⟨x9, f9⟩ := HX9.out wq hq.below
      have HN9 := Lib.hid (HSE.out.next hq.below (nx % gl))
      have v0' := HCE.out _ (HN9.out.2.more (fun j hj => by simp at hj ⊢; exact .inl hj))
      clear n9 v0 v2
      go_wp2_with fail
      go_ret2
      refine ⟨_, rfl, R, ?_, ?_, HRw.out.1, HRw.out.2⟩
      · have := HN9.out.1
        rw [HE.out] at this
        exact this
      · exact HBE.out.trans (HN9.out.2.below (fun j hj => by rw [List.mem_singleton] at hj; have := HRw.out.1; omega) HBE.out.size)
end Go.Proofs.YtchcmklelmlbgaaGreat.Sto

/- The store in a law: what its calls do, told by the document's state. No statement is proved here. -/
namespace Go.Proofs.YtchcmklelmlbgaaGreat.Sto
open Go.RowKit
open Go.Proofs.YtchcmklelmlbgaaGreat.Geom
open Go.Proofs.YtchcmklelmlbgaaGreat.Disk (St DAt Did new)
open Go.Proofs.YtchcmklelmlbgaaGreat.Sup (Gb gv gcell gthree srightF SV atR best rdV oV UpN up_new srightF_new)
open Go.Proofs.YtchcmklelmlbgaaGreat.Snap (snapR PagesOk)
open Go.Proofs.YtchcmklelmlbgaaGreat.Wal (scanTx wrightF Tx allSecs badB whyF)
set_option linter.unusedVariables false
/-- a store in a law: all of it in the law's own blocks; its disk and mind as the document's state has them, behind so many turns -/
def SH (w0 w : World) (X R L g : Nat) (fp : List Nat) (gS bS : Nat) (ga gd gl : Int) (n : Nat) (y : RS) (t : Nat) : Prop :=
  ∃ z s l, SAt [] w X R L g fp gS bS ga gd gl z s l ∧ PInv ga gd gl n l s z y ∧ l.length ≤ 3000 * t ∧ s.sz ≤ 3000 * t ∧ y.life.toNat ≤ t ∧
    Below w0.heap.size w0 w ∧ ∀ j ∈ X :: R :: L :: bS :: gS :: fp, w0.heap.size ≤ j
theorem SH.on {w0 w w' : World} {X R L g : Nat} {fp : List Nat} {gS bS : Nat} {ga gd gl : Int} {n : Nat} {y : RS} {t : Nat} (h : SH w0 w X R L g fp gS bS ga gd gl n y t) (b : Below w.heap.size w w') : SH w0 w' X R L g fp gS bS ga gd gl n y t := by
  obtain ⟨z, s, l, h1, h2, h3, h4, h5, h6, h7⟩ := h
  exact ⟨z, s, l, h1.on b, h2, h3, h4, h5, bt h6 b, h7⟩
theorem SH.bel {w0 w : World} {X R L g : Nat} {fp : List Nat} {gS bS : Nat} {ga gd gl : Int} {n : Nat} {y : RS} {t : Nat} (h : SH w0 w X R L g fp gS bS ga gd gl n y t) : Below w0.heap.size w0 w := by
  obtain ⟨z, s, l, h1, h2, h3, h4, h5, h6, h7⟩ := h
  exact h6
/-- what lies apart from it -/
theorem SH.off {w0 w : World} {X R L g : Nat} {fp : List Nat} {gS bS : Nat} {ga gd gl : Int} {n : Nat} {y : RS} {t : Nat} (h : SH w0 w X R L g fp gS bS ga gd gl n y t) {j : Nat} (hj : j < w0.heap.size) : Off [] X R L bS gS fp j := by
  obtain ⟨z, s, l, h1, h2, h3, h4, h5, h6, h7⟩ := h
  exact ⟨by have := h7 X (by simp); omega, by have := h7 R (by simp); omega, by have := h7 L (by simp); omega, by have := h7 bS (by simp); omega, ⟨by have := h7 gS (by simp); omega, by simp⟩, fun e => by have := h7 j (by simp [e]); omega⟩
theorem SH.offNew {w0 w : World} {X R L g : Nat} {fp : List Nat} {gS bS : Nat} {ga gd gl : Int} {n : Nat} {y : RS} {t : Nat} (h : SH w0 w X R L g fp gS bS ga gd gl n y t) {j : Nat} (hj : w.heap.size ≤ j) : Off [] X R L bS gS fp j := by
  obtain ⟨z, s, l, h1, h2, h3, h4, h5, h6, h7⟩ := h
  have hX := h1.ltX
  have hS := h1.both.sym.lt
  have hL := h1.lt
  exact ⟨by omega, by omega, by omega, by omega, ⟨by omega, by simp⟩, fun e => by have := h1.both.disk.lt _ e; omega⟩
/-- turned: what lay apart lies as it lay -/
def SHT (w0 w : World) (X R L g : Nat) (fp : List Nat) (gS bS : Nat) (ga gd gl : Int) (n : Nat) (y' : RS) (t' : Nat) (w' : World) : Prop :=
  ∃ L' fp', SH w0 w' X R L' g fp' gS bS ga gd gl n y' t' ∧ Keep (X :: R :: L :: bS :: fp) w w' ∧ FreshL w L fp L' fp'
theorem STurn.law {w0 w w' : World} {X R L g : Nat} {fp : List Nat} {gS bS : Nat} {ga gd gl : Int} {n : Nat} {z' : Z} {y' : RS} {s' : St} {l' : List (List UInt8)} {t' : Nat} (h : STurn [] w X R L g fp gS bS ga gd gl z' s' l' w') (hi : PInv ga gd gl n l' s' z' y') (h1 : l'.length ≤ 3000 * t') (h2 : s'.sz ≤ 3000 * t') (h3 : y'.life.toNat ≤ t')
    (hb : Below w0.heap.size w0 w) (ho : ∀ j ∈ X :: R :: L :: bS :: gS :: fp, w0.heap.size ≤ j) : SHT w0 w X R L g fp gS bS ga gd gl n y' t' w' := by
  obtain ⟨L', fp', a, k, f⟩ := h
  refine ⟨L', fp', ⟨z', s', l', a, hi, h1, h2, h3, hb.trans (k.below (fun j hj => ho j (by simp only [List.mem_cons] at hj ⊢; rcases hj with e | e | e | e | e <;> simp [e])) hb.size), fun j hj => ?_⟩, k, f⟩
  simp only [List.mem_cons] at hj
  rcases hj with e | e | e | e | e | e
  · exact ho j (by simp [e])
  · exact ho j (by simp [e])
  · rcases f.2 with e2 | e2
    · exact ho j (by simp [e, e2])
    · have := hb.size; omega
  · exact ho j (by simp [e])
  · exact ho j (by simp [e])
  · rcases f.1 j e with e2 | e2
    · exact ho j (by simp [e2])
    · have := hb.size; omega
theorem PInv.zok {ga gd gl : Int} {n : Nat} {sm : List (List UInt8)} {st : St} {z : Z} {y : RS} (h : PInv ga gd gl n sm st z y) : ZOk ga gd gl z ∧ y.pages = z.pages ∧ y.life = z.life ∧ y.gen = z.gen ∧ y.due = z.due ∧ y.base = z.base := by
  have hp := h.pagesOk
  obtain ⟨P0, ts, gen0, hI, _, _, h1, h2, rfl⟩ := h.ex
  exact ⟨⟨hp.len, Snap.longB_no (fun j hj => hp.short j hj)⟩, rfl, rfl, rfl, rfl, rfl⟩
theorem commit_life (ga gd gl : Int) (y : RS) (l : List Pg) (gen : UInt64) : (y.commit ga gd gl l gen).1.life = y.life ∨ (y.commit ga gd gl l gen).1.life = y.life + 1 := by
  unfold RS.commit
  split
  · exact .inl rfl
  · split
    · exact .inl rfl
    · split
      · exact .inr rfl
      · exact .inl rfl
theorem life_le {a b : UInt64} {t : Nat} (h : b = a ∨ b = a + 1) (ha : a.toNat ≤ t) : b.toNat ≤ t + 1 := by
  rcases h with e | e
  · rw [e]; omega
  · rw [e]
    have : (a + 1).toNat = (a.toNat + 1) % 18446744073709551616 := by simp [UInt64.toNat_add]
    omega
theorem PInv.small {ga gd gl : Int} {n : Nat} {sm : List (List UInt8)} {st : St} {z : Z} {y : RS} (h : PInv ga gd gl n sm st z y) (hr : right ga gd gl = true) : z.due = false → z.seq ≤ 64 := fun hd => by
  have := h.seqIs hd
  have := right_yes hr
  omega
theorem PInv.nextBd {ga gd gl : Int} {n : Nat} {sm : List (List UInt8)} {st : St} {z : Z} {y : RS} (h : PInv ga gd gl n sm st z y) (hr : right ga gd gl = true) (hd : z.due = true) : 0 ≤ z.next ∧ z.next ≤ 1073741824 := by
  have h1 := next_bd h hr
  have := right_yes hr
  unfold baseN at h1
  rw [if_pos hd] at h1
  omega
theorem SH.commit {w0 w : World} {X R L g : Nat} {fp : List Nat} {gS bS : Nat} {ga gd gl : Int} {n : Nat} {y : RS} {t : Nat} (h : SH w0 w X R L g fp gS bS ga gd gl n y t) (hG : Gb ga gd gl) (hr : right ga gd gl = true) (hn : (n : Int) = Geom.sizeOf ga gd gl) (ht : t ≤ 100) (Q : Nat → Prop) (A : Option Addr) (pages : List Pg) (c : Nat) (gen : UInt64)
    (hp : Pgs w Q A pages) (hQ : ∀ j, Q j → j < w.heap.size → Off [] X R L bS gS fp j) (hcl : pages.length ≤ 1000) :
    Calls Tryz.prog 15 #[.pointer (some ⟨X, 0, none⟩), .slice A pages.length c, .int .u64 (gen.toNat : Int)] w fun e w' => e = .returned (.int .i64 (y.commit ga gd gl pages gen).2) ∧ SHT w0 w X R L g fp gS bS ga gd gl n (y.commit ga gd gl pages gen).1 (t + 1) w' := by
  obtain ⟨z, s, l, h1, h2, h3, h4, h5, h6, h7⟩ := h
  obtain ⟨zo, e1, e2, e3, e4, e5⟩ := h2.zok
  have hpb := pagesOf_bd ga gd gl
  have hzl := zo.len
  have hf : srightF s ga gd gl = 0 := srightF_new hr h2.up.size hn
  cases hdu : z.due with
  | true =>
    have hc : y.commit ga gd gl pages gen = (y, 14) := by unfold RS.commit; rw [if_pos (e4.trans hdu)]
    rw [hc]
    refine (commit_due X R L g fp gS bS ga gd gl z s l A pages.length c gen w h1 h2.alive hdu).mono ?_
    rintro e w' ⟨rfl, b⟩
    exact ⟨rfl, STurn.law (STurn.same h1 b) h2 (by omega) (by omega) (by show y.life.toNat ≤ _; omega) h6 h7⟩
  | false =>
    have hq := h2.small hr hdu
    have hlim := comF_lim ga gd gl z pages gen l s
    refine (commit_any X R L g fp gS bS ga gd gl z s l Q A pages c gen w hG h1 hp hQ hcl (by omega) (by omega) hf zo h2.alive hdu (h2.has hdu) (by rw [← e2]; omega) h2.hb (by omega)).mono ?_
    rintro e w' ⟨rfl, tt⟩
    obtain ⟨f1, f2⟩ := h2.commit hr hdu (by rw [← e2]; omega) pages gen
    exact ⟨by rw [f1], STurn.law tt f2 (by omega) (by omega) (life_le (commit_life ga gd gl y pages gen) h5) h6 h7⟩
theorem SH.renew {w0 w : World} {X R L g : Nat} {fp : List Nat} {gS bS : Nat} {ga gd gl : Int} {n : Nat} {y : RS} {t : Nat} (h : SH w0 w X R L g fp gS bS ga gd gl n y t) (hG : Gb ga gd gl) (hr : right ga gd gl = true) (hn : (n : Int) = Geom.sizeOf ga gd gl) (ht : t ≤ 100) :
    Calls Tryz.prog 16 #[.pointer (some ⟨X, 0, none⟩)] w fun e w' => e = .returned (.int .i64 0) ∧ SHT w0 w X R L g fp gS bS ga gd gl n (y.renew gl) (t + 1) w' := by
  obtain ⟨z, s, l, h1, h2, h3, h4, h5, h6, h7⟩ := h
  obtain ⟨zo, e1, e2, e3, e4, e5⟩ := h2.zok
  have hpb := pagesOf_bd ga gd gl
  have hzl := zo.len
  have hf : srightF s ga gd gl = 0 := srightF_new hr h2.up.size hn
  obtain ⟨f1, f2⟩ := h2.renew hr (by rw [← e2]; omega)
  have hlim := begF_lim ga gd gl (z.life + 1) (baseN gl z) z.gen z.pages l s
  refine (renew_any X R L g fp gS bS ga gd gl z s l w hG h1 (by omega) (by omega) hf zo h2.alive (by rw [← e2]; omega) h2.hb (fun hd => by have := h2.small hr hd; omega) (fun hd => h2.nextBd hr hd) h2.has).mono ?_
  rintro e w' ⟨rfl, tt⟩
  exact ⟨by rw [f1], STurn.law tt f2 (by unfold renO; omega) (by unfold renO; omega) (life_le (.inr rfl) h5) h6 h7⟩
end Go.Proofs.YtchcmklelmlbgaaGreat.Sto

/- The store in a law: Format, Open, what it tells, and the chapter's example. No statement is proved here. -/
namespace Go.Proofs.YtchcmklelmlbgaaGreat.Sto
open Go.RowKit
open Go.Proofs.YtchcmklelmlbgaaGreat.Geom
open Go.Proofs.YtchcmklelmlbgaaGreat.Disk (St DAt Did new)
open Go.Proofs.YtchcmklelmlbgaaGreat.Sup (Gb gv gcell gthree srightF SV atR best rdV oV UpN up_new srightF_new)
open Go.Proofs.YtchcmklelmlbgaaGreat.Snap (snapR PagesOk)
open Go.Proofs.YtchcmklelmlbgaaGreat.Wal (scanTx wrightF Tx allSecs badB whyF)
set_option linter.unusedVariables false
set_option maxRecDepth 100000
def RS.new (m : Nat) : RS := ⟨List.replicate m [], 0, 1, 0, 0, 0, false⟩
theorem first_pinv {ga gd gl : Int} {n m : Nat} {s : St} (h : UpN s n) (hr : right ga gd gl = true) (hn : (n : Int) = Geom.sizeOf ga gd gl) (hm : (m : Int) = pagesOf ga gd gl) (l : List (List UInt8)) :
    (Sup.clr s).2 = 0 ∧ (wipeF gl (Sup.clr s).1).2 = 0 ∧ (begF ga gd gl 1 0 0 (List.replicate m []) l (wipeF gl (Sup.clr s).1).1).2.2 = 0 ∧
      PInv ga gd gl n (begF ga gd gl 1 0 0 (List.replicate m []) l (wipeF gl (Sup.clr s).1).1).1 (begF ga gd gl 1 0 0 (List.replicate m []) l (wipeF gl (Sup.clr s).1).1).2.1 ((z0 m).begun 1 0 0) (RS.new m) := by
  obtain ⟨p1, p2, p3⟩ := pre_first h hr hn l
  have hP : PagesOk ga gd gl n (List.replicate m []) := ⟨hn, by rw [List.length_replicate]; exact hm, fun j hj => by simp⟩
  obtain ⟨q1, q2⟩ := first_inv (l := l) (base := 0) (gen := 0) p3 hr hP (by omega)
  exact ⟨p1, p2, q1, ⟨_, [], 0, q2, rfl, rfl, fun _ => rfl, fun h => (by cases h), rfl⟩, rfl, fun _ => rfl⟩
theorem clr_sz (s : St) : (Sup.clr s).1.sz ≤ s.sz + 5 := by
  have a1 := Disk.sz_write s 2 Disk.zero512
  have a2 := Disk.sz_write (Disk.write s 2 Disk.zero512).1 3 Disk.zero512
  have a3 := Disk.sz_flush (Disk.write (Disk.write s 2 Disk.zero512).1 3 Disk.zero512).1
  unfold Sup.clr
  split
  · split <;> omega
  · omega
theorem wipeF_sz {gl : Int} (h : gl ≤ 64) (s : St) : (wipeF gl s).1.sz ≤ s.sz + 200 := by
  have a1 := wipeL_sz ((List.range gl.toNat).map fun i : Nat => 4 + (i : Int)) s
  rw [List.length_map, List.length_range] at a1
  have a2 := Disk.sz_flush (wipeL ((List.range gl.toNat).map fun i : Nat => 4 + (i : Int)) s).1
  unfold wipeF
  split <;> omega
theorem format_law {w0 w : World} {g : Nat} {fp : List Nat} {s : St} {gS bS : Nat} {l : List (List UInt8)} {ga gd gl : Int} {n m t : Nat} (hG : Gb ga gd gl) (h : Both w g fp s gS bS l) (hu : UpN s n) (hr : right ga gd gl = true) (hn : (n : Int) = Geom.sizeOf ga gd gl) (hm : (m : Int) = pagesOf ga gd gl)
    (hl : l.length ≤ 3000 * t) (hs : s.sz ≤ 3000 * t) (ht : t ≤ 100) (hb : Below w0.heap.size w0 w) (ho : ∀ j ∈ bS :: gS :: fp, w0.heap.size ≤ j) :
    Calls Tryz.prog 14 #[.pointer (some ⟨g, 0, none⟩), .pointer (some ⟨gS, 0, none⟩), gv ga gd gl] w fun e w' => ∃ X R L fp', e = .returned (.tuple #[.pointer (some ⟨X, 0, none⟩), .int .i64 0]) ∧ SH w0 w' X R L g fp' gS bS ga gd gl n (RS.new m) (t + 1) ∧ Keep (bS :: fp) w w' ∧ Fresh w fp fp' ∧ w.heap.size ≤ X ∧ w.heap.size ≤ R ∧ w.heap.size ≤ L := by
  obtain ⟨p1, p2, p3, p4⟩ := first_pinv hu hr hn hm l
  have hf : srightF s ga gd gl = 0 := srightF_new hr hu.size hn
  have hpb := pagesOf_bd ga gd gl
  have hy := right_yes hr
  have hlim := begF_lim ga gd gl 1 0 0 (List.replicate m []) l (wipeF gl (Sup.clr s).1).1
  rw [List.length_replicate] at hlim
  have h1 := clr_sz s
  have h2 := wipeF_sz (show gl ≤ 64 by omega) (Sup.clr s).1
  refine (format_any g fp s gS bS l ga gd gl m w hG h (by omega) (by omega) hf hm p1 p2 p3).mono ?_
  rintro e w' ⟨X, rfl, R, L, fp', a, k, f, x1, x2, x3⟩
  have hbs := hb.size
  refine ⟨X, R, L, fp', rfl, ⟨_, _, _, a, p4, by omega, by omega, by show (1 : UInt64).toNat ≤ _; simp, hb.trans (k.below (fun j hj => ho j (by simp only [List.mem_cons] at hj ⊢; rcases hj with e | e <;> simp [e])) hb.size), fun j hj => ?_⟩, k, f, x1, x2, x3⟩
  simp only [List.mem_cons] at hj
  rcases hj with e | e | e | e | e | e
  · omega
  · omega
  · omega
  · exact ho j (by simp [e])
  · exact ho j (by simp [e])
  · rcases f j e with e2 | e2
    · exact ho j (by simp [e2])
    · omega
/-- opened anew: the other store's mind is left -/
theorem SH.opens {w0 w : World} {X R L g : Nat} {fp : List Nat} {gS bS : Nat} {ga gd gl : Int} {n : Nat} {y : RS} {t : Nat} (h : SH w0 w X R L g fp gS bS ga gd gl n y t) (hG : Gb ga gd gl) (hr : right ga gd gl = true) (hn : (n : Int) = Geom.sizeOf ga gd gl) (ht : t ≤ 100) :
    Calls Tryz.prog 17 #[.pointer (some ⟨g, 0, none⟩), .pointer (some ⟨gS, 0, none⟩), gv ga gd gl] w fun e w' => ∃ X' R', e = .returned (.tuple #[.pointer (some ⟨X', 0, none⟩), .int .i64 0]) ∧ SH w0 w' X' R' X' g fp gS bS ga gd gl n y.isDue t ∧ Below w.heap.size w w' ∧ w.heap.size ≤ X' ∧ w.heap.size ≤ R' := by
  obtain ⟨z, s, l, h1, h2, h3, h4, h5, h6, h7⟩ := h
  have hf : srightF s ga gd gl = 0 := srightF_new hr h2.up.size hn
  have hy := right_yes hr
  have hsz := Sup.size_ge hr
  obtain ⟨gen0, P0, ts, b1, b2, b3, b4, b5, b6, b7, b8, b9⟩ := h2.opens hr (by omega)
  have hpp := pages_pos hr
  refine (open_any g fp s gS bS l ga gd gl w hG h1.both (by omega) (by omega) hf h2.up.down ⟨z.life, z.base, gen0⟩ b1 h2.hb P0 b3 (by omega) b2 ts b5 b6 b7).mono ?_
  rintro e w' ⟨X', R', rfl, a, b, x1, x2⟩
  have hbs := h6.size
  refine ⟨X', R', rfl, ⟨_, _, _, a, b9, h3, h4, h5, bt h6 b, fun j hj => ?_⟩, b, x1, x2⟩
  simp only [List.mem_cons] at hj
  rcases hj with e | e | e | e | e | e
  · omega
  · omega
  · omega
  · exact h7 j (by simp [e])
  · exact h7 j (by simp [e])
  · exact h7 j (by simp [e])
theorem PInv.pageLen {ga gd gl : Int} {n : Nat} {sm : List (List UInt8)} {st : St} {z : Z} {y : RS} (h : PInv ga gd gl n sm st z y) : ∀ b ∈ z.pages, b.length ≤ 479 := fun b hb => by
  obtain ⟨j, hj, rfl⟩ := List.mem_iff_getElem.1 hb
  exact h.pagesOk.short j hj
theorem SH.pages {w0 w : World} {X R L g : Nat} {fp : List Nat} {gS bS : Nat} {ga gd gl : Int} {n : Nat} {y : RS} {t : Nat} (h : SH w0 w X R L g fp gS bS ga gd gl n y t) (hr : right ga gd gl = true) :
    Calls Tryz.prog 19 #[.pointer (some ⟨X, 0, none⟩)] w fun e w' => ∃ A c, e = .returned (.slice A y.pages.length c) ∧ Rws w' w'.heap.size A y.pages ∧ Below w.heap.size w w' := by
  obtain ⟨z, s, l, h1, h2, h3, h4, h5, h6, h7⟩ := h
  obtain ⟨zo, e1, _⟩ := h2.zok
  have hpp := pages_pos hr
  have hpb := pagesOf_bd ga gd gl
  have hzl := zo.len
  rw [e1]
  refine (pages_any X R L g fp gS bS ga gd gl z s l w h1 (by omega) (by omega) (fun b hb => by have := h2.pageLen b hb; omega)).mono ?_
  rintro e w' ⟨G, c, rfl, hS, b, hG⟩
  exact ⟨_, c, rfl, (hS.rw (Q' := fun _ => True) (fun _ _ _ => trivial) trivial).rws, b⟩
theorem SH.gen {w0 w : World} {X R L g : Nat} {fp : List Nat} {gS bS : Nat} {ga gd gl : Int} {n : Nat} {y : RS} {t : Nat} (h : SH w0 w X R L g fp gS bS ga gd gl n y t) : Calls Tryz.prog 20 #[.pointer (some ⟨X, 0, none⟩)] w fun e w' => e = .returned (.int .u64 (y.gen.toNat : Int)) ∧ w = w' := by
  obtain ⟨z, s, l, h1, h2, _⟩ := h
  obtain ⟨_, _, _, e3, _⟩ := h2.zok
  rw [e3]
  exact gen_any X R L g fp gS bS ga gd gl z s l w h1
theorem SH.life {w0 w : World} {X R L g : Nat} {fp : List Nat} {gS bS : Nat} {ga gd gl : Int} {n : Nat} {y : RS} {t : Nat} (h : SH w0 w X R L g fp gS bS ga gd gl n y t) : Calls Tryz.prog 21 #[.pointer (some ⟨X, 0, none⟩)] w fun e w' => e = .returned (.int .u64 (y.life.toNat : Int)) ∧ w = w' := by
  obtain ⟨z, s, l, h1, h2, _⟩ := h
  obtain ⟨_, _, e2, _⟩ := h2.zok
  rw [e2]
  exact life_any X R L g fp gS bS ga gd gl z s l w h1
end Go.Proofs.YtchcmklelmlbgaaGreat.Sto

/- The store: the chapter's example. No statement is proved here. -/
namespace Go.Proofs.YtchcmklelmlbgaaGreat.Sto
open Go.RowKit
open Go.Proofs.YtchcmklelmlbgaaGreat.Geom
open Go.Proofs.YtchcmklelmlbgaaGreat.Disk (St DAt Did new)
open Go.Proofs.YtchcmklelmlbgaaGreat.Sup (Gb gv gcell gthree srightF UpN up_new srightF_new newN_any)
open Go.Proofs.YtchcmklelmlbgaaGreat.Sec (symbolic_any)
open Go.Proofs.YtchcmklelmlbgaaGreat.Wal (whyF)
set_option linter.unusedVariables false
set_option maxRecDepth 100000
theorem SH.page {w0 w : World} {X R L g : Nat} {fp : List Nat} {gS bS : Nat} {ga gd gl : Int} {n : Nat} {y : RS} {t : Nat} (h : SH w0 w X R L g fp gS bS ga gd gl n y t) (k : Nat) (hk : k < y.pages.length) : Calls Tryz.prog 27 #[.pointer (some ⟨X, 0, none⟩), .int .i64 (k : Int)] w fun e w' => RetB 5 w y.pages[k] e w' := by
  obtain ⟨z, s, l, h1, h2, _⟩ := h
  obtain ⟨zo, e1, _⟩ := h2.zok
  have hpb := pagesOf_bd ga gd gl
  have hzl := zo.len
  have hk' : k < z.pages.length := by rw [← e1]; exact hk
  have e : y.pages[k] = z.pages[k] := by simp [e1]
  rw [e]
  exact page_in X R L g fp gS bS ga gd gl z s l k w h1 hk' (by omega) (by have := h2.pageLen _ (List.getElem_mem hk'); omega)
theorem lit9 (w : World) : Pgs ((w.alloc (.cells #[.int .u8 9] 5)).alloc (.cells #[.int .i64 2, .slice (some ⟨w.heap.size, 0, none⟩) 1 1] 53)) (fun j => w.heap.size ≤ j) (some ⟨w.heap.size + 1, 0, none⟩) [⟨2, [9]⟩] := by
  intro _
  have h1 : Blk ((w.alloc (.cells #[.int .u8 9] 5)).alloc (.cells #[.int .i64 2, .slice (some ⟨w.heap.size, 0, none⟩) 1 1] 53)) w.heap.size [.int .u8 9] := (Blk.new w [.int .u8 9] 5).alloc _
  have h2 : Blk ((w.alloc (.cells #[.int .u8 9] 5)).alloc (.cells #[.int .i64 2, .slice (some ⟨w.heap.size, 0, none⟩) 1 1] 53)) (w.heap.size + 1) [.int .i64 2, .slice (some ⟨w.heap.size, 0, none⟩) 1 1] := by simpa using Blk.new (w.alloc (.cells #[.int .u8 9] 5)) [.int .i64 2, .slice (some ⟨w.heap.size, 0, none⟩) 1 1] 53
  refine ⟨w.heap.size + 1, 0, rfl, h2.lt, by show w.heap.size ≤ w.heap.size + 1; omega, fun i hi => ?_⟩
  obtain rfl : i = 0 := by simp at hi; exact hi
  refine ⟨some ⟨w.heap.size, 0, none⟩, 1, h2.cell (k := 0) (by simp), h2.cell (k := 1) (by simp), fun _ => ⟨w.heap.size, 0, rfl, h1.lt, Nat.le_refl _, fun k hk => ?_⟩, by simp, by unfold maxLen; omega, by simp, by simp⟩
  obtain rfl : k = 0 := by simp at hk; exact hk
  exact h1.cell (k := 0) (by simp)
set_option maxHeartbeats 2000000 in
theorem alive_any (w : World) : Calls Tryz.prog 10 #[] w fun e w' => e = .returned (.bool true) ∧ Below w.heap.size w w' := by
  have hn : ((13 : Nat) : Int) = Geom.sizeOf 2 1 3 := by decide
  have hr : right 2 1 3 = true := by decide
  have hm : ((3 : Nat) : Int) = pagesOf 2 1 3 := by decide
  have hG : Gb 2 1 3 := by constructor <;> decide
  have hc : (RS.new 3).commit 2 1 3 [⟨2, [9]⟩] 4 = (⟨[[], [], [9]], 4, 1, 0, 0, 2, false⟩, 0) := by
    unfold RS.commit
    rw [if_neg (by decide), if_pos (show whyF 2 1 3 (RS.new 3).seq [⟨2, [9]⟩] = 0 by decide)]
    rfl
  obtain ⟨wA, hwA⟩ : ∃ q, q = w.alloc (.cells #[.int .i64 2, .int .i64 1, .int .i64 3] 23) := ⟨_, rfl⟩
  have HF := Lib.hid (fun W g fp gS bS (h : Both W g fp (new 13) gS bS []) hb ho => format_law (w0 := wA) (t := 0) hG h (up_new 13) hr hn hm (by simp) (by simp [new, Disk.St.sz]) (by omega) hb ho)
  have HC := Lib.hid (fun W X R L g fp gS bS (h : SH wA W X R L g fp gS bS 2 1 3 13 (RS.new 3) 1) Q A c hp hQ => h.commit hG hr hn (by omega) Q A [⟨2, [9]⟩] c 4 hp hQ (by simp))
  rw [hc] at HC
  have HO := Lib.hid (fun W X R L g fp gS bS y (h : SH wA W X R L g fp gS bS 2 1 3 13 y 2) => h.opens hG hr hn (by omega))
  clear hc hn hr hm hG
  have F := Lib.hid (show Blk wA w.heap.size (gcell 2 1 3) from by rw [hwA]; exact Blk.new w (gcell 2 1 3) 23)
  have hltF := F.out.lt
  have b0 : Below w.heap.size w wA := by rw [hwA]; exact b1alloc w _
  have HWA := Lib.hid hwA
  clear hwA
  go_enter Tryz.func10, Tryz.ntmps10
  go_upto_region 2 with (fail)
  rw [← HWA.out]
  go_wp2_with (first
    | (go_at_call 11; refine (newN_any 13 13 rfl (by omega) (by omega) _).mono ?_; rintro e w1 ⟨g, fp, rfl, hD, hfp, b1⟩)
    | (go_at_call 13; refine (symbolic_any _).mono ?_; rintro e w2 ⟨gS, bS, rfl, hS, hgS, hbS, b2⟩; have H2 := Here.start hD hfp b1 hS hgS hbS b2; have Hown := Lib.hid (show ∀ j ∈ bS :: gS :: fp, wA.heap.size ≤ j from fun j hj => by (have hs1 := b1.size; simp only [List.mem_cons] at hj; rcases hj with e | e | e; (omega); (omega); (exact hfp j e))); obtain ⟨m0, m1, m2⟩ := gthree (F.out.below H2.bel hltF))
    | (go_at_call 14; refine (HF.out _ g fp gS bS H2.both H2.bel Hown.out).mono ?_; rintro e w3 ⟨X, R, L, fp3, rfl, H3, _, _, _, _, _⟩; clear m0 m1 m2; obtain ⟨m0, m1, m2⟩ := gthree (F.out.below H3.bel hltF))
    | (go_at_call 15; refine (HC.out _ X R L g fp3 gS bS (H3.on (b2alloc _ _ _)) (fun j => w3.heap.size ≤ j) _ _ (lit9 w3) (fun j hj _ => H3.offNew hj)).mono ?_; rintro e w5 ⟨rfl, L5, fp5, H5, _, _⟩; clear m0 m1 m2; obtain ⟨m0, m1, m2⟩ := gthree (F.out.below H5.bel hltF))
    | (go_at_call 17; refine (HO.out _ X R L5 g fp5 gS bS _ H5).mono ?_; rintro e w6 ⟨X6, R6, rfl, H6, b6, _, _⟩)
    | (go_at_call 27; refine (H6.page 2 (by simp [RS.isDue])).mono ?_; rintro e w7 ⟨A7, c7, rfl, o7, b7⟩; obtain ⟨G7, c8, e7, hG7⟩ := own_some o7 (by simp [RS.isDue]); injection e7 with e1 e2 e3; subst e1; have x7 := World.ownsRow.cellAt o7 0 (by simp [RS.isDue]); simp [RS.isDue] at x7)
    | (go_at_call 20; refine ((H6.on b7).gen).mono ?_; rintro e w8 ⟨rfl, rfl⟩))
  go_ret
  exact ⟨by first | rfl | decide, bt b0 (bt H6.bel b7)⟩
end Go.Proofs.YtchcmklelmlbgaaGreat.Sto

/- Two stores on two disks beside one suite: what stays of both while one is turned. No statement is proved here. -/
namespace Go.Proofs.YtchcmklelmlbgaaGreat.Sto
open Go.RowKit
open Go.Proofs.YtchcmklelmlbgaaGreat.Geom
open Go.Proofs.YtchcmklelmlbgaaGreat.Disk (St DAt Did new)
open Go.Proofs.YtchcmklelmlbgaaGreat.Sec (SymAt text)
open Go.Proofs.YtchcmklelmlbgaaGreat.Sup (Gb gv gcell gthree srightF UpN up_new srightF_new splace sB sL)
open Go.Proofs.YtchcmklelmlbgaaGreat.Snap (snapF)
open Go.Proofs.YtchcmklelmlbgaaGreat.Wal (putF whyF)
open Go.Proofs.YtchcmklelmlbgaaGreat.Enc (Itm enf encs encs_nil encs_go encs_stop More xB)
set_option linter.unusedVariables false
set_option maxRecDepth 100000
/-! sums only come to be -/
theorem encs_more : ∀ (is : List Itm) (l : List (List UInt8)) (s : St), More l (encs is l s).1
  | [], l, s => by rw [encs_nil]; exact More.refl l
  | i :: r, l, s => by
    by_cases h : (Disk.write s i.1 (xB l i.1 i.2)).2 = 0
    · rw [encs_go h]; exact (More.after _ _).trans (encs_more r _ _)
    · rw [encs_stop h]; exact More.after _ _
theorem enf_more (is : List Itm) (l : List (List UInt8)) (s : St) : More l (enf is l s).1 := by
  unfold enf
  split
  · exact encs_more is l s
  · exact encs_more is l s
theorem begF_more (ga gd gl : Int) (life : UInt64) (base : Int) (gen : UInt64) (P : List (List UInt8)) (l : List (List UInt8)) (s : St) : More l (begF ga gd gl life base gen P l s).1 := by
  unfold begF snapF
  split
  · exact (enf_more _ l s).trans (More.after _ _)
  · exact enf_more _ l s
theorem putF_more (ga gd gl base : Int) (life : UInt64) (seq : Nat) (gen : UInt64) (pages : List Pg) (l : List (List UInt8)) (s : St) : More l (putF ga gd gl base life seq gen pages l s).1 := by
  unfold putF
  split
  · exact (enf_more _ l s).trans (enf_more _ _ _)
  · exact enf_more _ l s
theorem comF_more (ga gd gl : Int) (z : Z) (pages : List Pg) (gen : UInt64) (l : List (List UInt8)) (s : St) : More l (comF ga gd gl z pages gen l s).2.1 := by
  unfold comF
  split
  · exact putF_more _ _ _ _ _ _ _ _ _ _
  · split
    · split
      · exact (begF_more _ _ _ _ _ _ _ _ _).trans (putF_more _ _ _ _ _ _ _ _ _ _)
      · exact begF_more _ _ _ _ _ _ _ _ _
    · exact More.refl l
theorem PInv.more {ga gd gl : Int} {n : Nat} {sm sm' : List (List UInt8)} {st : St} {z : Z} {y : RS} (h : PInv ga gd gl n sm st z y) (m : More sm sm') : PInv ga gd gl n sm' st z y := by
  obtain ⟨⟨P0, ts, gen0, hI, h1⟩, h2, h3⟩ := h
  exact ⟨⟨P0, ts, gen0, ⟨hI.up, hI.hb, hI.pages, fun k hk => m _ _ _ (hI.snap k hk), m _ _ _ hI.sup, hI.oth.keep m rfl, fun k hk => m _ _ _ (hI.log k hk), fun p h0 h1 => (hI.rest p h0 h1).imp id (fun e => e.keep m rfl), hI.len, hI.bad⟩, h1⟩, h2, h3⟩
/-! a store, while another is turned -/
theorem SAt.beside {ex ks ex' : List Nat} {w w' : World} {X R L g : Nat} {fp : List Nat} {gS bS : Nat} {ga gd gl : Int} {z : Z} {s : St} {l l' : List (List UInt8)} (h : SAt ex w X R L g fp gS bS ga gd gl z s l) (sym : SymAt w' gS bS l') (k : Keep (bS :: ks) w w') (hks : ∀ j ∈ ks, j ∈ ex) (hap : ∀ j ∈ X :: R :: L :: fp, j ∉ ks) (hnew : ∀ j ∈ ex', j ∈ ex ∨ w.heap.size ≤ j) (hlt : ∀ j ∈ ex', j < w'.heap.size) : SAt ex' w' X R L g fp gS bS ga gd gl z s l' := by
  obtain ⟨lv, c, h1, h2, h3⟩ := h.blk
  obtain ⟨x1, x2, x3, x4⟩ := h.nX
  obtain ⟨r1, r2, r3, r4⟩ := h.nR
  obtain ⟨l1, l2, l3⟩ := h.nL
  have hn : ∀ j, j ≠ bS → j ∈ X :: R :: L :: fp → j ∉ bS :: ks := fun j hb hj e => by
    rcases List.mem_cons.1 e with e | e
    · exact hb e
    · exact hap j hj e
  refine ⟨⟨h.both.disk.keep k (fun j hj => hn j (fun e => h.both.nB (e ▸ hj)) (by simp [hj])), sym, h.both.nS, h.both.nB⟩, ⟨lv, c, h1.keepK k (hn X x2 (by simp)), h2, ?_⟩, fun hd => ⟨(h.log hd).1.keepK k (hn L l1 (by simp)), (h.log hd).2⟩, h.nX, h.nR, h.nL, Nat.lt_of_lt_of_le h.lt k.size, hlt⟩
  refine h3.move k (hn R r2 (by simp)) (fun j hj hl => ⟨fun e => ?_, hj.1, hj.2.1, hj.2.2.1, hj.2.2.2.1, ⟨hj.2.2.2.2.1.1, fun e => ?_⟩, hj.2.2.2.2.2⟩)
  · rcases List.mem_cons.1 e with e | e
    · exact hj.2.2.2.1 e
    · exact hj.2.2.2.2.1.2 (hks j e)
  · rcases hnew j e with e | e
    · exact hj.2.2.2.2.1.2 e
    · omega
theorem SAt.drop {ex : List Nat} {w : World} {X R L g : Nat} {fp : List Nat} {gS bS : Nat} {ga gd gl : Int} {z : Z} {s : St} {l : List (List UInt8)} (h : SAt ex w X R L g fp gS bS ga gd gl z s l) : SAt [] w X R L g fp gS bS ga gd gl z s l := by
  obtain ⟨lv, c, h1, h2, h3⟩ := h.blk
  exact ⟨h.both, ⟨lv, c, h1, h2, h3.imp (fun j _ hj => ⟨hj.1, hj.2.1, hj.2.2.1, hj.2.2.2.1, ⟨hj.2.2.2.2.1.1, by simp⟩, hj.2.2.2.2.2⟩)⟩, h.log, h.nX, h.nR, h.nL, h.lt, fun j hj => by cases hj⟩
/-- a store of empty pages -/
theorem SAt.empty {ex : List Nat} {w : World} {X R L g : Nat} {fp : List Nat} {gS bS : Nat} {ga gd gl : Int} {z : Z} {s : St} {l : List (List UInt8)} (h : SAt [] w X R L g fp gS bS ga gd gl z s l) (he : ∀ b ∈ z.pages, b = []) (hlt : ∀ j ∈ ex, j < w.heap.size) : SAt ex w X R L g fp gS bS ga gd gl z s l := by
  obtain ⟨lv, c, h1, h2, xs, h3, h4⟩ := h.blk
  refine ⟨h.both, ⟨lv, c, h1, h2, xs, h3, fun i hi => ?_⟩, h.log, h.nX, h.nR, h.nL, h.lt, hlt⟩
  obtain ⟨Ai, ci, a, b, d⟩ := h4 i hi
  refine ⟨Ai, ci, a, ?_, d⟩
  rw [he _ (List.getElem_mem hi)]
  exact RdQ.nil _ _ _
/-- two stores, of two disks, beside one suite, each in blocks of its own -/
structure TW (w0 w : World) (n : Nat) (ga gd gl : Int) (gS bS : Nat) (Xa Ra La gA : Nat) (fA : List Nat) (Xb Rb Lb gB : Nat) (fB : List Nat) (ya yb : RS) (t : Nat) : Prop where
  ex : ∃ za sa zb sb l, SAt (Xb :: Rb :: Lb :: fB) w Xa Ra La gA fA gS bS ga gd gl za sa l ∧ PInv ga gd gl n l sa za ya ∧ SAt (Xa :: Ra :: La :: fA) w Xb Rb Lb gB fB gS bS ga gd gl zb sb l ∧ PInv ga gd gl n l sb zb yb ∧ l.length ≤ 3000 * t ∧ sa.sz ≤ 3000 * t ∧ sb.sz ≤ 3000 * t ∧ ya.life.toNat ≤ t ∧ yb.life.toNat ≤ t
  bel : Below w0.heap.size w0 w
  own : w0.heap.size ≤ bS ∧ w0.heap.size ≤ gS ∧ (∀ j ∈ Xa :: Ra :: La :: fA, w0.heap.size ≤ j) ∧ ∀ j ∈ Xb :: Rb :: Lb :: fB, w0.heap.size ≤ j
  apart : ∀ j ∈ Xa :: Ra :: La :: fA, j ∉ Xb :: Rb :: Lb :: fB
theorem TW.symm {w0 w : World} {n : Nat} {ga gd gl : Int} {gS bS Xa Ra La gA : Nat} {fA : List Nat} {Xb Rb Lb gB : Nat} {fB : List Nat} {ya yb : RS} {t : Nat} (h : TW w0 w n ga gd gl gS bS Xa Ra La gA fA Xb Rb Lb gB fB ya yb t) : TW w0 w n ga gd gl gS bS Xb Rb Lb gB fB Xa Ra La gA fA yb ya t := by
  obtain ⟨⟨za, sa, zb, sb, l, h1, h2, h3, h4, h5, h6, h7, h8, h9⟩, hb, ⟨o1, o2, o3, o4⟩, ha⟩ := h
  exact ⟨⟨zb, sb, za, sa, l, h3, h4, h1, h2, h5, h7, h6, h9, h8⟩, hb, ⟨o1, o2, o4, o3⟩, fun j hj e => ha j e hj⟩
theorem TW.on {w0 w w' : World} {n : Nat} {ga gd gl : Int} {gS bS Xa Ra La gA : Nat} {fA : List Nat} {Xb Rb Lb gB : Nat} {fB : List Nat} {ya yb : RS} {t : Nat} (h : TW w0 w n ga gd gl gS bS Xa Ra La gA fA Xb Rb Lb gB fB ya yb t) (b : Below w.heap.size w w') : TW w0 w' n ga gd gl gS bS Xa Ra La gA fA Xb Rb Lb gB fB ya yb t := by
  obtain ⟨⟨za, sa, zb, sb, l, h1, h2, h3, h4, h5, h6, h7, h8, h9⟩, hb, ho, ha⟩ := h
  exact ⟨⟨za, sa, zb, sb, l, h1.on b, h2, h3.on b, h4, h5, h6, h7, h8, h9⟩, bt hb b, ho, ha⟩
theorem TW.sh {w0 w : World} {n : Nat} {ga gd gl : Int} {gS bS Xa Ra La gA : Nat} {fA : List Nat} {Xb Rb Lb gB : Nat} {fB : List Nat} {ya yb : RS} {t : Nat} (h : TW w0 w n ga gd gl gS bS Xa Ra La gA fA Xb Rb Lb gB fB ya yb t) : SH w0 w Xa Ra La gA fA gS bS ga gd gl n ya t := by
  obtain ⟨⟨za, sa, zb, sb, l, h1, h2, h3, h4, h5, h6, h7, h8, h9⟩, hb, ⟨o1, o2, o3, o4⟩, ha⟩ := h
  refine ⟨za, sa, l, h1.drop, h2, h5, h6, h8, hb, fun j hj => ?_⟩
  simp only [List.mem_cons] at hj
  rcases hj with e | e | e | e | e | e
  · exact o3 j (by simp [e])
  · exact o3 j (by simp [e])
  · exact o3 j (by simp [e])
  · omega
  · omega
  · exact o3 j (by simp [e])
/-- the first is turned -/
def TWT (w0 : World) (n : Nat) (ga gd gl : Int) (gS bS Xa Ra gA Xb Rb Lb gB : Nat) (fB : List Nat) (ya yb : RS) (t : Nat) (w' : World) : Prop := ∃ La fA, TW w0 w' n ga gd gl gS bS Xa Ra La gA fA Xb Rb Lb gB fB ya yb t
theorem TW.turned {w0 w w' : World} {n : Nat} {ga gd gl : Int} {gS bS Xa Ra La gA : Nat} {fA : List Nat} {Xb Rb Lb gB : Nat} {fB : List Nat} {yb ya' : RS} {t : Nat} {za : Z} {sa : St} {zb : Z} {sb : St} {l l' : List (List UInt8)} {z' : Z} {s' : St} (h1 : SAt (Xb :: Rb :: Lb :: fB) w Xa Ra La gA fA gS bS ga gd gl za sa l) (h3 : SAt (Xa :: Ra :: La :: fA) w Xb Rb Lb gB fB gS bS ga gd gl zb sb l) (h4 : PInv ga gd gl n l sb zb yb)
    (hst : STurn (Xb :: Rb :: Lb :: fB) w Xa Ra La gA fA gS bS ga gd gl z' s' l' w') (hi : PInv ga gd gl n l' s' z' ya') (hm : More l l') (hl : l'.length ≤ 3000 * (t + 1)) (hs : s'.sz ≤ 3000 * (t + 1)) (hsb : sb.sz ≤ 3000 * t) (ha : ya'.life.toNat ≤ t + 1) (hb : yb.life.toNat ≤ t)
    (hbel : Below w0.heap.size w0 w) (ho : w0.heap.size ≤ bS ∧ w0.heap.size ≤ gS ∧ (∀ j ∈ Xa :: Ra :: La :: fA, w0.heap.size ≤ j) ∧ ∀ j ∈ Xb :: Rb :: Lb :: fB, w0.heap.size ≤ j) (hap : ∀ j ∈ Xa :: Ra :: La :: fA, j ∉ Xb :: Rb :: Lb :: fB) : TWT w0 n ga gd gl gS bS Xa Ra gA Xb Rb Lb gB fB ya' yb (t + 1) w' := by
  obtain ⟨L', fp', a, k, f⟩ := hst
  have k2 : Keep (bS :: (Xa :: Ra :: La :: fA)) w w' := k.more (fun j hj => by simp only [List.mem_cons] at hj ⊢; rcases hj with e | e | e | e | e <;> simp [e])
  have hbs := hbel.size
  have hnew : ∀ j ∈ Xa :: Ra :: L' :: fp', j ∈ Xa :: Ra :: La :: fA ∨ w.heap.size ≤ j := fun j hj => by
    simp only [List.mem_cons] at hj
    rcases hj with e | e | e | e
    · exact .inl (by simp [e])
    · exact .inl (by simp [e])
    · rcases f.2 with e2 | e2
      · exact .inl (by simp [e, e2])
      · exact .inr (by omega)
    · rcases f.1 j e with e2 | e2
      · exact .inl (by simp [e2])
      · exact .inr e2
  have hlt : ∀ j ∈ Xa :: Ra :: L' :: fp', j < w'.heap.size := fun j hj => by
    simp only [List.mem_cons] at hj
    rcases hj with e | e | e | e
    · rw [e]; exact a.ltX.1
    · rw [e]; exact a.ltX.2
    · rw [e]; exact a.lt
    · exact a.both.disk.lt j e
  refine ⟨L', fp', ⟨z', s', zb, sb, l', a, hi, h3.beside a.both.sym k2 (fun j hj => hj) (fun j hj e => hap j e hj) hnew hlt, h4.more hm, hl, hs, by omega, ha, by omega⟩, hbel.trans (k2.below (fun j hj => ?_) hbel.size), ⟨ho.1, ho.2.1, fun j hj => ?_, ho.2.2.2⟩, fun j hj e => ?_⟩
  · rcases List.mem_cons.1 hj with e | e
    · rw [e]; exact ho.1
    · exact ho.2.2.1 j e
  · rcases hnew j hj with e | e
    · exact ho.2.2.1 j e
    · omega
  · rcases hnew j hj with e2 | e2
    · exact hap j e2 e
    · have := h1.exl j e; omega
theorem TW.commit {w0 w : World} {n : Nat} {ga gd gl : Int} {gS bS Xa Ra La gA : Nat} {fA : List Nat} {Xb Rb Lb gB : Nat} {fB : List Nat} {ya yb : RS} {t : Nat} (h : TW w0 w n ga gd gl gS bS Xa Ra La gA fA Xb Rb Lb gB fB ya yb t) (hG : Gb ga gd gl) (hr : right ga gd gl = true) (hn : (n : Int) = Geom.sizeOf ga gd gl) (ht : t ≤ 100) (A : Option Addr) (pages : List Pg) (c : Nat) (gen : UInt64) (hp : Pgs w (fun j => j < w0.heap.size) A pages) (hcl : pages.length ≤ 1000) :
    Calls Tryz.prog 15 #[.pointer (some ⟨Xa, 0, none⟩), .slice A pages.length c, .int .u64 (gen.toNat : Int)] w fun e w' => e = .returned (.int .i64 (ya.commit ga gd gl pages gen).2) ∧ TWT w0 n ga gd gl gS bS Xa Ra gA Xb Rb Lb gB fB (ya.commit ga gd gl pages gen).1 yb (t + 1) w' := by
  obtain ⟨⟨z, s, zb, sb, l, h1, h2, h3, h4, h5, h6, h7, h8, h9⟩, hbel, ho, hap⟩ := h
  obtain ⟨zo, e1, e2, e3, e4, e5⟩ := h2.zok
  have hpb := pagesOf_bd ga gd gl
  have hzl := zo.len
  have hf : srightF s ga gd gl = 0 := srightF_new hr h2.up.size hn
  have hbs := hbel.size
  have hoff : ∀ j, j < w0.heap.size → j < w.heap.size → Off (Xb :: Rb :: Lb :: fB) Xa Ra La bS gS fA j := fun j hj _ => by
    obtain ⟨o1, o2, o3, o4⟩ := ho
    exact ⟨by have := o3 Xa (by simp); omega, by have := o3 Ra (by simp); omega, by have := o3 La (by simp); omega, by omega, ⟨by omega, fun e => by have := o4 j e; omega⟩, fun e => by have := o3 j (by simp [e]); omega⟩
  cases hdu : z.due with
  | true =>
    have hc : ya.commit ga gd gl pages gen = (ya, 14) := by unfold RS.commit; rw [if_pos (e4.trans hdu)]
    rw [hc]
    refine (commit_due Xa Ra La gA fA gS bS ga gd gl z s l A pages.length c gen w h1 h2.alive hdu).mono ?_
    rintro e w' ⟨rfl, b⟩
    exact ⟨rfl, TW.turned h1 h3 h4 (STurn.same h1 b) h2 (More.refl _) (by omega) (by omega) h7 (by show ya.life.toNat ≤ _; omega) h9 hbel ho hap⟩
  | false =>
    have hq := h2.small hr hdu
    have hlim := comF_lim ga gd gl z pages gen l s
    refine (commit_any Xa Ra La gA fA gS bS ga gd gl z s l (fun j => j < w0.heap.size) A pages c gen w hG h1 hp hoff hcl (by omega) (by omega) hf zo h2.alive hdu (h2.has hdu) (by rw [← e2]; omega) h2.hb (by omega)).mono ?_
    rintro e w' ⟨rfl, tt⟩
    obtain ⟨f1, f2⟩ := h2.commit hr hdu (by rw [← e2]; omega) pages gen
    exact ⟨by rw [f1], TW.turned h1 h3 h4 tt f2 (comF_more _ _ _ _ _ _ _ _) (by omega) (by omega) h7 (life_le (commit_life ga gd gl ya pages gen) h8) h9 hbel ho hap⟩
theorem TW.renew {w0 w : World} {n : Nat} {ga gd gl : Int} {gS bS Xa Ra La gA : Nat} {fA : List Nat} {Xb Rb Lb gB : Nat} {fB : List Nat} {ya yb : RS} {t : Nat} (h : TW w0 w n ga gd gl gS bS Xa Ra La gA fA Xb Rb Lb gB fB ya yb t) (hG : Gb ga gd gl) (hr : right ga gd gl = true) (hn : (n : Int) = Geom.sizeOf ga gd gl) (ht : t ≤ 100) :
    Calls Tryz.prog 16 #[.pointer (some ⟨Xa, 0, none⟩)] w fun e w' => e = .returned (.int .i64 0) ∧ TWT w0 n ga gd gl gS bS Xa Ra gA Xb Rb Lb gB fB (ya.renew gl) yb (t + 1) w' := by
  obtain ⟨⟨z, s, zb, sb, l, h1, h2, h3, h4, h5, h6, h7, h8, h9⟩, hbel, ho, hap⟩ := h
  obtain ⟨zo, e1, e2, e3, e4, e5⟩ := h2.zok
  have hpb := pagesOf_bd ga gd gl
  have hzl := zo.len
  have hf : srightF s ga gd gl = 0 := srightF_new hr h2.up.size hn
  obtain ⟨f1, f2⟩ := h2.renew hr (by rw [← e2]; omega)
  have hlim := begF_lim ga gd gl (z.life + 1) (baseN gl z) z.gen z.pages l s
  refine (renew_any Xa Ra La gA fA gS bS ga gd gl z s l w hG h1 (by omega) (by omega) hf zo h2.alive (by rw [← e2]; omega) h2.hb (fun hd => by have := h2.small hr hd; omega) (fun hd => h2.nextBd hr hd) h2.has).mono ?_
  rintro e w' ⟨rfl, tt⟩
  exact ⟨by rw [f1], TW.turned h1 h3 h4 tt f2 (begF_more _ _ _ _ _ _ _ _ _) (by unfold renO; omega) (by unfold renO; omega) h7 (life_le (.inr rfl) h8) h9 hbel ho hap⟩
end Go.Proofs.YtchcmklelmlbgaaGreat.Sto

/- Two stores on two disks beside one suite: how they begin. No statement is proved here. -/
namespace Go.Proofs.YtchcmklelmlbgaaGreat.Sto
open Go.RowKit
open Go.Proofs.YtchcmklelmlbgaaGreat.Geom
open Go.Proofs.YtchcmklelmlbgaaGreat.Disk (St DAt Did new)
open Go.Proofs.YtchcmklelmlbgaaGreat.Sec (SymAt text)
open Go.Proofs.YtchcmklelmlbgaaGreat.Sup (Gb gv gcell gthree srightF UpN up_new srightF_new)
open Go.Proofs.YtchcmklelmlbgaaGreat.Enc (More)
set_option linter.unusedVariables false
set_option maxRecDepth 100000
/-- a store, and another disk that is new -/
structure L1 (w0 w : World) (X R L gA : Nat) (fp : List Nat) (gS bS : Nat) (ga gd gl : Int) (n : Nat) (y : RS) (t gB : Nat) (fB : List Nat) : Prop where
  sh : SH w0 w X R L gA fp gS bS ga gd gl n y t
  dsk : DAt w gB fB (new n)
  off : ∀ j ∈ fB, Off [] X R L bS gS fp j
  own : ∀ j ∈ fB, w0.heap.size ≤ j
theorem L1.start {w0 wd we ws w' : World} {X R L gA : Nat} {fA fp : List Nat} {gS bS : Nat} {ga gd gl : Int} {n : Nat} {y : RS} {t gB : Nat} {fB : List Nat} {sA : St} (hD : DAt wd gA fA sA) (hE : DAt we gB fB (new n)) (b1 : Below w0.heap.size w0 wd) (b2 : Below wd.heap.size wd we) (b3 : Below we.heap.size we ws) (hfE : ∀ j ∈ fB, wd.heap.size ≤ j) (hbS : we.heap.size ≤ bS) (hgS : we.heap.size ≤ gS)
    (h : SH w0 w' X R L gA fp gS bS ga gd gl n y t) (k : Keep (bS :: fA) ws w') (f : Fresh ws fA fp) (hX : ws.heap.size ≤ X) (hR : ws.heap.size ≤ R) (hL : ws.heap.size ≤ L) : L1 w0 w' X R L gA fp gS bS ga gd gl n y t gB fB := by
  have s1 := b1.size
  have s2 := b2.size
  have s3 := b3.size
  refine ⟨h, (hE.on b3).keep k (fun j hj e => ?_), fun j hj => ?_, fun j hj => by have := hfE j hj; omega⟩
  · have h1 := hE.lt j hj
    have h2 := hfE j hj
    rcases List.mem_cons.1 e with e | e
    · omega
    · have := hD.lt j e; omega
  · have h1 := hE.lt j hj
    have h2 := hfE j hj
    refine ⟨by omega, by omega, by omega, by omega, ⟨by omega, by simp⟩, fun e => ?_⟩
    rcases f j e with e | e
    · have := hD.lt j e; omega
    · omega
theorem L1.on {w0 w w' : World} {X R L gA : Nat} {fp : List Nat} {gS bS : Nat} {ga gd gl : Int} {n : Nat} {y : RS} {t gB : Nat} {fB : List Nat} (h : L1 w0 w X R L gA fp gS bS ga gd gl n y t gB fB) (b : Below w.heap.size w w') : L1 w0 w' X R L gA fp gS bS ga gd gl n y t gB fB := ⟨h.sh.on b, h.dsk.on b, h.off, h.own⟩
theorem L1.turn {w0 w w' : World} {X R L gA : Nat} {fp : List Nat} {gS bS : Nat} {ga gd gl : Int} {n : Nat} {y y' : RS} {t t' gB : Nat} {fB : List Nat} (h : L1 w0 w X R L gA fp gS bS ga gd gl n y t gB fB) (ht : SHT w0 w X R L gA fp gS bS ga gd gl n y' t' w') : ∃ L' fp', L1 w0 w' X R L' gA fp' gS bS ga gd gl n y' t' gB fB := by
  obtain ⟨L', fp', h1, k, f⟩ := ht
  refine ⟨L', fp', h1, h.dsk.keep k (fun j hj => offKeep (h.off j hj)), fun j hj => ?_, h.own⟩
  obtain ⟨o1, o2, o3, o4, o5, o6⟩ := h.off j hj
  have hlt := h.dsk.lt j hj
  refine ⟨o1, o2, fun e => ?_, o4, o5, f.1.out hlt o6⟩
  rcases f.2 with e2 | e2
  · exact o3 (by rw [e, e2])
  · omega
/-- formatted anew, and another disk that is new -/
structure A1 (w0 w : World) (X R L gA : Nat) (fA : List Nat) (gS bS : Nat) (ga gd gl : Int) (n : Nat) (y : RS) (t gB : Nat) (fB : List Nat) : Prop where
  ex : ∃ z s l, SAt fB w X R L gA fA gS bS ga gd gl z s l ∧ PInv ga gd gl n l s z y ∧ l.length ≤ 3000 * t ∧ s.sz ≤ 3000 * t ∧ y.life.toNat ≤ t
  bel : Below w0.heap.size w0 w
  own : w0.heap.size ≤ bS ∧ w0.heap.size ≤ gS ∧ (∀ j ∈ X :: R :: L :: fA, w0.heap.size ≤ j) ∧ ∀ j ∈ fB, w0.heap.size ≤ j
  dsk : DAt w gB fB (new n)
  apart : ∀ j ∈ X :: R :: L :: fA, j ∉ fB
  nS : gS ∉ fB
  nB : bS ∉ fB
theorem L1.format {w0 w : World} {X R L gA : Nat} {fp : List Nat} {gS bS : Nat} {ga gd gl : Int} {n m : Nat} {y : RS} {t gB : Nat} {fB : List Nat} (h : L1 w0 w X R L gA fp gS bS ga gd gl n y t gB fB) (hG : Gb ga gd gl) (hr : right ga gd gl = true) (hn : (n : Int) = Geom.sizeOf ga gd gl) (hm : (m : Int) = pagesOf ga gd gl) (ht : t ≤ 100) :
    Calls Tryz.prog 14 #[.pointer (some ⟨gA, 0, none⟩), .pointer (some ⟨gS, 0, none⟩), gv ga gd gl] w fun e w' => ∃ X' R' L' fA, e = .returned (.tuple #[.pointer (some ⟨X', 0, none⟩), .int .i64 0]) ∧ A1 w0 w' X' R' L' gA fA gS bS ga gd gl n (RS.new m) (t + 1) gB fB := by
  obtain ⟨⟨z, s, l, h1, h2, h3, h4, h5, hbel, h7⟩, hd, hoff, hown⟩ := h
  have hu := h2.up
  obtain ⟨p1, p2, p3, p4⟩ := first_pinv hu hr hn hm l
  have hf : srightF s ga gd gl = 0 := srightF_new hr hu.size hn
  have hpb := pagesOf_bd ga gd gl
  have hy := right_yes hr
  have hlim := begF_lim ga gd gl 1 0 0 (List.replicate m []) l (wipeF gl (Sup.clr s).1).1
  rw [List.length_replicate] at hlim
  have q1 := clr_sz s
  have q2 := wipeF_sz (show gl ≤ 64 by omega) (Sup.clr s).1
  have hbs := hbel.size
  refine (format_any gA fp s gS bS l ga gd gl m w hG h1.both (by omega) (by omega) hf hm p1 p2 p3).mono ?_
  rintro e w' ⟨X', rfl, R', L', fp', a, k, f, x1, x2, x3⟩
  have hlt := hd.lt
  have hk : ∀ j ∈ fB, j ∉ bS :: fp := fun j hj e => by
    obtain ⟨o1, o2, o3, o4, o5, o6⟩ := hoff j hj
    rcases List.mem_cons.1 e with e | e
    · exact o4 e
    · exact o6 e
  refine ⟨X', R', L', fp', rfl, ⟨_, _, _, a.empty (fun b hb => ?_) (fun j hj => Nat.lt_of_lt_of_le (hlt j hj) k.size), p4, by omega, by omega, by show (1 : UInt64).toNat ≤ _; simp⟩, hbel.trans (k.below (fun j hj => ?_) hbel.size), ⟨h7 bS (by simp), h7 gS (by simp), fun j hj => ?_, hown⟩, hd.keep k (fun j hj => hk j hj), fun j hj e => ?_, fun e => (hoff gS e).2.2.2.2.1.1 rfl, fun e => (hoff bS e).2.2.2.1 rfl⟩
  · have e : ((z0 m).begun 1 0 0).pages = List.replicate m [] := rfl
    rw [e] at hb
    exact List.eq_of_mem_replicate hb
  · simp only [List.mem_cons] at hj
    rcases hj with e | e
    · exact h7 j (by simp [e])
    · exact h7 j (by simp [e])
  · simp only [List.mem_cons] at hj
    rcases hj with e | e | e | e
    · omega
    · omega
    · omega
    · rcases f j e with e2 | e2
      · exact h7 j (by simp [e2])
      · omega
  · have := hlt j e
    simp only [List.mem_cons] at hj
    rcases hj with e1 | e1 | e1 | e1
    · omega
    · omega
    · omega
    · rcases f j e1 with e2 | e2
      · exact (hoff j e).2.2.2.2.2 e2
      · omega
theorem A1.on {w0 w w' : World} {X R L gA : Nat} {fA : List Nat} {gS bS : Nat} {ga gd gl : Int} {n : Nat} {y : RS} {t gB : Nat} {fB : List Nat} (h : A1 w0 w X R L gA fA gS bS ga gd gl n y t gB fB) (b : Below w.heap.size w w') : A1 w0 w' X R L gA fA gS bS ga gd gl n y t gB fB := by
  obtain ⟨⟨z, s, l, h1, h2, h3, h4, h5⟩, hb, ho, hd, ha, n1, n2⟩ := h
  exact ⟨⟨z, s, l, h1.on b, h2, h3, h4, h5⟩, bt hb b, ho, hd.on b, ha, n1, n2⟩
theorem A1.format {w0 w : World} {X R L gA : Nat} {fA : List Nat} {gS bS : Nat} {ga gd gl : Int} {n m : Nat} {y : RS} {t gB : Nat} {fB : List Nat} (h : A1 w0 w X R L gA fA gS bS ga gd gl n y t gB fB) (hG : Gb ga gd gl) (hr : right ga gd gl = true) (hn : (n : Int) = Geom.sizeOf ga gd gl) (hm : (m : Int) = pagesOf ga gd gl) (ht : t ≤ 100) (ht1 : 1 ≤ t) (hn3 : n ≤ 1000) :
    Calls Tryz.prog 14 #[.pointer (some ⟨gB, 0, none⟩), .pointer (some ⟨gS, 0, none⟩), gv ga gd gl] w fun e w' => ∃ X' R' L' fB', e = .returned (.tuple #[.pointer (some ⟨X', 0, none⟩), .int .i64 0]) ∧ TW w0 w' n ga gd gl gS bS X R L gA fA X' R' L' gB fB' y (RS.new m) (t + 1) := by
  obtain ⟨⟨z, s, l, h1, h2, h3, h4, h5⟩, hbel, ho, hd, hap, n1, n2⟩ := h
  have hu := up_new n
  obtain ⟨p1, p2, p3, p4⟩ := first_pinv hu hr hn hm l
  have hf : srightF (new n) ga gd gl = 0 := srightF_new hr hu.size hn
  have hpb := pagesOf_bd ga gd gl
  have hy := right_yes hr
  have hlim := begF_lim ga gd gl 1 0 0 (List.replicate m []) l (wipeF gl (Sup.clr (new n)).1).1
  rw [List.length_replicate] at hlim
  have q1 := clr_sz (new n)
  have q2 := wipeF_sz (show gl ≤ 64 by omega) (Sup.clr (new n)).1
  have q3 : (new n).sz = 0 := by simp [new, Disk.St.sz]
  have hbs := hbel.size
  have hB : Both w gB fB (new n) gS bS l := ⟨hd, h1.both.sym, n1, n2⟩
  refine (format_any gB fB (new n) gS bS l ga gd gl m w hG hB (by omega) (by omega) hf hm p1 p2 p3).mono ?_
  rintro e w' ⟨X', rfl, R', L', fp', a, k, f, x1, x2, x3⟩
  have hltA : ∀ j ∈ X :: R :: L :: fA, j < w.heap.size := fun j hj => by
    simp only [List.mem_cons] at hj
    rcases hj with e | e | e | e
    · rw [e]; exact h1.ltX.1
    · rw [e]; exact h1.ltX.2
    · rw [e]; exact h1.lt
    · exact h1.both.disk.lt j e
  have hnew : ∀ j ∈ X' :: R' :: L' :: fp', j ∈ fB ∨ w.heap.size ≤ j := fun j hj => by
    simp only [List.mem_cons] at hj
    rcases hj with e | e | e | e
    · exact .inr (by omega)
    · exact .inr (by omega)
    · exact .inr (by omega)
    · exact f j e
  have hltB : ∀ j ∈ X' :: R' :: L' :: fp', j < w'.heap.size := fun j hj => by
    simp only [List.mem_cons] at hj
    rcases hj with e | e | e | e
    · rw [e]; exact a.ltX.1
    · rw [e]; exact a.ltX.2
    · rw [e]; exact a.lt
    · exact a.both.disk.lt j e
  have hm' := begF_more ga gd gl 1 0 0 (List.replicate m []) l (wipeF gl (Sup.clr (new n)).1).1
  refine ⟨X', R', L', fp', rfl, ⟨_, _, _, _, _, h1.beside a.both.sym k (fun j hj => hj) (fun j hj e => hap j hj e) hnew hltB, h2.more hm', a.empty (fun b hb => ?_) (fun j hj => Nat.lt_of_lt_of_le (hltA j hj) k.size), p4, by omega, by omega, by omega, by omega, by show (1 : UInt64).toNat ≤ _; simp⟩, hbel.trans (k.below (fun j hj => ?_) hbel.size), ⟨ho.1, ho.2.1, ho.2.2.1, fun j hj => ?_⟩, fun j hj e => ?_⟩
  · have e : ((z0 m).begun 1 0 0).pages = List.replicate m [] := rfl
    rw [e] at hb
    exact List.eq_of_mem_replicate hb
  · rcases List.mem_cons.1 hj with e | e
    · rw [e]; exact ho.1
    · exact ho.2.2.2 j e
  · rcases hnew j hj with e | e
    · exact ho.2.2.2 j e
    · omega
  · rcases hnew j e with e2 | e2
    · exact hap j hj e2
    · have := hltA j hj; omega
end Go.Proofs.YtchcmklelmlbgaaGreat.Sto

/- Rows of transactions ([]Txn of the document): how they come in as an argument. No statement is proved here. -/
namespace Go.Proofs.YtchcmklelmlbgaaGreat
open Go.RowKit
open Go.ChangeShapes Go.WideShapes Go.ChangeAt Go.Joins Go.Deep
set_option linter.unusedVariables false
set_option maxRecDepth 100000
theorem pages_of1 {v : Value} {H : Type} {enc : TypeId × Value → H} {w : World} {held : Bool} {fuel : Nat} {x : DataW H × List MemPlace}
    (h : DataW.trod enc Tryz.prog w 0 (fun _ => true) held fuel 38 [v] = some x) :
    ∃ (A : Option Addr) (l : List Pg) (c : Nat), v = .slice A l.length c ∧ Pgs w (fun j => j < w.heap.size) A l ∧ l.length ≤ c ∧ c ≤ maxLen := by
  rcases open_slice_fields Tryz.underlying38 Tryz.underlying53 (by kernel_rfl) (by kernel_rfl) h with hcs | ⟨a, l', c', m, hcs, _, hl, hm, hmm, hi⟩
  · simp only [List.cons.injEq, and_true] at hcs
    subst hcs
    exact ⟨none, [], 0, rfl, Pgs.nil _ _ _, by simp, by unfold maxLen; omega⟩
  · simp only [List.cons.injEq, and_true] at hcs
    subst hcs
    simp only [if_true] at hmm
    subst hmm
    have key : ∀ i, i < l' → ∃ f : Pg, ∃ b off, a = ⟨b, off, none⟩ ∧ b < w.heap.size ∧ ∃ Ai ci, PgAt w (fun j => j < w.heap.size) b (off + i * 2) f Ai ci := by
      intro i hil
      obtain ⟨ys, n, hf⟩ := hi i (by omega)
      obtain ⟨v0, y0, c0, _, t0⟩ := hf 0 _ rfl
      obtain ⟨v1, y1, c1, _, t1⟩ := hf 1 _ rfl
      obtain ⟨k, e0, _, wk⟩ := DataW.trod_int Tryz.underlying3 t0
      obtain ⟨A4, l4, c4', e4, r4, q4, m4⟩ := bytes_of1 Tryz.underlying51 Tryz.underlying5 (by kernel_rfl) t1
      simp only [List.cons.injEq, and_true] at e0
      subst e0 e4
      obtain ⟨b, off, spot⟩ := a
      have hspot : spot = none := by
        obtain ⟨_, _, hf0⟩ := hi 0 (by omega)
        obtain ⟨_, _, c00, _, _⟩ := hf0 0 _ rfl
        exact World.cell?_spot c00
      subst hspot
      rw [Addr.add_lit] at c0 c1
      have hb : b < w.heap.size := by
        rcases Nat.lt_or_ge b w.heap.size with h | h
        · exact h
        · simp [World.cell?, Array.getElem?_eq_none h] at c0
      exact ⟨⟨k, l4⟩, b, off, rfl, hb, A4, c4', c0, c1, r4.q (Nat.le_refl _), q4, m4, (wfi wk).1, (wfi wk).2⟩
    obtain ⟨l, hll, hp⟩ := choose_list key
    subst hll
    refine ⟨some a, l, m, rfl, fun hne => ?_, hl, hm⟩
    have hpos : 0 < l.length := by cases l; exact absurd rfl hne; simp
    obtain ⟨b, off, rfl, hb, _⟩ := hp 0 hpos
    refine ⟨b, off, rfl, hb, hb, fun i hi => ?_⟩
    obtain ⟨b', off', e, _, h2⟩ := hp i hi
    injection e with e1 e2 _
    subst e1 e2
    exact h2
end Go.Proofs.YtchcmklelmlbgaaGreat

/- Rows of what a law of the store does ([]Act: a kind and a transaction): how they come in as an argument. No statement is proved here. -/
namespace Go.Proofs.YtchcmklelmlbgaaGreat
open Go.RowKit
open Go.ChangeShapes Go.WideShapes Go.ChangeAt Go.Joins Go.Deep
set_option linter.unusedVariables false
set_option maxRecDepth 100000
structure Ac where
  kind : Int
  tx : Wal.Tx
structure AcAt (w : World) (Q : Nat → Prop) (b o : Nat) (x : Ac) (Ai : Option Addr) (ci : Nat) : Prop where
  c : w.cell? ⟨b, o, none⟩ = some (.int .i64 x.kind)
  t : Wal.TxAt w Q b (o + 1) x.tx Ai ci
  lo : -9223372036854775808 ≤ x.kind
  hi : x.kind ≤ 9223372036854775807
def Acs (w : World) (Q : Nat → Prop) (A : Option Addr) (l : List Ac) : Prop :=
  l ≠ [] → ∃ b off, A = some ⟨b, off, none⟩ ∧ b < w.heap.size ∧ Q b ∧ ∀ i (h : i < l.length), ∃ Ai ci, AcAt w Q b (off + i * 3) l[i] Ai ci
theorem Acs.get {w : World} {Q : Nat → Prop} {A : Option Addr} {l : List Ac} (h : Acs w Q A l) {i : Nat} (hi : i < l.length) :
    ∃ b off Ai ci, A = some ⟨b, off, none⟩ ∧ b < w.heap.size ∧ Q b ∧ AcAt w Q b (off + i * 3) l[i] Ai ci := by
  obtain ⟨b, off, rfl, hb, hQ, hc⟩ := h (by intro e; rw [e] at hi; exact absurd hi (by simp))
  obtain ⟨Ai, ci, h1⟩ := hc i hi
  exact ⟨b, off, Ai, ci, rfl, hb, hQ, h1⟩
theorem Acs.keep {w w' : World} {Q : Nat → Prop} {A : Option Addr} {l : List Ac} {fp : List Nat} (h : Acs w Q A l) (k : Keep fp w w') (hf : ∀ j, Q j → j < w.heap.size → j ∉ fp) : Acs w' Q A l := fun hne => by
  obtain ⟨b, off, rfl, hb, hq, hc⟩ := h hne
  refine ⟨b, off, rfl, Nat.lt_of_lt_of_le hb k.size, hq, fun i hi => ?_⟩
  obtain ⟨Ai, ci, h1⟩ := hc i hi
  exact ⟨Ai, ci, (World.cell?_of_block (k.block hb (hf b hq hb))).trans h1.c, h1.t.keep k hf hb hq, h1.lo, h1.hi⟩
theorem Acs.on {w w' : World} {Q : Nat → Prop} {A : Option Addr} {l : List Ac} (h : Acs w Q A l) (b : Below w.heap.size w w') : Acs w' Q A l := h.keep (Keep.of_below b []) (fun j _ _ => by simp)
theorem sacts_of {A : Option Addr} {len cap : Nat} {H : Type} {enc : TypeId × Value → H} {w : World} {held : Bool} {fuel : Nat} {x : DataW H × List MemPlace}
    (h : DataW.trod enc Tryz.prog w 0 (fun _ => true) held fuel 24 (Value.slice A len cap).cells.toList = some x) :
    ∃ l : List Ac, l.length = len ∧ Acs w (fun j => j < w.heap.size) A l ∧ len ≤ cap ∧ cap ≤ maxLen := by
  rcases open_slice Tryz.underlying24 h with h0 | ⟨a, l', c', m, n, D, Pl, hcs, hb, hl, hm, hmm, hx, hi⟩
  · have hcs := h0.1
    simp [Value.cells] at hcs
    obtain ⟨rfl, rfl, rfl⟩ := hcs
    exact ⟨[], rfl, fun h => absurd rfl h, by omega, by unfold maxLen; omega⟩
  · simp [Value.cells] at hcs
    obtain ⟨rfl, rfl, rfl⟩ := hcs
    simp only [if_true] at hmm
    subst hmm
    have key : ∀ i, i < len → ∃ f : Ac, ∃ b off, a = ⟨b, off, none⟩ ∧ b < w.heap.size ∧ ∃ Ai ci, AcAt w (fun j => j < w.heap.size) b (off + i * 3) f Ai ci := by
      intro i hil
      obtain ⟨cs', hc, ht'⟩ := hi i (by omega)
      obtain ⟨_, hcl, hat⟩ := World.cells?_some hc
      obtain ⟨y0, y1, n1, _, hl1, t0, t1⟩ := trod_struct2 Tryz.underlying43 ht'
      have k3 : Tryz.prog.cellsOf 43 = 3 := by kernel_rfl
      have k2 : Tryz.prog.cellsOf 41 = 2 := by kernel_rfl
      have ki : Tryz.prog.cellsOf 3 = 1 := by kernel_rfl
      have ku : Tryz.prog.cellsOf 39 = 1 := by kernel_rfl
      have kp : Tryz.prog.cellsOf 38 = 1 := by kernel_rfl
      rw [k3] at hcl hat
      obtain ⟨v0, v1, v2, rfl⟩ : ∃ v0 v1 v2, cs' = [v0, v1, v2] := by
        match cs', hcl with
        | [a, b, c], _ => exact ⟨a, b, c, rfl⟩
      dsimp only at t0 t1
      rw [ki] at t0
      rw [k2] at t1
      change DataW.trod enc Tryz.prog w 0 (fun _ => true) held n1 3 [v0] = some y0 at t0
      change DataW.trod enc Tryz.prog w 0 (fun _ => true) held n1 41 [v1, v2] = some y1 at t1
      obtain ⟨z0, z1, n2, _, hl2, s0, s1⟩ := trod_struct2 Tryz.underlying41 t1
      dsimp only at s0 s1
      rw [kp] at s0
      rw [ku] at s1
      change DataW.trod enc Tryz.prog w 0 (fun _ => true) held n2 38 [v1] = some z0 at s0
      change DataW.trod enc Tryz.prog w 0 (fun _ => true) held n2 39 [v2] = some z1 at s1
      obtain ⟨kd, e0, _, wk⟩ := DataW.trod_int Tryz.underlying3 t0
      obtain ⟨A4, l4, c4', e4, r4, q4, m4⟩ := pages_of1 s0
      obtain ⟨u1, e1, _, w1⟩ := DataW.trod_int Tryz.underlying39 s1
      simp only [List.cons.injEq, and_true] at e0 e1
      subst e0 e1 e4
      obtain ⟨u1', rfl⟩ := wf64 w1
      have c0 := hat 0 (by omega)
      have c1 := hat 1 (by omega)
      have c2 := hat 2 (by omega)
      rw [Go.Deep.add_add] at c0 c1 c2
      simp only [List.getElem?_cons_zero, List.getElem?_cons_succ] at c0 c1 c2
      obtain ⟨b, off, spot⟩ := a
      have hspot : spot = none := by
        obtain ⟨cs0, g0, _⟩ := hi 0 (by omega)
        obtain ⟨_, g1, g2⟩ := World.cells?_some g0
        have g3 := g2 0 (by rw [k3]; omega)
        rw [k3] at g1
        rw [List.getElem?_eq_getElem (by omega)] at g3
        exact World.cell?_spot g3
      subst hspot
      rw [Addr.add_lit] at c0 c1 c2
      have hb : b < w.heap.size := by
        rcases Nat.lt_or_ge b w.heap.size with h | h
        · exact h
        · simp [World.cell?, Array.getElem?_eq_none h] at c0
      exact ⟨⟨kd, ⟨l4, u1'⟩⟩, b, off, rfl, hb, A4, c4', c0, ⟨c1, c2, r4, q4, m4⟩, (wfi wk).1, (wfi wk).2⟩
    obtain ⟨l, hll, hp⟩ := choose_list key
    refine ⟨l, hll, fun hne => ?_, hl, hm⟩
    have hpos : 0 < l.length := by cases l; exact absurd rfl hne; simp
    obtain ⟨b, off, rfl, hb, _⟩ := hp 0 hpos
    refine ⟨b, off, rfl, hb, hb, fun i hi => ?_⟩
    obtain ⟨b', off', e, _, h2⟩ := hp i hi
    injection e with e1 e2 _
    subst e1 e2
    exact h2
end Go.Proofs.YtchcmklelmlbgaaGreat

/- The store's law: light. No statement is proved here. -/
namespace Go.Proofs.YtchcmklelmlbgaaGreat.Sto
open Go.RowKit
open Go.Proofs.YtchcmklelmlbgaaGreat.Geom
open Go.Proofs.YtchcmklelmlbgaaGreat.Sup (Gb gv gcell gthree)
open Go.Proofs.YtchcmklelmlbgaaGreat.Wal (Tx Txs TxAt LightOk LightRet)
set_option linter.unusedVariables false
set_option maxRecDepth 100000
theorem _root_.Go.Proofs.YtchcmklelmlbgaaGreat.Wal.Txs.one {w : World} {Q : Nat → Prop} {b o : Nat} {x : Tx} {Ai : Option Addr} {ci : Nat} (h : TxAt w Q b o x Ai ci) (t : TypeId) :
    Txs (w.alloc (.cells #[.slice Ai x.pages.length ci, .int .u64 (x.gen.toNat : Int)] t)) (fun j => Q j ∨ j = w.heap.size) (some ⟨w.heap.size, 0, none⟩) [x] := fun _ => by
  have F := Blk.new w [.slice Ai x.pages.length ci, .int .u64 (x.gen.toNat : Int)] t
  refine ⟨w.heap.size, 0, rfl, F.lt, .inr rfl, fun i hi => ?_⟩
  have hi0 : i = 0 := by simpa using hi
  subst hi0
  exact ⟨Ai, ci, F.cell (k := 0) (by simp), F.cell (k := 1) (by simp), (h.pgs.on (b1alloc w _)).imp (fun j _ hj => .inl hj), h.cap, h.max⟩
def SLight (ga gd gl : Int) (l : List Ac) : Prop := l.length ≤ 20 ∧ pagesOf ga gd gl ≤ 30 ∧ ∀ i (h : i < l.length), LightOk gl [l[i].tx]
def SLightRet (ga gd gl : Int) (l : List Ac) (e : Ending) : Prop := ∃ B : Bool, e = .returned (.bool B) ∧ (B = true → SLight ga gd gl l)
set_option maxHeartbeats 1000000 in
theorem slight_any (Q : Nat → Prop) (A : Option Addr) (l : List Ac) (c : Nat) (ga gd gl : Int) (w : World) (hG : Gb ga gd gl) (hr : Acs w Q A l) :
    Calls Tryz.prog 8 #[gv ga gd gl, .slice A l.length c] w fun e w' => SLightRet ga gd gl l e ∧ Below w.heap.size w w' := by
  have FG := Blk.new w (gcell ga gd gl) 23
  have b0 := b1alloc w (.cells (gcell ga gd gl).toArray 23)
  obtain ⟨z0, z1, z2⟩ := gthree FG
  have HP := Lib.hid (fun W => Geom.rpages_any ga gd gl W hG.a0 hG.a1 hG.d0 hG.d1 hG.g0 hG.g1)
  have HR := Lib.hid (hr.on b0)
  have HFG := Lib.hid FG
  have HB0 := Lib.hid b0
  clear hr FG hG
  by_cases h20 : (20 : Int) < (l.length : Int)
  · go_enter Tryz.func8, Tryz.ntmps8
    go_wp2_with fail
    go_ret
    exact ⟨⟨false, rfl, fun h => by cases h⟩, b0⟩
  by_cases h30 : (30 : Int) < pagesOf ga gd gl
  · go_enter Tryz.func8, Tryz.ntmps8
    go_wp2_with (go_at_call 22; refine (HP.out _).mono ?_; rintro e w3 ⟨rfl, b3⟩)
    go_ret
    exact ⟨⟨false, rfl, fun h => by cases h⟩, bt HB0.out b3⟩
  go_enter Tryz.func8, Tryz.ntmps8
  go_upto_region 3 with (go_at_call 22; refine (HP.out _).mono ?_; rintro e w3 ⟨rfl, b3⟩)
  have HB3 := Lib.hid b3
  have H20 := Lib.hid h20
  have H30 := Lib.hid h30
  clear b3 h20 h30 b0 z0 z1 z2
  go_wp2_with fail
  go_loopw [5] (fun i wr => ∃ k : Nat, k ≤ l.length ∧ i = .int .i64 (k : Int) ∧ Below w3.heap.size w3 wr ∧ ∀ j (hj : j < l.length), j < k → LightOk gl [l[j].tx]) (fun i _ => l.length - (intOf i).toNat)
  case atStart => exact ⟨0, by omega, rfl, Below.refl _ _, fun j _ h => absurd h (by omega)⟩
  case round =>
    obtain ⟨k, hk, rfl, kr, hL⟩ := hrel
    have bR := bt HB3.out kr
    by_cases hlt : k < l.length
    · have hkn : (k : Int) < (l.length : Int) := by omega
      obtain ⟨b, off, Ai, ci, rfl, hb, hQb, hx⟩ := (HR.out.on bR).get hlt
      obtain ⟨x, hx0⟩ : ∃ x, x = l[k] := ⟨_, rfl⟩
      rw [← hx0] at hx
      obtain ⟨y0, y1, y2⟩ := gthree (HFG.out.on bR)
      have t0 := hx.t.c0
      have t1 := hx.t.c1
      have HLi := Lib.hid (fun W (bW : Below wr.heap.size wr W) => (Wal.light_any _ (some ⟨W.heap.size, 0, none⟩) [x.tx] 1 ga gd gl _ (Txs.one (w := W) (hx.t.keep (Keep.of_below bW []) (fun j _ _ => by simp) hb hQb) 41) : Calls Tryz.prog 33 #[gv ga gd gl, .slice (some ⟨W.heap.size, 0, none⟩) 1 1] _ _))
      have cz : Below wr.heap.size wr wr.drew := (Below.refl _ _).drew
      have Hk1 := Lib.hid hlt
      have hk20 : (k : Int) < 20 := by have := H20.out; omega
      have HKG := Lib.hid (fun W (bW : Below wr.heap.size wr W) => show W.cell? ⟨w.heap.size, 0, none⟩ = some (.int .i64 ga) ∧ W.cell? ⟨w.heap.size, 1, none⟩ = some (.int .i64 gd) ∧ W.cell? ⟨w.heap.size, 2, none⟩ = some (.int .i64 gl) ∧ W.cell? ⟨b, off + k * 3 + 1, none⟩ = some (.slice Ai x.tx.pages.length ci) ∧ W.cell? ⟨b, off + k * 3 + 1 + 1, none⟩ = some (.int .u64 (x.tx.gen.toNat : Int)) from ⟨(gthree ((HFG.out.on bR).on bW)).1, (gthree ((HFG.out.on bR).on bW)).2.1, (gthree ((HFG.out.on bR).on bW)).2.2, (World.cell?_of_block (bW.block _ hb)).trans t0, (World.cell?_of_block (bW.block _ hb)).trans t1⟩)
      have HL := Lib.hid hL
      have HX := Lib.hid hx0
      clear hL hx hx0
      go_upto_region 6 with (fail)
      go_region_held3 (fun W => W.cell? ⟨w.heap.size, 0, none⟩ = some (.int .i64 ga) ∧ W.cell? ⟨w.heap.size, 1, none⟩ = some (.int .i64 gd) ∧ W.cell? ⟨w.heap.size, 2, none⟩ = some (.int .i64 gl) ∧ W.cell? ⟨b, off + k * 3 + 1, none⟩ = some (.slice Ai x.tx.pages.length ci) ∧ W.cell? ⟨b, off + k * 3 + 1 + 1, none⟩ = some (.int .u64 (x.tx.gen.toNat : Int))) (first | exact HKG.out _ cz | exact HKG.out _ (bt cz (b1alloc _ _)) | exact HKG.out _ b6) ((go_at_call 33; refine (HLi.out _ cz).mono ?_; rintro e w5 ⟨⟨B, rfl, hB⟩, b5⟩; have b6 := bt cz (bt (b1alloc _ _) b5)))
      have HB6 := Lib.hid b6
      have HBB := Lib.hid hB
      have Hkr := Lib.hid kr
      have HbR := Lib.hid bR
      clear b6 hB b5 t0 t1 y0 y1 y2 cz kr bR
      cases B with
      | false =>
        go_wp2_with fail
        go_ret
        exact ⟨⟨false, rfl, fun h => by cases h⟩, bt HB0.out (bt HbR.out HB6.out)⟩
      | true =>
        go_wp2_with fail
        case roundEnd =>
          refine ⟨⟨k + 1, Hk1.out, by go_num, bt Hkr.out HB6.out, fun j hj hlt2 => ?_⟩, by have := Hk1.out; simp only [intOf]; omega⟩
          by_cases e : j < k
          · exact HL.out j hj e
          · obtain rfl : j = k := by omega
            have := HBB.out rfl
            rw [HX.out] at this
            exact this
    · obtain rfl : k = l.length := by omega
      have hkn : ¬ (l.length : Int) < (l.length : Int) := by omega
      have HL := Lib.hid hL
      have HK := Lib.hid bR
      clear hL kr bR
      go_wp2_with fail
      go_ret
      exact ⟨⟨true, rfl, fun _ => ⟨by have := H20.out; omega, by have := H30.out; omega, fun i h => HL.out i h h⟩⟩, bt HB0.out HK.out⟩
end Go.Proofs.YtchcmklelmlbgaaGreat.Sto
